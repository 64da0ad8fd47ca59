/- A name and a type put into a type. The type that a raw tree is made into. Raw trees, fe -/
import Derived.Test.YtmcjecniobkggaaGreatQ3
set_option linter.constructorNameAsVariable false
set_option maxHeartbeats 8000000
set_option linter.unusedVariables false
set_option linter.unusedSimpArgs false
set_option linter.unusedSectionVars false
set_option maxRecDepth 100000
namespace Go.Proofs.YtmcjecniobkggaaGreat
open Eva Go.RowKit
variable {s p:Pt->Prop}{v g:St}{e:List V}{n:Pt}{k:List Nat}{z:List Nd}{b:Tb}{d l:Nat}{i:V}{r q:List Rw}{f:Tb×Nat×Int}{h:Rw}
theorem JmI {α β:Type}{R:α->β->Prop}{x:α}{y:β}(f:R x y):∀(k:Nat) {d:List α} {ks:List β},d.length=ks.length->(∀i (h:i<d.length) (n:i<ks.length),R d[i] ks[i])->∀i (h:i<(d.take k++x::d.drop k).length) (n:i<(ks.take k++y::ks.drop k).length),R (d.take k++x::d.drop k)[i] (ks.take k++y::ks.drop k)[i]
 |0,d,ks,g,h,i,l,m=>by grind
 |k+1,[],[],g,h,i,l,m=>by grind
 | k+1,e::d,c::ks,g,h,i,l,m=>by
   cases i with
   |zero=>exact h 0 (by simp) (by simp)
   |succ i=>exact JmI f k (by grind) (fun j a b=>h (j+1) (by grind) (by grind)) i (by grind) (by grind)
theorem jp {a:Fr}{p:List Nat×List Nat}{l:List (List Nat×List Nat)}(b:JP a [p]=true)(c:JP a l=true):JP a (p::l)=true:=by
 simp[JP]at b c⊢
 grind
theorem putC {P:Pt->Prop}{t x:Ty}{xe:List V}(n:Str)(hw:WF v)(ht:TyC P v e t)(hx:TyC P v xe x)(bk:t.D.length<=8)(hk:t.G.length=t.D.length)(hP:∀r,v.A r= .none->P r):
  Dz 108 [.j e,ofL n, .j xe] v fun c bl=>Gr v bl/\∃e',c= .j e'/\TyC P bl e' (putS t n x):=by
 refine Jl (aT Tryz.func108 rfl) rfl ?_;obtain⟨n0,ab⟩:=nxE v;have cd:=ht;have bm:=hx
 cases ht with
 | @mk X Y N ks nv kv es h1 h2 h3 h4=>
 cases hx with
 | @mk xk xn av aw ad ae c7 x1 x2 x3 x4=>
 simp[Ty.D,Ty.G]at bk hk;have c1:=h1.A;have s1:=h1.B;have c2:=h2.A;have s2:=h2.B;have c3:=x1.A;have s3:=x1.B;have c4:=x2.A;have s4:=x2.B;have len1:=h1.G;rw[Jw]at len1;obtain⟨Q,ax⟩:=exE (up 0 n0);obtain⟨b2,bn⟩:=exE (up 1 n0);obtain⟨b3,ay⟩:=exE (up 2 n0);obtain⟨I,hI⟩:=opE fun T S=>(T 1=ofL n/\T 3= .e Q 0/\T 5= .e b2 0/\T 6= .e b3 0/\Gr v S/\(∃t,S.A Q= .a t [.d .i64 X,ofL Y,nv,kv])/\(∃t,S.A b2= .a t [.d .i64 xk,ofL xn,ad,ae])/\(∃t,S.A b3= .a t [.d .i64 0,ofL [], .g, .g]))
 have c8:up 0 n0≠up 1 n0:=by simp[XZ]
 have c9:up 0 n0≠up 2 n0:=by simp[XZ]
 have da:up 1 n0≠up 2 n0:=by simp[XZ]
 simp only[CT,Tryz.f108,XY,simprocAttr];refine YQ I ?_ ?_
 ·simp[XZ,ab,s1,s2,s3,s4];refine(hI _ _).2 ⟨rfl,by simp[XZ,ax],by simp[XZ,bn],by simp[XZ,ay],(((Gr.F hw).L (Jd _)).L (Jd _)).L (Jd _),⟨_,by rw[ax];simp[XZ,ab];rfl⟩,⟨_,by rw[bn];simp[XZ,ab];rfl⟩,⟨_,by rw[ay];simp[XZ,ab];rfl⟩⟩
 intro T U ce;obtain⟨Z,W,f5,f6,g1,⟨t1,r1⟩,⟨t2,r2⟩,⟨t3,r3⟩⟩:=(hI _ _).1 ce;obtain⟨k,az⟩:∃k,k=KR n N:=⟨_,rfl⟩
 have db:k<=N.length:=by rw[az];exact JcO _ _
 have l1:(strs N).length=N.length:=Jw _;have ai:∀i (h:i<N.length),∃q o,Jo 1 nv (.d .i64 i)=some (.e q o, .a)/\ld1 (U.A q) o=some (ofL N[i], .a):=fun i h=>by
  obtain⟨q,o,a1,a2,a3,a4,a5⟩:=(h1.H g1).I (i:=i) (by omega);refine⟨q,o,a1, ?_⟩;have s:(strs N)[i]=[ofL N[i]]:=by simp[strs]
  simp_all
 rw[Ja];simp[XY];refine Jz (fun T S=>(U=S/\T 1=ofL n/\T 3= .e Q 0/\T 5= .e b2 0/\T 6= .e b3 0/\T 7= .d .i64 k)) (fun J hJ=> ?_) ?_
 ·simp[XY];obtain⟨L,hL⟩:=loE fun j T S=>∃i:Nat,j+i=k/\U=S/\T 1=ofL n/\T 3= .e Q 0/\T 5= .e b2 0/\T 6= .e b3 0/\T 7= .d .i64 i;refine JC L k (by omega) ((hL _ _ _).2 ⟨0,by omega,rfl,Z,W,f5,f6,by rfl⟩) ?_;clear Z W f5 f6;intro j T S cf;obtain⟨i,hj,rfl,Z,W,f5,f6,f7⟩:=(hL _ _ _).1 cf;by_cases hi:i<N.length
  ·obtain⟨q,o,a1,a2⟩:=ai i hi;by_cases ao:i<k
   ·have a0:Op.bytesLess N[i] n=true:=JgJ n N i hi (by omega);have a6:=wiN (i:=i) (by omega);simp[XZ,Z,W,f7,r1,len1,hi,a1,a2,a0,a6];exact⟨k-(i+1),by omega,(hL _ _ _).2 ⟨i+1,by omega,rfl,Z,W,f5,f6,rfl⟩⟩
   ·have ao:i=k:=by omega
    subst ao;have a0:Op.bytesLess N[i] n=false:=by
     have:=JgK n N (by omega)
     grind
    simp[XZ,Z,W,f7,r1,len1,hi,a1,a2,a0];exact hJ _ _ ⟨rfl,Z,W,f5,f6,f7⟩
  ·have ao:i=k:=by omega
   subst ao;simp[XZ,W,f7,r1,len1,hi];exact hJ _ _ ⟨rfl,Z,W,f5,f6,f7⟩
 clear Z W f5 f6;rintro T S ⟨rfl,Z,W,f5,f6,f7⟩;have n3:v.A b3= .none:=by rw[ay];exact nx0 hw ab 2
 have n1:v.A Q= .none:=by rw[ax];exact nx0 hw ab 0
 by_cases aj:N[k]? =some n
 ·have hi:k<N.length:=by grind
  have cg:(k:Int)<N.length:=by omega
  obtain⟨q,o,a1,a2⟩:=ai k hi;have ch:N[k]=n:=by grind
  rw[ch]at a2;rw[Je,Ja];simp only[XZ,simprocAttr,Z,W,f6,f7,r1,r3,len1,cg,a1,a2,s1,s2];have gw:=g1.J (f:=fun u=> .a u [.d .i64 X,ofL Y,nv,kv]) n3 (Jb r3) (by rw[r3]) (Jd _);refine⟨gw,_,rfl, ?_⟩;have s:putS (.mk X Y N ks) n (.mk xk xn av aw)= .mk X Y N ks:=by
   rw[putS];show(if N[KR n N]? =some n then _ else _)=_
   grind
  rw[s];exact cd.H gw
 ·skip
  refine Jz (fun T S=>(U=S/\T 1=ofL n/\T 3= .e Q 0/\T 5= .e b2 0/\T 6= .e b3 0/\T 7= .d .i64 k)) (fun M hM=> ?_) ?_
  ·by_cases hi:k<N.length
   ·obtain⟨q,o,a1,a2⟩:=ai k hi;have cj:(N[k]=n)=False:=XF fun s=>aj (by grind);simp[XZ,Z,W,f7,r1,len1,hi,a1,a2,cj];exact hM _ _ ⟨rfl,Z,W,f5,f6,f7⟩
   ·simp[XZ,W,f7,r1,len1,hi];exact hM _ _ ⟨rfl,Z,W,f5,f6,f7⟩
  clear Z W f5 f6 f7;rintro T S ⟨rfl,Z,W,f5,f6,f7⟩;have w1:=g1.D;have ap:k<=(strs N).length:=by omega
  have aq:k<=es.length:=by omega
  obtain⟨va,ck,sa,_⟩:=JeZ (h1.H g1) (k:=k) ap;obtain⟨vb,cl,sb,_⟩:=Je0 (h1.H g1) (k:=k) ap;obtain⟨vc,cm,sc,_⟩:=JeZ (h2.H g1) (k:=k) aq;obtain⟨vd,cn,sd,_⟩:=Je0 (h2.H g1) (k:=k) aq;have bo:∀S',QV S' 1 nv none (some (.d .i64 (k:Int))) none=some (va, .a):=fun _=>ck;have bp:∀S',QV S' 1 nv (some (.d .i64 (k:Int))) none none=some (vb, .a):=fun _=>cl;have bq:∀S',QV S' 4 kv none (some (.d .i64 (k:Int))) none=some (vc, .a):=fun _=>cm;have br:∀S',QV S' 4 kv (some (.d .i64 (k:Int))) none none=some (vd, .a):=fun _=>cn;obtain⟨m1,af⟩:=nxE U;have a7:=fun j=>nes (Jr w1 af (Jb r1) j);have dc:=fun j=>nes (Jr w1 af (Jb r2) j);have dd:=fun j=>nes (Jr w1 af (Jb r3) j);have bt:∀(z:Nat) (l:List (List V)) (q:Nat),okC l->okC (l.take q):=fun _ l q h s he=>h s (Zh he);have bu:∀(z:Nat) (l:List (List V)) (q:Nat),okC l->okC (l.drop q):=fun _ l q h s he=>h s (ZZ he);have gn:∀S:St,WF S->∀l,Gr S (S.B fun t=> .a t l):=fun S w l=>Gr.G w (Jd _);have bv:okC es:=fun s he=>by
   obtain⟨i,hi,rfl⟩:=X1 he;exact(h4 i hi (by omega)).J
  rw[Ja];simp[XY,W,f7,r1,af,a7,bo];have ga:=gn U w1 [];have co:SlF U (U.B fun t=> .a t []) (.m (up 0 m1) 0 0 1 0) 1 []:=⟨by simp, .inr ⟨up 0 m1,U.t,nx0 w1 af 0,by simp only[XZ,simprocAttr,af];rfl, .inr rfl⟩⟩
  refine Jmd (S0:=U) ga co (sa.H ga) (bt 1 _ _ (Yp N)) (by grind) (by grind) ?_;intro S2 v2 g2 ag _;rw[XT]at ag;simp[XY];have O:S2.A Q= .a t1 [.d .i64 X,ofL Y,nv,kv]:=g2.A r1;obtain⟨m2,aa⟩:=nxE S2;have w2:=g2.D;have a7:=fun j=>nes (Jr w2 aa (Jb O) j);rw[Ja];simp[XY,W,f7,O,aa,a7,bq];have gb:=gn S2 w2 [];have cp:SlF U (S2.B fun t=> .a t []) (.m (up 0 m2) 0 0 4 0) 4 []:=⟨by simp, .inr ⟨up 0 m2,S2.t,by rw[<-aa];exact g2.K,by simp only[XZ,simprocAttr,aa];rfl, .inr rfl⟩⟩
  refine Qw (S0:=U) (g2.B gb) cp ((sc.H g2).H gb) (bt 4 _ _ bv) (by grind) (by grind) ?_;intro S3 v3 g3 ah bw a8;rw[XT]at ah;have ar:∀{r},rowOf v2=some r->S2.A r≠ .none:=fun y=>ag.A y;have bx:∀r,rowOf v3=some r->S2.A r= .none:=fun r y=>by
   rcases bw with s|s
   ·rw[s]at y;injection y with y;rw[<-y];exact nx0 w2 aa 0
   ·rw[s]at y;injection y with y;rw[<-y];have:=nx0 w2 aa 1;simpa only[XZ,simprocAttr,aa]using this
  have cq:SlF U S3 v2 1 ((strs N).take k):=(ag.G gb).B fun r y=>a8 r ((ag.G gb).A y) (fun s=>by
   injection s with s;exact Jr w2 aa (ar y) 0 s.symm)
  have cr:∀r,rowOf v3=some r->rowOf v2≠some r:=fun r a b=>ar b (bx r a);simp[XY];have O:=g3.A r1;have au:=g3.A r2;rw[Ja];simp[XY,Z];have w3:=g3.D;have gc:=gn S3 w3 [ofL n];have ba:U.A Q≠ .none:=Jb r1;have bb:U.A b2≠ .none:=Jb r2;refine QG (S0:=U) (g3.B gc) (cq.G gc) (Ql rfl) (fun s he=>by rw[Xn.1 he];rfl) (by simp) (by simp) (by grind) ?_;intro S4 v4 g4 a9 bz bc;have b0:∀r,rowOf v4=some r->S3.A r= .none:=fun r y=>by
   rw[bz]at y;injection y with y;rw[<-y];exact gc.I (J9 gc.D)
  have bd:SlF U S4 v3 4 (es.take k):=(ah.G gc).B fun r y=>bc r ((ah.G gc).A y) fun s=>cr r y s;have O:=g4.A r1;simp[XY,W,f7,O,bp];refine Qw (S0:=U) g4 a9 (sb.H g4) (bu 1 _ _ (Yp N)) (by grind) (by grind) ?_;intro S5 v5 g5 be b4 bf;have cs:SlF U S5 v3 4 (es.take k):=bd.B fun r y=>bf r (bd.A y) fun s=>ah.A y (b0 r s);have au:=g5.A r2;simp[XY,f5,au,s3,s4];have w5:=g5.D;have gd:=gn S5 w5 [.d .i64 xk,ofL xn,ad,ae];have cz:Kk [V.d .i64 xk,ofL xn,ad,ae]=true:=bm.J;refine QG (S0:=U) (g5.B gd) (cs.G gd) (Ql rfl) (fun s he=>by grind) (by simp) (by simp) (by grind) ?_;intro S6 v6 g6 ct b5 bg;have cu:∀r,rowOf v6=some r->S5.A r= .none:=fun r y=>by
   rw[b5]at y;injection y with y;rw[<-y];exact gd.I (J9 gd.D)
  have cv:∀r,rowOf v5=some r->rowOf v3≠some r:=fun r a b=>by
   rcases b4 with s|s
   ·rw[s]at a;exact ah.A b (b0 r a)
   ·rw[s]at a;injection a with a;rw[<-a]at b;exact bd.A b (J9 g4.D)
  have b6:SlF U S6 v5 1 ((strs N).take k++[[ofL n]]++(strs N).drop k):=(be.G gd).B fun r y=>bg r ((be.G gd).A y) (cv r y);have O:=g6.A r1;simp[XY,W,f7,O,br];refine Qw (S0:=U) g6 ct (sd.H g6) (bu 4 _ _ bv) (by grind) (by grind) ?_;intro S7 v7 g7 ak c0 bh;have al:SlF U S7 v5 1 ((strs N).take k++[[ofL n]]++(strs N).drop k):=b6.B fun r y=>bh r (b6.A y) fun s=>be.A y (cu r s);have O:=g7.A r1;have c5:=al.D.A;have s5:=al.D.B;have c6:=ak.D.A;have s6:=ak.D.B;simp[XY,W,O,c5,s5,c6,s6];have a2:=Qm ag ba;have cw:=Qm ag bb;have a4:=Qm a9 ba;have cx:=Qm a9 bb;have a3:=Qm ah ba;refine⟨jp (JQ (v:=v2) (w:= .e Q 2) (q:=Q) rfl rfl rfl a2)<|jp (JQ (v:=v2) (w:= .e b2 0) (q:=b2) rfl f5 rfl cw)<|jp (JQ (v:=v2) (w:= .e Q 3) (q:=Q) rfl rfl rfl a2)<|jp (JQ (v:=v4) (w:= .e b2 0) (q:=b2) rfl f5 rfl cx)<|jp (JQ (v:=v4) (w:= .e Q 3) (q:=Q) rfl rfl rfl a4) (JQ (v:=v3) (w:= .e Q 3) (q:=Q) rfl rfl rfl a3), ?_⟩;have b7:Gr v (S7.D Q t1 fun u=> .a u [.d .i64 X,ofL Y,v5,kv]):=(g1.B g7).J n1 (Jb O) (by rw[O];rfl) (Jd _);have rb:(S7.D Q t1 fun u=>Row.a u [V.d .i64 X,ofL Y,v5,kv]).A Q= .a S7.t [.d .i64 X,ofL Y,v5,kv]:=Jk _ _ _ _;obtain⟨S8,am⟩:=exE ((S7.D Q t1 fun u=>Row.a u [V.d .i64 X,ofL Y,v5,kv]).D Q S7.t fun u=>Row.a u [V.d .i64 X,ofL Y,v5,v7]);have g8:Gr v S8:=by rw[am];exact b7.J n1 (Jb rb) (by rw[rb];rfl) (Jd _)
  have nb:∀p,p≠Q->S8.A p=S7.A p:=fun p hp=>by rw[am,Ji _ _ _ hp,Ji _ _ _ hp]
  have bi:∃t,S8.A Q= .a t [.d .i64 X,ofL Y,v5,v7]:=⟨_,by rw[am];exact Jk _ _ _ _⟩
  rw[<-am];clear am b7 rb;obtain⟨t8,bi⟩:=bi;have cy:b3≠Q:=by grind
  have bj:S8.A b3= .a t3 [.d .i64 0,ofL [], .g, .g]:=by rw[nb b3 cy];exact g7.A r3
  rw[Ja];simp only[XZ,simprocAttr,W,f6,bi,bj,s5,s6];have g9:Gr v (S8.D b3 t3 fun u=> .a u [.d .i64 X,ofL Y,v5,v7]):=g8.J n3 (Jb bj) (by rw[bj];rfl) (Jd _);refine⟨g9,_,rfl, ?_⟩;have s:putS (.mk X Y N ks) n (.mk xk xn av aw)= .mk X Y (N.take k++n::N.drop k) (ks.take k++(.mk xk xn av aw)::ks.drop k):=by
   rw[putS];show(if N[KR n N]? =some n then _ else _)=_;rw[<-az,Xa aj,az];rfl
  rw[s];have b8:∀r,rowOf v5=some r->r≠Q/\r≠b3:=fun r y=>⟨fun s=>Qm al ba (by grind),fun s=>Qm al (Jb r3) (by grind)⟩
  have b9:∀r,rowOf v7=some r->r≠Q/\r≠b3:=fun r y=>⟨fun s=>Qm ak ba (by grind),fun s=>Qm ak (Jb r3) (by grind)⟩
  have k5:=al.B (st':=(S8.D b3 t3 fun u=> .a u [.d .i64 X,ofL Y,v5,v7])) fun r y=>by rw[Ji _ _ _ (b8 r y).2,nb r (b8 r y).1]
  have k7:=ak.B (st':=(S8.D b3 t3 fun u=> .a u [.d .i64 X,ofL Y,v5,v7])) fun r y=>by rw[Ji _ _ _ (b9 r y).2,nb r (b9 r y).1]
  have ca:∀r,U.A r= .none->P r:=fun r h=>hP r (g1.I h);have cb:(strs N).take k++[[ofL n]]++(strs N).drop k=strs (N.take k++n::N.drop k):=by simp[strs]
  rw[cb]at k5;have cc:es.take k++[[.d .i64 xk,ofL xn,ad,ae]]++es.drop k=es.take k++[.d .i64 xk,ofL xn,ad,ae]::es.drop k:=by simp
  rw[cc]at k7;refine .mk (es:=es.take k++[.d .i64 xk,ofL xn,ad,ae]::es.drop k) (k5.D.D fun r p _=>⟨ca r p,rfl⟩) (k7.D.D fun r p _=>⟨ca r p,rfl⟩) (by grind) ?_;exact JmI (R:=TyC P (S8.D b3 t3 fun u=> .a u [.d .i64 X,ofL Y,v5,v7])) (bm.H g9) k h3 fun i a b=>(h4 i a b).H g9
def Jc8 (nms:List Str)(d:Nat):Prop:=∀{P Q:Pt->Prop} {st:St} {e:List V} {r:Rw} {nv:V},WF st->RwC P st e r->SlAt Q st nv 1 (strs nms)->
 Dz 55 [.j e, .d .i64 d,nv] st fun v st'=>Gr st st'/\∃e',v= .j e'/\TyC (fun r=>st.A r= .none) st' e' (JK nms d r)
theorem Jnh (a:List Str)(d:Nat)(r:Rw):QW a d r=1\/QW a d r=2\/QW a d r=3\/QW a d r=4\/QW a d r=5\/QW a d r=6\/QW a d r=7\/QW a d r=8\/QW a d r=9:=by
 have b:=Zn r.A (show(9:Int)≠0 by decide);have c:=Zc r.A (show(0:Int)<9 by decide);unfold QW
 split
 ·omega
 ·omega
theorem JpJ {t x:Ty}{n:Str}(a:t.G.length=t.D.length)(b:t.D.length<=d):(putS t n x).G.length=(putS t n x).D.length/\(putS t n x).D.length<=d+1:=by
 unfold putS
 split
 ·exact⟨a,by omega⟩
 ·have:=JcO n t.D;simp[Ty.G,Ty.D]at*;omega
theorem JjZ (l:List Str)(bf:l.length<1000)(d:Nat)(hd:d<1000)(ih:d≠0->Jc8 l d):Jc8 l (d+1):=by
 intro P Q st e r nv hw h hn;refine Jl (aT Tryz.func55 rfl) rfl ?_;have hr:=h;obtain⟨br,bu,es,rfl,hk,cz,hz,h1,h2,h3,⟨c0,c5⟩,h4⟩:=h.A;obtain⟨n0,a7⟩:=nxE st;obtain⟨b,hb⟩:=exE (up 0 n0);obtain⟨b2,bg⟩:=exE (up 1 n0);have c1:=h1.A;have s1:=h1.B;have c2:=h2.A;have s2:=h2.B;have al:=hn.G;rw[Jw]at al;have e1:=Zn r.A (show(9:Int)≠0 by decide);have e2:=Zc r.A (show(0:Int)<9 by decide);simp only[CT,Tryz.f55,XY,simprocAttr];rw[Ja];simp only[XY,simprocAttr,a7,c1,s1,c2,s2];have c6:(((d+1:Nat):Int))=(d:Int)+1:=by omega
 obtain⟨S0,a8⟩:=exE ((st.B fun t=> .a t [.d .i64 r.A, .d .i64 r.n,br,bu]).B fun t=> .a t [.d .i64 0,ofL [], .g, .g]);have g0:Gr st S0:=by rw[a8];exact((Gr.F hw).L (Jd _)).L (Jd _)
 have r1:S0.A b= .a st.t [.d .i64 r.A, .d .i64 r.n,br,bu]:=by rw[a8,hb];simp only[XZ,simprocAttr,a7]
 have r2:∃t,S0.A b2= .a t [.d .i64 0,ofL [], .g, .g]:=⟨_,by rw[a8,bg];simp only[XZ,simprocAttr,a7];rfl⟩
 rw[<-hb,<-bg,<-a8];have w0:=g0.D;have c7:st.A b= .none:=by rw[hb];exact nx0 hw a7 0
 have bv:st.A b2= .none:=by rw[bg];exact nx0 hw a7 1
 have c8:b≠b2:=by
  rw[hb,bg];simp only[XZ,simprocAttr]
 clear a8;obtain⟨t2,r2⟩:=r2;obtain⟨K,hK⟩:∃K,K=1+r.A%9:=⟨_,rfl⟩
 have cp:IntKind.i64.wrap (1+r.A%9)=K:=by rw[hK];exact JV (by omega) (by omega)
 rw[Ja];simp only[XY,simprocAttr,r1];refine Jc (JfK r.A 9 _ (by decide) (by decide)) ?_;rintro _ _ ⟨rfl,rfl⟩;simp only[XY,simprocAttr,cp];obtain⟨k,aj⟩:∃k,k=QW l (d+1) r:=⟨_,rfl⟩
 obtain⟨B,hB⟩:∃B:Fr->Prop,∀fr,B fr<->(fr 1= .d .i64 ((d+1:Nat):Int)/\fr 2=nv/\fr 3= .e b 0/\fr 6= .e b2 0/\fr 7= .d .i64 k):=⟨_,fun _=>Iff.rfl⟩
 obtain⟨I,hI⟩:=opE fun fr S=>(S0=S/\B fr)
 have ad:k=if(K=9/\l=[])\/(d+1<=1/\4<=K/\K<=8)then 2 else K:=by rw[aj,hK];rfl
 refine QE I ?_ ?_
 ·by_cases k9:K=9
  ·by_cases av:l=[]
   ·have ak:k=2:=by rw[ad,Xd (.inl ⟨k9,av⟩)]
    rw[av]at al;simp only[XZ,simprocAttr,k9,al,GV];exact(hI _ _).2 ⟨rfl,(hB _).2 (by simp only[XZ,simprocAttr,ak,ZL])⟩
   ·have ak:k=9:=by rw[ad,Xa (by rintro(⟨_,h⟩|⟨_,_,h⟩);exact av h;omega),k9]
    have cg:((l.length:Nat):Int)≠0:=fun e=>av (XB.1 (by omega));by_cases ax:((d+1:Nat):Int)<=1
    ·simp only[XZ,simprocAttr,k9,al,cg,ax];exact(hI _ _).2 ⟨rfl,(hB _).2 (by simp only[XZ,simprocAttr,ak,ZL])⟩
    ·simp only[XZ,simprocAttr,k9,al,cg,ax];exact(hI _ _).2 ⟨rfl,(hB _).2 (by simp only[XZ,simprocAttr,ak,ZL])⟩
  ·by_cases ax:((d+1:Nat):Int)<=1
   ·by_cases k4:4<=K
    ·have k8:K<=8:=by omega
     have ak:k=2:=by rw[ad,Xd (.inr ⟨by omega,k4,k8⟩)]
     simp only[XZ,simprocAttr,k9,ax,k4,k8];exact(hI _ _).2 ⟨rfl,(hB _).2 (by simp only[XZ,simprocAttr,ak,ZL])⟩
    ·have ak:k=K:=by rw[ad,Xa (by rintro(⟨h,_⟩|⟨_,h,_⟩);exact k9 h;exact k4 h)]
     simp only[XZ,simprocAttr,k9,ax,k4];exact(hI _ _).2 ⟨rfl,(hB _).2 (by simp only[XZ,simprocAttr,ak,ZL])⟩
   ·have ak:k=K:=by rw[ad,Xa (by rintro(⟨h,_⟩|⟨h,_⟩);exact k9 h;omega)]
    simp only[XZ,simprocAttr,k9,ax];exact(hI _ _).2 ⟨rfl,(hB _).2 (by simp only[XZ,simprocAttr,ak,ZL])⟩
 intro fr S cq;obtain⟨rfl,bh⟩:=(hI _ _).1 cq;obtain⟨f1,f2,f3,W,Y⟩:=(hB _).1 bh;obtain⟨m0,bw⟩:=nxE S0;obtain⟨bt,bx⟩:=exE (up 0 m0);rw[Ja];simp[XY,Y,bw];rw[<-bx];have a9:S0.A bt= .none:=by rw[bx];exact nx0 w0 bw 0
 have ay:st.A bt= .none:=Ch.B (Ch.H (fun _=>False) g0) a9;obtain⟨S1,bi⟩:=exE ((S0.B fun t=> .a t [.d .i64 0,ofL [], .g, .g]).D bt S0.t fun u=> .a u [.d .i64 k,ofL [], .g, .g]);have bz:Gr S0 S1:=by rw[bi,bx];exact(Gr.F w0).M bw (Jd _) (Jd _)
 have rt:S1.A bt= .a S0.t.succ [.d .i64 k,ofL [], .g, .g]:=by rw[bi];exact Jk _ _ _ _
 rw[<-bi];clear bi;have g1:Gr st S1:=g0.B bz;have az:b2≠bt:=fun e=>by rw[e,a9]at r2;cases r2
 have ch:b≠bt:=fun e=>by rw[e,a9]at r1;cases r1
 have r1:=bz.A r1;have r2:=bz.A r2;obtain⟨J,hJ⟩:=opE fun fr S=>(∃T te t,JK l (d+1) r=T/\fr 6= .e b2 0/\fr 8= .e bt 0/\Gr st S/\S.A bt= .a t te/\S.A b2= .a t2 [.d .i64 0,ofL [], .g, .g]/\TyC (fun r=>S1.A r= .none) S te T)
 have bo:=Jnh l (d+1) r;rw[<-aj]at bo;have ba:∀(P:Pt->Prop) (S:St) (k:Int) (n:Str),TyC P S [.d .i64 k,ofL n, .g, .g] (.mk k n [] []):=fun P S k n=> .mk (es:=[]) (SlAt.K _ _ _) (SlAt.K _ _ _) rfl fun i h=>absurd h (by simp);have bj:4<=k->k<=8->d≠0:=fun a b e=>by
  subst e;by_cases c:(K=9/\l=[])\/(0+1<=1/\4<=K/\K<=8)
  ·rw[Xd c]at ad;omega
  ·rw[Xa c]at ad;exact c (.inr ⟨by omega,by omega,by omega⟩)
 have ah:IntKind.i64.wrap (((d+1:Nat):Int)-1)=(d:Int):=by rw[JV (by omega) (by omega)];omega
 have cj:∀r,S1.A r= .none->st.A r= .none:=fun r h=>Ch.B (Ch.H (fun _=>False) g1) h;refine QE J ?_ ?_
 ·rcases bo with rfl|rfl|rfl|rfl|rfl|rfl|rfl|rfl|rfl
  iterate 3
   ·simp[XZ,Y];exact(hJ _ _).2 ⟨_,_,_,by rw[JK];simp only[<-aj];rfl,W,rfl,g1,rt,r2,ba _ _ _ _⟩
  ·have ab:=bj (by decide) (by decide);simp[XZ,f1,f2,f3,Y,r1,c1,s1,c2,s2];refine Jc (kidC g1.D (hr.F g1) 0 (by decide)) ?_;rintro _ S2 ⟨v,ke,rfl,ap⟩;simp only[XZ,simprocAttr,f1,f2,ah];refine Jc (ih ab v.D ap (hn.H (g1.B v))) ?_;rintro _ S3 ⟨w,ce,rfl,ae⟩;obtain⟨y,z,ck,rfl,y1,y3,y4,y5⟩:=ae.B;have d1:=y1.A;have d2:=y1.B;have d3:=y3.A;have d4:=y3.B;have N:=w.A (v.A rt);obtain⟨Z,O⟩:=nxE S3;have ot:=fun j=>nes (Jr w.D O (Jb N) j);simp[XZ,Y,O,ot,N,d1,d2,d3,d4];obtain⟨X,s⟩:=exE ((S3.B fun t=> .a t [.d .i64 (JK l d (kidS r 0)).A,ofL (JK l d (kidS r 0)).B,y,z]).D bt S0.t.succ fun u=> .a u [.d .i64 4,ofL [], .g, .m (up 0 Z) 0 1 4 1]);rw[<-s];have gN:Gr S3 (S3.B fun t=> .a t [.d .i64 (JK l d (kidS r 0)).A,ofL (JK l d (kidS r 0)).B,y,z]):=Gr.G w.D (Jd _);have bb:Gr st S3:=g1.B (v.B w);have g4:Gr st X:=by rw[s];exact(bb.B gN).J ay (Jb (gN.A N)) (by rw[gN.A N];rfl) (Jd _)
   have qt:up 0 Z≠bt:=fun e=>by have:=nx0 w.D O 0;rw[e,N]at this;cases this
   have rq:X.A (up 0 Z)= .a S3.t [.d .i64 (JK l d (kidS r 0)).A,ofL (JK l d (kidS r 0)).B,y,z]:=by rw[s,Ji _ _ _ qt,<-O];exact JM _ _
   have af:X.A b2= .a t2 [.d .i64 0,ofL [], .g, .g]:=by rw[s,Ji _ _ _ az];exact gN.A (w.A (v.A r2))
   have ag:∃t,X.A bt= .a t [.d .i64 4,ofL [], .g, .m (up 0 Z) 0 1 4 1]:=⟨_,by rw[s];exact Jk _ _ _ _⟩
   obtain⟨t4,ag⟩:=ag;have q1:S1.A (up 0 Z)= .none:=Ch.B (Ch.H (fun _=>False) (v.B w)) (nx0 w.D O 0);have am:TyC (fun r=>S1.A r= .none) X [.d .i64 (JK l d (kidS r 0)).A,ofL (JK l d (kidS r 0)).B,y,z] (JK l d (kidS r 0)):=ae.A fun r p e=>⟨Ch.B (Ch.H (fun _=>False) v) p,by
    rw[s,Ji _ _ _ fun k=>by rw[k,v.A rt]at p;cases p];exact gN.d r e⟩
   have aq:TyC (fun r=>S1.A r= .none) X [.d .i64 4,ofL [], .g, .m (up 0 Z) 0 1 4 1] (.mk 4 [] [] [JK l d (kidS r 0)]):=
    .mk (es:=[[.d .i64 (JK l d (kidS r 0)).A,ofL (JK l d (kidS r 0)).B,y,z]]) (SlAt.K _ _ _) ⟨fun e he=>by rw[Xn.1 he];rfl, .inr ⟨up 0 Z,0,q1, .inr ⟨1,Xb 1,rfl⟩,_, .inl ⟨_,rq⟩,by simp,by simp⟩⟩ rfl fun i h h'=>by
     have:i=0:=by simp at h;omega
     subst this;exact am
   clear s;exact(hJ _ _).2 ⟨_,_,_,by rw[JK];simp only[<-aj];rfl,W,rfl,g4,ag,af,aq⟩
  ·have ab:=bj (by decide) (by decide);simp[XZ,f1,f2,f3,Y,r1,c1,s1,c2,s2];refine Jc (kidC g1.D (hr.F g1) 0 (by decide)) ?_;rintro _ S2 ⟨v,ke,rfl,ap⟩;simp only[XZ,simprocAttr,f1,f2,ah];refine Jc (ih ab v.D ap (hn.H (g1.B v))) ?_;rintro _ S3 ⟨w,ce,rfl,ae⟩;obtain⟨y,z,ck,rfl,y1,y3,y4,y5⟩:=ae.B;have d1:=y1.A;have d2:=y1.B;have d3:=y3.A;have d4:=y3.B;have N:=w.A (v.A rt);obtain⟨Z,O⟩:=nxE S3;have ot:=fun j=>nes (Jr w.D O (Jb N) j);simp[XZ,Y,O,ot,N,d1,d2,d3,d4];obtain⟨X,s⟩:=exE ((S3.B fun t=> .a t [.d .i64 (JK l d (kidS r 0)).A,ofL (JK l d (kidS r 0)).B,y,z]).D bt S0.t.succ fun u=> .a u [.d .i64 5,ofL [], .g, .m (up 0 Z) 0 1 4 1]);rw[<-s];have gN:Gr S3 (S3.B fun t=> .a t [.d .i64 (JK l d (kidS r 0)).A,ofL (JK l d (kidS r 0)).B,y,z]):=Gr.G w.D (Jd _);have bb:Gr st S3:=g1.B (v.B w);have g4:Gr st X:=by rw[s];exact(bb.B gN).J ay (Jb (gN.A N)) (by rw[gN.A N];rfl) (Jd _)
   have qt:up 0 Z≠bt:=fun e=>by have:=nx0 w.D O 0;rw[e,N]at this;cases this
   have rq:X.A (up 0 Z)= .a S3.t [.d .i64 (JK l d (kidS r 0)).A,ofL (JK l d (kidS r 0)).B,y,z]:=by rw[s,Ji _ _ _ qt,<-O];exact JM _ _
   have af:X.A b2= .a t2 [.d .i64 0,ofL [], .g, .g]:=by rw[s,Ji _ _ _ az];exact gN.A (w.A (v.A r2))
   have ag:∃t,X.A bt= .a t [.d .i64 5,ofL [], .g, .m (up 0 Z) 0 1 4 1]:=⟨_,by rw[s];exact Jk _ _ _ _⟩
   obtain⟨t4,ag⟩:=ag;have q1:S1.A (up 0 Z)= .none:=Ch.B (Ch.H (fun _=>False) (v.B w)) (nx0 w.D O 0);have am:TyC (fun r=>S1.A r= .none) X [.d .i64 (JK l d (kidS r 0)).A,ofL (JK l d (kidS r 0)).B,y,z] (JK l d (kidS r 0)):=ae.A fun r p e=>⟨Ch.B (Ch.H (fun _=>False) v) p,by
    rw[s,Ji _ _ _ fun k=>by rw[k,v.A rt]at p;cases p];exact gN.d r e⟩
   have aq:TyC (fun r=>S1.A r= .none) X [.d .i64 5,ofL [], .g, .m (up 0 Z) 0 1 4 1] (.mk 5 [] [] [JK l d (kidS r 0)]):=
    .mk (es:=[[.d .i64 (JK l d (kidS r 0)).A,ofL (JK l d (kidS r 0)).B,y,z]]) (SlAt.K _ _ _) ⟨fun e he=>by rw[Xn.1 he];rfl, .inr ⟨up 0 Z,0,q1, .inr ⟨1,Xb 1,rfl⟩,_, .inl ⟨_,rq⟩,by simp,by simp⟩⟩ rfl fun i h h'=>by
     have:i=0:=by simp at h;omega
     subst this;exact am
   clear s;exact(hJ _ _).2 ⟨_,_,_,by rw[JK];simp only[<-aj];rfl,W,rfl,g4,ag,af,aq⟩
  ·have ab:=bj (by decide) (by decide);simp[XZ,f1,f2,f3,Y,r1,c1,s1,c2,s2];refine Jc (kidC g1.D (hr.F g1) 0 (by decide)) ?_;rintro _ S2 ⟨v,ke,rfl,ap⟩;simp only[XZ,simprocAttr,f1,f2,ah];refine Jc (ih ab v.D ap (hn.H (g1.B v))) ?_;rintro _ S3 ⟨w,ce,rfl,ae⟩;obtain⟨y,z,ck,rfl,y1,y3,y4,y5⟩:=ae.B;have d1:=y1.A;have d2:=y1.B;have d3:=y3.A;have d4:=y3.B;have N:=w.A (v.A rt);obtain⟨Z,O⟩:=nxE S3;have ot:=fun j=>nes (Jr w.D O (Jb N) j);simp[XZ,Y,O,ot,N,d1,d2,d3,d4];obtain⟨X,s⟩:=exE ((S3.B fun t=> .a t [.d .i64 (JK l d (kidS r 0)).A,ofL (JK l d (kidS r 0)).B,y,z]).D bt S0.t.succ fun u=> .a u [.d .i64 6,ofL [], .g, .m (up 0 Z) 0 1 4 1]);rw[<-s];have gN:Gr S3 (S3.B fun t=> .a t [.d .i64 (JK l d (kidS r 0)).A,ofL (JK l d (kidS r 0)).B,y,z]):=Gr.G w.D (Jd _);have bb:Gr st S3:=g1.B (v.B w);have g4:Gr st X:=by rw[s];exact(bb.B gN).J ay (Jb (gN.A N)) (by rw[gN.A N];rfl) (Jd _)
   have qt:up 0 Z≠bt:=fun e=>by have:=nx0 w.D O 0;rw[e,N]at this;cases this
   have rq:X.A (up 0 Z)= .a S3.t [.d .i64 (JK l d (kidS r 0)).A,ofL (JK l d (kidS r 0)).B,y,z]:=by rw[s,Ji _ _ _ qt,<-O];exact JM _ _
   have af:X.A b2= .a t2 [.d .i64 0,ofL [], .g, .g]:=by rw[s,Ji _ _ _ az];exact gN.A (w.A (v.A r2))
   have ag:∃t,X.A bt= .a t [.d .i64 6,ofL [], .g, .m (up 0 Z) 0 1 4 1]:=⟨_,by rw[s];exact Jk _ _ _ _⟩
   obtain⟨t4,ag⟩:=ag;have q1:S1.A (up 0 Z)= .none:=Ch.B (Ch.H (fun _=>False) (v.B w)) (nx0 w.D O 0);have am:TyC (fun r=>S1.A r= .none) X [.d .i64 (JK l d (kidS r 0)).A,ofL (JK l d (kidS r 0)).B,y,z] (JK l d (kidS r 0)):=ae.A fun r p e=>⟨Ch.B (Ch.H (fun _=>False) v) p,by
    rw[s,Ji _ _ _ fun k=>by rw[k,v.A rt]at p;cases p];exact gN.d r e⟩
   have aq:TyC (fun r=>S1.A r= .none) X [.d .i64 6,ofL [], .g, .m (up 0 Z) 0 1 4 1] (.mk 6 [] [] [JK l d (kidS r 0)]):=
    .mk (es:=[[.d .i64 (JK l d (kidS r 0)).A,ofL (JK l d (kidS r 0)).B,y,z]]) (SlAt.K _ _ _) ⟨fun e he=>by rw[Xn.1 he];rfl, .inr ⟨up 0 Z,0,q1, .inr ⟨1,Xb 1,rfl⟩,_, .inl ⟨_,rq⟩,by simp,by simp⟩⟩ rfl fun i h h'=>by
     have:i=0:=by simp at h;omega
     subst this;exact am
   clear s
   first|refine⟨by decide, ?_⟩|skip
   have aa:JK l (d+1) r=if(6:Int)=6/\(JK l d (kidS r 0)).A=6 then JK l d (kidS r 0)else .mk 6 [] [] [JK l d (kidS r 0)]:=by rw[JK];simp only[<-aj];rfl
   by_cases h6:(JK l d (kidS r 0)).A=6
   ·rw[Xd ⟨rfl,h6⟩]at aa;have bc:decide ((JK l d (kidS r 0)).A=6)=true:=Xo h6;rw[bc];simp only[XZ,simprocAttr,W,ag,rq,af,d1,d2,d3,d4]
    first|refine⟨by decide,g4.J bv (Jb af) (by first|(rw[af];done)|(rw[af];rfl)) (Jd _),_,rfl, ?_⟩|refine⟨g4.J bv (Jb af) (by first|(rw[af];done)|(rw[af];rfl)) (Jd _),_,rfl, ?_⟩
    rw[aa];exact am.A fun r p _=>⟨cj r p,Ji _ _ _ fun e=>by rw[e]at p;rw[p]at r2;cases r2⟩
   ·rw[Xa fun e=>h6 e.2]at aa;have bc:decide ((JK l d (kidS r 0)).A=6)=false:=Xq h6;rw[bc];simp[XZ];exact(hJ _ _).2 ⟨_,_,_,aa,W,rfl,g4,ag,af,aq⟩
  rotate_left 2
  ·have cr:l≠[]:=fun e=>by
    rw[ad]at aj;by_cases c:(K=9/\l=[])\/(d+1<=1/\4<=K/\K<=8)
    ·rw[Xd c]at ad;cases ad
    ·rw[Xa c]at ad;exact c (.inl ⟨ad.symm,e⟩)
   have cy:=GD.2 cr;simp[XZ,f1,f2,f3,Y,r1,al];refine Jc (JfK r.n l.length _ (by omega) (by omega)) ?_;rintro _ _ ⟨rfl,rfl⟩;have q1:=Zn r.n (show((l.length:Nat):Int)≠0 by omega);have q2:=Zc r.n (show(0:Int)<((l.length:Nat):Int) by omega);obtain⟨i,hi⟩:∃i:Nat,r.n%l.length=i:=⟨(r.n%l.length).toNat,by omega⟩
   rw[hi]at q1 q2;have b0:i<l.length:=by omega
   obtain⟨q,o,a1,a2,a3,a4,a5⟩:=(hn.H g1).I (i:=i) (by rw[Jw];exact b0);have el:(strs l)[i]'(by rw[Jw];exact b0)=[ofL l[i]]:=by simp[strs]
   have a6:ld1 (S1.A q) o=some (ofL l[i], .a):=by
    have:=a5 0 (by rw[el];simp);simp only[el]at this;exact this
   rw[hi];simp[XZ,f2,a1,a6,rt];refine(hJ _ _).2 ⟨_,_,_, ?_,W,rfl,g1.J ay (Jb rt) (by rw[rt];rfl) (Jd _),Jk _ _ _ _,by rw[Ji _ _ _ az];exact r2,ba _ _ _ _⟩;rw[JK];simp only[<-aj,ZT];rw[hi];simp[Xt,b0]
  all_goals
   have ab:=bj (by decide) (by decide);have ao:=h1.G;rw[Yd]at ao;obtain⟨ar,bd⟩:∃c,c=Jbx (QW l (d+1) r) r:=⟨_,rfl⟩
   obtain⟨bk,ai⟩:∃o:Nat,o=if QW l (d+1) r=8 then 1 else 0:=⟨_,rfl⟩
   have c9:ar=max (min r.F.length 4) bk:=by rw[bd,ai];rfl
   have cs:bk=0\/bk=1:=by rw[ai];split<;>simp
   obtain⟨Ti,bl⟩:∃Ti:Nat->Ty,Ti=fun i=>(List.range i).foldl (fun t i=>putS t (nameAt r i) (JK l d (kidS r i))) (.mk (QW l (d+1) r) [] [] []):=⟨_,rfl⟩
   have b1:Ti 0= .mk (QW l (d+1) r) [] [] []:=by rw[bl];rfl
   rw[<-aj]at bd ai bl b1;have b3:∀i,Ti (i+1)=putS (Ti i) (nameAt r i) (JK l d (kidS r i)):=fun i=>by rw[bl];simp only[List.range_succ,HB];rfl
   have bm:∀i,(Ti i).G.length=(Ti i).D.length/\(Ti i).D.length<=i:=fun i=>by
    induction i with
    |zero=>rw[b1];exact⟨rfl,Xb _⟩
    |succ i cl=>rw[b3];exact JpJ cl.1 cl.2
   have aa:JK l (d+1) r=Ti ar:=by rw[JK,bl,bd];simp only[<-aj];rfl
   obtain⟨L,hL⟩:=loE fun j fr S=>∃(i:Nat) (te:List V) (t:Nat),j+i=ar/\B fr/\fr 8= .e bt 0/\fr 9= .d .i64 i/\Gr st S/\(∀r,S.A r= .none->S1.A r= .none)/\S.A b= .a st.t [.d .i64 r.A, .d .i64 r.n,br,bu]/\S.A b2= .a t2 [.d .i64 0,ofL [], .g, .g]/\S.A bt= .a t te/\TyC (fun r=>S1.A r= .none) S te (Ti i);simp[XZ,Y];refine JC L ar (by omega) ((hL _ _ _).2 ⟨0,_,_,by omega,(hB _).2 (by simp[XZ,f1,f2,f3,W,Y,ZL]),rfl,by simp[XZ]<;>rfl,g1,fun r h=>h,r1,r2,rt,by rw[b1];exact ba _ _ _ _⟩) ?_;clear f1 f2 f3 W Y bh;intro j fr S ct;obtain⟨i,te,t,hj,bh,f8,f9,hg,U,q1,q2,q3,b4⟩:=(hL _ _ _).1 ct;obtain⟨f1,f2,f3,W,Y⟩:=(hB _).1 bh;have be:=wiN (i:=i) (by omega);have done:∀{fr:Fr},i=ar->fr 6= .e b2 0->fr 8= .e bt 0->J fr S:=fun e a c=>(hJ _ _).2 ⟨Ti ar,te,t,aa,a,c,hg,q3,q2,by rw[<-e];exact b4⟩;have bp:=b4;obtain⟨da,db,dc,rfl,y1,y3,y4,y5⟩:=b4.B;have d1:=y1.A;have d2:=y1.B;have d3:=y3.A;have d4:=y3.B;by_cases hA:i<r.F.length
   ·have a0:(i:Int)<r.F.length:=by omega
    by_cases dd:i<4
    ·have b5:(i:Int)<4:=by omega
     obtain⟨zq,zo,z1,z2,z3,z4,z5⟩:=(h1.H hg).I (i:=i) (by rw[Yd];exact hA);have zl:(Jbw r.F)[i]'(by rw[Yd];exact hA)=[.d .i64 r.F[i]]:=by simp[Jbw]
     have z6:ld1 (S.A zq) zo=some (.d .i64 r.F[i], .a):=by
      have:=z5 0 (by rw[zl];simp);simp only[zl]at this;exact this
     simp[XZ,f1,f2,f3,W,Y,f8,f9,q1,ao,a0,b5,z1,z6];refine Jc (JtP _ _ hg.D) ?_;rintro _ S2 ⟨v,rfl⟩;have bf:Jjc r.F[i]=nameAt r i:=by unfold nameAt;rw[Xg hA]
     rw[bf];have b6:=q1;have b7:=q2;have b8:=q3;have q1:=v.A q1;have q2:=v.A q2;have q3:=v.A q3;simp[XZ,f1,f2,f3,W,Y,f8,f9,q1,q3,c1,s1,c2,s2,d1,d2,d3,d4];refine Jj (kidC (Js v.D S2.t) (((hr.F hg).F v).D fun r p _=>⟨p,rfl⟩) i (by omega)) ?_;rintro _ S3 w ⟨ke,rfl,ap⟩;simp only[XZ,simprocAttr,f1,f2,f3,W,Y,f8,f9,ah];refine Jj (ih ab (Js w.D S3.t) (ap.D fun r p _=>⟨p,rfl⟩) ((((hn.H hg).H v).H w).D fun r p _=>⟨p,rfl⟩)) ?_;rintro _ X g4 ⟨ce,rfl,ae⟩;simp[XZ,f1,f2,f3,W,Y,f8,f9];have gA:Gr S X:=v.B (w.B g4);have b9:∀r,X.A r= .none->S1.A r= .none:=fun r h=>U r (Ch.B (Ch.H (fun _=>False) gA) h);have ca:∀r,S3.A r= .none->S1.A r= .none:=fun r h=>U r (Ch.B (Ch.H (fun _=>False) (v.B w)) h);refine Jj (putC (P:=fun r=>S1.A r= .none) (t:=Ti i) (x:=JK l d (kidS r i)) (nameAt r i) (Js g4.D X.t) ((bp.H gA).A fun r p _=>⟨p,rfl⟩) (ae.A fun r p _=>⟨ca r p,rfl⟩) (by have:=(bm i).2;omega) (bm i).1 b9) ?_;rintro _ S5 g5 ⟨e5,rfl,cb⟩;have au:TyC (fun r=>S1.A r= .none) S5 e5 (Ti (i+1)):=by rw[b3];exact cb.A fun r p _=>⟨p,rfl⟩
     have cc:=au;obtain⟨cd,cf,cu,rfl,x1,x3,x4,x5⟩:=au.B;have m1:=x1.A;have m2:=x1.B;have Z:=x3.A;have m4:=x3.B;have gB:Gr S S5:=gA.B g5;have q1:=gB.A b6;have q2:=gB.A b7;have q3:=gB.A b8;simp[XZ,f1,f2,f3,W,Y,f8,f9,q3,m1,m2,Z,m4,be,kG];have bne:b≠bt:=ch;have g6:=(hg.B gB).J (f:=fun u=> .a u [.d .i64 (Ti (i+1)).A,ofL (Ti (i+1)).B,cd,cf]) ay (Jb q3) (by first|(rw[q3];done)|(rw[q3];rfl)) (Jd _);refine⟨ar-(i+1),by omega,(hL _ _ _).2 ⟨i+1,_,_,by omega,(hB _).2 (by simp[XZ,f1,f2,f3,W,Y,ZL]),f8,rfl,g6,fun r h=> ?_,by rw[Ji _ _ _ bne];exact q1,by rw[Ji _ _ _ az];exact q2,Jk _ _ _ _,cc.A fun r p _=>⟨p,Ji _ _ _ fun e=>by rw[e]at p;rw[p]at rt;cases rt⟩⟩⟩;refine U r (Ch.B (Ch.H (fun _=>False) gB) ?_);by_cases e:r=bt
     ·rw[e,Jk]at h;cases h
     ·rwa [Ji _ _ _ e]at h
    ·have b5:¬(i:Int)<4:=by omega
     have cm:¬(i:Int)=0:=by omega
     simp only[XZ,simprocAttr,f1,f2,f3,W,Y,f8,f9,q1,ao,a0,b5,cm];exact done (by omega) W f8
   ·have a0:¬(i:Int)<r.F.length:=by omega
    by_cases cm:i=0
    ·have aw:((i:Int)=0)=True:=XL (by omega);by_cases bq:bk=1
     ·first
      |exact absurd (ai.symm.trans bq) (by decide)
      | simp only[XZ,simprocAttr,f1,f2,f3,W,Y,f8,f9,q1,q3,ao,a0,aw,c1,s1,c2,s2,d1,d2,d3,d4]
        have v:Gr S S:=Gr.F hg.D;have bf:([117]:Str)=nameAt r i:=by unfold nameAt;rw[Gm (by omega)]
        rw[bf];have b6:=q1;have b7:=q2;have b8:=q3;refine Jj (kidC (Js v.D S.t) (((hr.F hg).F v).D fun r p _=>⟨p,rfl⟩) i (by omega)) ?_;rintro _ S3 w ⟨ke,rfl,ap⟩;simp only[XZ,simprocAttr,f1,f2,f3,W,Y,f8,f9,ah];refine Jj (ih ab (Js w.D S3.t) (ap.D fun r p _=>⟨p,rfl⟩) ((((hn.H hg).H v).H w).D fun r p _=>⟨p,rfl⟩)) ?_;rintro _ X g4 ⟨ce,rfl,ae⟩;simp[XZ,f1,f2,f3,W,Y,f8,f9];have gA:Gr S X:=v.B (w.B g4);have b9:∀r,X.A r= .none->S1.A r= .none:=fun r h=>U r (Ch.B (Ch.H (fun _=>False) gA) h);have ca:∀r,S3.A r= .none->S1.A r= .none:=fun r h=>U r (Ch.B (Ch.H (fun _=>False) (v.B w)) h);refine Jj (putC (P:=fun r=>S1.A r= .none) (t:=Ti i) (x:=JK l d (kidS r i)) (nameAt r i) (Js g4.D X.t) ((bp.H gA).A fun r p _=>⟨p,rfl⟩) (ae.A fun r p _=>⟨ca r p,rfl⟩) (by have:=(bm i).2;omega) (bm i).1 b9) ?_;rintro _ S5 g5 ⟨e5,rfl,cb⟩;have au:TyC (fun r=>S1.A r= .none) S5 e5 (Ti (i+1)):=by rw[b3];exact cb.A fun r p _=>⟨p,rfl⟩
        have cc:=au;obtain⟨cd,cf,cu,rfl,x1,x3,x4,x5⟩:=au.B;have m1:=x1.A;have m2:=x1.B;have Z:=x3.A;have m4:=x3.B;have gB:Gr S S5:=gA.B g5;have q1:=gB.A b6;have q2:=gB.A b7;have q3:=gB.A b8;simp[XZ,f1,f2,f3,W,Y,f8,f9,q3,m1,m2,Z,m4,be,kG];have bne:b≠bt:=ch;have g6:=(hg.B gB).J (f:=fun u=> .a u [.d .i64 (Ti (i+1)).A,ofL (Ti (i+1)).B,cd,cf]) ay (Jb q3) (by first|(rw[q3];done)|(rw[q3];rfl)) (Jd _);refine⟨ar-(i+1),by omega,(hL _ _ _).2 ⟨i+1,_,_,by omega,(hB _).2 (by simp[XZ,f1,f2,f3,W,Y,ZL]),f8,rfl,g6,fun r h=> ?_,by rw[Ji _ _ _ bne];exact q1,by rw[Ji _ _ _ az];exact q2,Jk _ _ _ _,cc.A fun r p _=>⟨p,Ji _ _ _ fun e=>by rw[e]at p;rw[p]at rt;cases rt⟩⟩⟩;refine U r (Ch.B (Ch.H (fun _=>False) gB) ?_);by_cases e:r=bt
        ·rw[e,Jk]at h;cases h
        ·rwa [Ji _ _ _ e]at h
     ·first
      |exact absurd (ai.trans (by decide)) bq
      | simp only[XZ,simprocAttr,f1,f2,f3,W,Y,f8,f9,q1,ao,a0,aw]
        exact done (by omega) W f8
    ·have aw:¬(i:Int)=0:=by omega
     simp only[XZ,simprocAttr,f1,f2,f3,W,Y,f8,f9,q1,ao,a0,aw];exact done (by omega) W f8
 intro fr S cv;obtain⟨T,te,t,hT,W,f8,gS,rS,bn,cn⟩:=(hJ _ _).1 cv;have co:=cn;obtain⟨cw,cx,de,rfl,t1,t3,t4,t5⟩:=cn.B;have c3:=t1.A;have s3:=t1.B;have c4:=t3.A;have s4:=t3.B;rw[Ja];simp only[XZ,simprocAttr,W,f8,rS,bn,c3,s3,c4,s4];have gw:=gS.J (f:=fun u=> .a u [.d .i64 T.A,ofL T.B,cw,cx]) bv (Jb bn) (by first|(rw[bn];done)|(rw[bn];rfl)) (Jd _);refine⟨gw,_,rfl, ?_⟩;rw[hT];exact co.A fun r p _=>⟨cj r p,Ji _ _ _ fun e=>by rw[e]at p;rw[p]at r2;cases r2⟩
theorem JmJ (a:List Str)(b:a.length<1000):∀d:Nat,d<1000->Jc8 a (d+1)
 |0,h=>JjZ a b 0 h fun e=>absurd rfl e
 |d+1,h=>JjZ a b (d+1) h fun _=>JmJ a b d (by omega)
theorem Jq6 {y:V}(hw:WF v)(h1:RwC s v e h)(h2:QH s v i r)(h3:QH s v y q):
  Dz 15 [.j e,i,y] v fun c S=>Gr v S/\∃b,c= .h b:=by
 refine Jl (aT Tryz.func15 rfl) rfl ?_;obtain⟨n0,z⟩:=nxE v;have g1:=h1;obtain⟨K,M,ab,rfl,_,_,_,a1,a2,_,_,_⟩:=h1.A;have c1:=a1.A;have s1:=a1.B;have c2:=a2.A;have s2:=a2.B;obtain⟨l2,s3,c3,m2⟩:=h2.A;obtain⟨l3,s4,c4,m3⟩:=h3.A;simp only[CT,Tryz.f15,XY,simprocAttr];rw[Ja];simp only[XY,simprocAttr,z,s1,s2];obtain⟨S0,w⟩:=exE (v.B fun t=> .a t [.d .i64 h.A, .d .i64 h.n,K,M]);have g0:Gr v S0:=by rw[w];exact Gr.G hw (Jd _)
 obtain⟨t0,r0⟩:∃t,S0.A (up 0 n0)= .a t [.d .i64 h.A, .d .i64 h.n,K,M]:=⟨_,by rw[w];simp only[XZ,simprocAttr,z];rfl⟩
 rw[<-w];clear w;rw[Je,Ja];simp only[XY,simprocAttr,r0];refine Jc (fewC g1 _ g0 60 (by decide) (by decide)) ?_;rintro _ S1 ⟨gf,m,rfl,_,_⟩;have gs:=g0.B gf;by_cases Q:m=0
 ·simp only[XZ,simprocAttr,Q]
  grind
 by_cases X:(6:Int)<r.length
 ·simp only[XZ,simprocAttr,Q,l2,X]
  grind
 by_cases i3:(6:Int)<q.length
 ·simp only[XZ,simprocAttr,Q,l2,l3,X,i3]
  grind
 simp only[XY,simprocAttr,Q,l2,l3,X,i3];refine Jz (fun p S=>(p 2=y/\Gr v S)) (fun J hJ=> ?_) ?_
 ·rw[Ja];simp only[XY,simprocAttr];refine Jy (fun j p S=>∃f:Nat,j+f=r.length/\p 1=i/\p 2=y/\p 7= .d .i64 f/\Gr v S) r.length (by omega) ⟨0,by omega,rfl,rfl,by rfl,gs⟩ ?_;rintro L hL j p S ⟨f,hj,T,x,U,u⟩;by_cases Y:f<r.length
  ·have k:(f:Int)<r.length:=by omega
   obtain⟨g,o,kv,nv,Z,b2,b3,b4,_⟩:=(h2.F u).D Y;have l:=wiN (i:=f) (by omega);rw[Je,Ja];simp only[XY,simprocAttr,T,U,l2,k];rw[Je];simp only[XY,simprocAttr];rw[Ja];simp only[XY,simprocAttr,T,U,Z,b3];refine Jc (fewC b4 _ (Gr.F u.D) 30 (by decide) (by decide)) ?_;rintro _ S' ⟨N,m',rfl,_,_⟩;by_cases O:m'=0
   ·simp only[XZ,simprocAttr,O];exact⟨u.B N,_,rfl⟩
   ·simp only[XZ,simprocAttr,O,U,l];exact⟨r.length-(f+1),by omega,hL _ _ _ ⟨f+1,by omega,T,x,rfl,u.B N⟩⟩
  ·have k:¬(f:Int)<r.length:=by omega
   simp only[XZ,simprocAttr,T,U,l2,k];exact hJ _ _ ⟨x,u⟩
 rintro p S ⟨x,u⟩;refine Jz (fun p S=>(Gr v S)) (fun J2 ad=> ?_) ?_
 ·rw[Ja];simp only[XY,simprocAttr];refine Jy (fun j p S=>∃f:Nat,j+f=q.length/\p 2=y/\p 8= .d .i64 f/\Gr v S) q.length (by omega) ⟨0,by omega,x,by rfl,u⟩ ?_;rintro L hL j p S ⟨f,hj,x,W,u⟩;by_cases Y:f<q.length
  ·have k:(f:Int)<q.length:=by omega
   obtain⟨g,o,kv,nv,Z,b2,b3,b4,_⟩:=(h3.F u).D Y;have l:=wiN (i:=f) (by omega);rw[Je,Ja];simp only[XY,simprocAttr,x,W,l3,k];rw[Je];simp only[XY,simprocAttr];rw[Ja];simp only[XY,simprocAttr,x,W,Z,b3];refine Jc (fewC b4 _ (Gr.F u.D) 20 (by decide) (by decide)) ?_;rintro _ S' ⟨N,m',rfl,_,_⟩;by_cases O:m'=0
   ·simp only[XZ,simprocAttr,O];exact⟨u.B N,_,rfl⟩
   ·simp only[XZ,simprocAttr,O,W,l];exact⟨q.length-(f+1),by omega,hL _ _ _ ⟨f+1,by omega,x,rfl,u.B N⟩⟩
  ·have k:¬(f:Int)<q.length:=by omega
   simp only[XZ,simprocAttr,x,W,l3,k]
   grind
 intro p S aa;have u:=aa;simp only[XZ,simprocAttr]
 grind
theorem JpK {b:List Str}(h:SlAt s v i 1 (strs b))(j:d<b.length):∃r o,Jo 1 i (.d .i64 d)=some (.e r o, .a)/\s r/\v.A r≠ .none/\ld1 (v.A r) o=some (ofL b[d], .a):=by
 have l1:(strs b).length=b.length:=Jw _;obtain⟨q,o,c,f,g,k,l⟩:=h.I (i:=d) (by omega);refine⟨q,o,c,f,g, ?_⟩;have e:(strs b)[d]=[ofL b[d]]:=by simp[strs]
 simp_all
theorem Jq7 {v3:V}(h0:q=[])(hw:WF v)(h1:RwC s v e h)(h2:QH s v i r)(h3:QH s v v3 q):
  Dz 26 [.j e,i,v3] v fun o S=>Gr v S/\∃c U sv,o= .j (c++[U,sv])/\SchF v S c U sv (jD h r q):=by
 refine Jl (aT Tryz.func26 rfl) rfl ?_;obtain⟨n0,ab⟩:=nxE v;have g1:=h1;obtain⟨ap,aq,bt,rfl,_,_,_,a1,a2,_,_,_⟩:=h1.A;have c1:=a1.A;have s1:=a1.B;have c2:=a2.A;have s2:=a2.B;obtain⟨l2,s3,c3,m2⟩:=h2.A;obtain⟨l3,s4,c4,m3⟩:=h3.A;obtain⟨b3,ag⟩:=exE (up 0 n0);obtain⟨Z,ah⟩:=exE (up 1 n0);obtain⟨W,ai⟩:=exE (up 2 n0);have n3:v.A b3= .none:=by rw[ag];exact nx0 hw ab 0
 have n6:v.A Z= .none:=by rw[ah];exact nx0 hw ab 1
 have n7:v.A W= .none:=by rw[ai];exact nx0 hw ab 2
 have av:Z≠W:=by rw[ah,ai,Jab];decide
 have bq:b3≠W:=by rw[ag,ai,Jab];decide
 have br:b3≠Z:=by rw[ag,ah,Jab];decide
 obtain⟨O,ae⟩:∃l,l=YB.take r.length:=⟨_,rfl⟩
 have bu:YB.length=4:=rfl;have bv:O.length=min 4 r.length:=by grind
 have bw:YB.take O.length=O:=by grind
 obtain⟨B,hB⟩:∃B:Pt->Prop,∀w,B w<->(v.A w≠ .none\/w=Z\/w=W):=⟨_,fun _=>Iff.rfl⟩
 have B6:B Z:=(hB _).2 (.inr (.inl rfl));have B7:B W:=(hB _).2 (.inr (.inr rfl));have B3:¬B b3:=fun y=>by grind
 obtain⟨I,hI⟩:=opE fun Q S=>(Q 1=i/\Q 2=v3/\Q 3= .e b3 0/\Q 6= .e Z 0/\Q 7= .e W 0/\Q 8= .g/\Gr v S/\(∃t,S.A b3= .a t [.d .i64 h.A, .d .i64 h.n,ap,aq])/\(∃t,S.A Z= .a t [.d .i64 0,ofL [], .g, .g, .g, .g])/\(∃t,S.A W= .a t [.d .i64 0,ofL [], .g, .g, .g, .g]))
 simp only[CT,Tryz.f26,XY,simprocAttr];rw[Ja];simp[XY,ab,s1,s2];rw[Ja];simp[XY,ab];rw[Ja];simp[XY];rw[<-ag,<-ah,<-ai];obtain⟨S0,af⟩:=exE (((v.B fun t=> .a t [.d .i64 h.A, .d .i64 h.n,ap,aq]).B fun t=> .a t [.d .i64 0,ofL [], .g, .g, .g, .g]).B fun t=> .a t [.d .i64 0,ofL [], .g, .g, .g, .g]);have g0:Gr v S0:=by rw[af];exact((Gr.G hw (Jd _)).L (Jd _)).L (Jd _)
 obtain⟨t3,r3⟩:∃t,S0.A b3= .a t [.d .i64 h.A, .d .i64 h.n,ap,aq]:=⟨_,by rw[af,ag];simp[XZ,ab];rfl⟩
 obtain⟨t6,r6⟩:∃t,S0.A Z= .a t [.d .i64 0,ofL [], .g, .g, .g, .g]:=⟨_,by rw[af,ah];simp[XZ,ab];rfl⟩
 obtain⟨t7,r7⟩:∃t,S0.A W= .a t [.d .i64 0,ofL [], .g, .g, .g, .g]:=⟨_,by rw[af,ai];simp[XZ,ab];rfl⟩
 rw[<-af];clear af hI I;refine Jz (fun Q S=>(∃nv,Q 1=i/\Q 2=v3/\Q 3= .e b3 0/\Q 6= .e Z 0/\Q 7= .e W 0/\Q 8=nv/\Gr S0 S/\SlF S0 S nv 1 (strs O))) (fun J1 bh=> ?_) ?_
 ·rw[Ja];simp[XY];obtain⟨L,hL⟩:=loE fun j Q S=>∃(K:Nat) (nv:V),j+K=O.length/\Q 1=i/\Q 2=v3/\Q 3= .e b3 0/\Q 6= .e Z 0/\Q 7= .e W 0/\Q 8=nv/\Q 9= .d .i64 K/\Gr S0 S/\SlF S0 S nv 1 (strs (YB.take K));refine JC L O.length (by omega) ((hL _ _ _).2 ⟨0, .g,by omega,rfl,rfl,rfl,rfl,rfl,rfl,by rfl,Gr.F g0.D,SlF.I _ _ _⟩) ?_;intro j Q S aj;obtain⟨K,nv,hj,f1,f2,f3,f6,Y,f8,f9,hg,hs⟩:=(hL _ _ _).1 aj;have done:∀T,K=O.length->T 1=i->T 2=v3->T 3= .e b3 0->T 6= .e Z 0->T 7= .e W 0->T 8=nv->J1 T S:=fun T N f1 f2 f3 f6 Y f8=>bh _ _ ⟨nv,f1,f2,f3,f6,Y,f8,hg,by grind⟩;by_cases hi:K<r.length
  ·by_cases h4:K<4
   ·have ay:(K:Int)<4:=by omega
    have ar:K<YB.length:=by omega
    have wS:=hg.D;obtain⟨nS,az⟩:=nxE S;have ak:=wiN (i:=K) (by omega);rw[Je,Ja];simp[XY,f1,f9,l2,hi,ay];have a9:∀{R:V->St->Prop},(∀S' v',Gr S0 S'->SlF S0 S' v' 1 (strs (YB.take (K+1)))->R v' S')->wW (appV ((S.B fun t=> .a t [ofL [65],ofL [66,101,101],ofL [67,97,116],ofL [68,111,103]]).B fun t=> .a t [ofL YB[K]]) 1 nv (.m (up 1 nS) 0 1 1 1)) ((S.B fun t=> .a t [ofL [65],ofL [66,101,101],ofL [67,97,116],ofL [68,111,103]]).B fun t=> .a t [ofL YB[K]]) R:=fun k=>by
     have ga:Gr S (S.B fun t=> .a t [ofL [65],ofL [66,101,101],ofL [67,97,116],ofL [68,111,103]]):=Gr.G wS (Jd _);have gb:=Gr.G (f:=fun t=> .a t [ofL YB[K]]) ga.D (Jd _);have ad:=Ql (st:=(S.B fun t=> .a t [ofL [65],ofL [66,101,101],ofL [67,97,116],ofL [68,111,103]])) (z:=1) (e:=[ofL YB[K]]) rfl;rw[show(S.B fun t=>Row.a t [ofL [65],ofL [66,101,101],ofL [67,97,116],ofL [68,111,103]]).b=up 1 nS by simp[XZ,az]]at ad;refine Jmd (S0:=S0) ((hg.B ga).B gb) ((hs.G ga).G gb) ad (fun N he=>by rw[Xn.1 he];rfl) (by simp) (by rw[Jw,ZG];grind) fun S' v' a b _=>k S' v' a ?_;rw[XD ar,show strs (YB.take K++[YB[K]])=strs (YB.take K)++[[ofL YB[K]]] by unfold strs;grind];exact b
    have bi:∀T S' v',T 1=i->T 2=v3->T 3= .e b3 0->T 6= .e Z 0->T 7= .e W 0->T 8=v'->T 9= .d .i64 ((K+1:Nat):Int)->Gr S0 S'->SlF S0 S' v' 1 (strs (YB.take (K+1)))->∃m,m<j/\L m T S':=fun T S' v' x1 x2 x3 x4 x5 x6 x7 x8 x9=>⟨j-1,by omega,(hL _ _ _).2 ⟨K+1,v',by omega,x1,x2,x3,x4,x5,x6,x7,x8,x9⟩⟩
    rw[Je];simp[XY];rcases(show K=0\/K=1\/K=2\/K=3 by omega)with rfl|rfl|rfl|rfl
    all_goals simp[XZ,f8,f9,az]
    all_goals first|refine⟨⟨by decide,by decide⟩,a9 fun S' v' ga ba=> ?_⟩|refine a9 fun S' v' ga ba=> ?_
    all_goals simp[XZ,f9]
    all_goals exact bi _ _ _ f1 f2 f3 f6 Y rfl rfl ga ba
   ·have ay:¬(K:Int)<4:=by omega
    simp[XZ,f1,f9,l2,hi,ay];exact done _ (by omega) f1 f2 f3 f6 Y f8
  ·simp[XZ,f1,f9,l2,hi];exact done _ (by omega) f1 f2 f3 f6 Y f8
 rintro Q S1 ⟨nv,f1,f2,f3,f6,Y,f8,al,bb⟩;have bj:=g0.B al;have B0:∀w,B w->S0.A w≠ .none:=fun w y=>by
  rcases(hB _).1 y with y|y|y
  ·rw[g0.d w y];exact y
  ·grind
  grind
 have B1:∀w,B w->S1.A w≠ .none:=fun w y=>by rw[al.d w (B0 w y)];grind
 have a0:∀{S:St},(∀w,S1.A w≠ .none->¬B w->S.A w=S1.A w)->SlAt (fun _=>True) S nv 1 (strs O):=fun k=>bb.D.D fun w p N=>⟨trivial,k w N fun b=>B0 w b p⟩
 have aw:JU nv=some (.d .i64 O.length, .a):=by have:=bb.D.G;rwa [Jw]at this
 have q3:=al.A r3;have q6:=al.A r6;have q7:=al.A r7;have aa:O.length<1000:=by omega
 have T5:Jc8 O 5:=JmJ O aa 4 (by decide);have T6:Jc8 O 6:=JmJ O aa 5 (by decide);have T4:Jc8 O 4:=JmJ O aa 3 (by decide);have bx:(typesOf O r).length=O.length:=Jji _ _ (by omega);refine Jz (fun Q S=>(∃U t,Q 2=v3/\Q 3= .e b3 0/\Q 6= .e Z 0/\Q 7= .e W 0/\Q 8=nv/\LsF NmC v S1 B 5 S U (typesOf O r)/\S.A W= .a t [.d .i64 0,ofL [], .g, .g,U, .g]/\S.A Z= .a t6 [.d .i64 0,ofL [], .g, .g, .g, .g])) (fun J2 bk=> ?_) ?_
 ·rw[Ja];simp[XY];obtain⟨L,hL⟩:=loE fun j Q S=>∃(K:Nat) (U:V) (t:Nat),j+K=O.length/\Q 1=i/\Q 2=v3/\Q 3= .e b3 0/\Q 6= .e Z 0/\Q 7= .e W 0/\Q 8=nv/\Q 10= .d .i64 K/\LsF NmC v S1 B 5 S U ((typesOf O r).take K)/\S.A W= .a t [.d .i64 0,ofL [], .g, .g,U, .g]/\S.A Z= .a t6 [.d .i64 0,ofL [], .g, .g, .g, .g];refine JC L O.length (by omega) ((hL _ _ _).2 ⟨0, .g,t7,by omega,f1,f2,f3,f6,Y,f8,by rfl,LsF.D bj,q7,q6⟩) ?_;clear f1 f2 f3 f6 Y f8;intro j Q S aj;obtain⟨K,U,t,hj,f1,f2,f3,f6,Y,f8,au,hF,r7,r6⟩:=(hL _ _ _).1 aj;by_cases hi:K<O.length
  ·have ak:=wiN (i:=K) (by omega);obtain⟨ra,oa,a1,_,_,a4⟩:=JpK (a0 hF.f) hi;obtain⟨rb,ob,kb,vb,b1,b2,b4,b5,_⟩:=(h2.F hF.g).D (i:=K) (by omega);have ar:K<(typesOf O r).length:=by omega
   have ax:=Jjj O r K hi (by omega) ar;rw[Je,Ja];simp[XY,f8,au,aw,hi];rw[Je];simp[XY];simp[XY,Y,r7,f8,au,a1,a4,f1,b1,b4];refine Jj (T5 (Js hF.g.D S.t) (b5.D kR) ((a0 hF.f).D kR)) ?_;rintro _ S2 gt ⟨x,rfl,hx⟩;obtain⟨X,hX⟩:∃X,X=JK O 5 r[K]:=⟨_,rfl⟩
   rw[<-hX]at hx ax;have a3:=hx;obtain⟨xn,xk,xe,rfl,u1,u2,u3,u4⟩:=hx.B;have d1:=u1.A;have d2:=u1.B;have d3:=u2.A;have d4:=u2.B;have w2:=gt.D;obtain⟨n2,bc⟩:=nxE S2;have F2:=hF.F (C:=NmC) NmC.A gt;simp[XY,bc,d2,d4];have gn:Gr S2 (S2.B fun t=> .a t [ofL O[K], .d .i64 X.A,ofL X.B,xn,xk]):=Gr.G w2 (Jd _);have F3:=F2.F (C:=NmC) NmC.A gn;have ad:=Ql (st:=S2) (z:=5) (e:=[ofL O[K], .d .i64 X.A,ofL X.B,xn,xk]) rfl;rw[bc]at ad;have h5:NmC (fun w=>¬B w/\rowOf U≠some w) (S2.B fun t=> .a t [ofL O[K], .d .i64 X.A,ofL X.B,xn,xk]) [ofL O[K], .d .i64 X.A,ofL X.B,xn,xk] (O[K],X):=⟨_,rfl,a3.A fun w p N=>⟨⟨fun b=>hF.d w (B1 w b) p,fun N=>hF.A N p⟩,gn.d w N⟩⟩
   refine Jmo (C:=NmC) NmC.A F3 ad (by simp only[Kk,ZE,Hd,d2,d4];rfl) h5 B1 (by grind) fun S4 v4 F4 kp=> ?_;rw[<-ax,<-XD ar]at F4;have d5:=F4.J;have r62:=gn.A (gt.A r6);have r64:=(kp Z (Jb r62) fun N=>B1 Z B6 (hF.j _ N)).trans r62;have r72:=gn.A (gt.A r7);have r74:=(kp W (Jb r72) fun N=>B1 W B7 (hF.j _ N)).trans r72;simp[XZ,Y,r74,au,ak,d5.1,d5.2];exact⟨j-1,by omega,(hL _ _ _).2 ⟨K+1,v4,_,by omega,f1,f2,f3,f6,Y,f8,rfl,F4.I (C:=NmC) NmC.A B7 n7 (B1 _ B7) r74,Jk _ _ _ _,(Ji _ _ _ av).trans r64⟩⟩
  ·simp[XZ,f8,au,aw,hi];rw[Xr (by omega)]at hF;exact bk _ _ ⟨U,t,f2,f3,f6,Y,f8,hF,r7,r6⟩
 clear f1 f2 f3 f6 Y f8;rintro Q S ⟨U,t,f2,f3,f6,Y,f8,hF,r7,r6⟩;have r3:S.A b3= .a t3 [.d .i64 h.A, .d .i64 h.n,ap,aq]:=(hF.f b3 (Jb q3) B3).trans q3;rw[Ja];simp[XY,f3,f8,r3];refine Jc (T6 hF.g.D (g1.F hF.g) (a0 hF.f)) ?_;rintro _ Sm ⟨gm,x,rfl,hx⟩;obtain⟨M,hM⟩:∃M,M=JK O 6 h:=⟨_,rfl⟩
 rw[<-hM]at hx;have a3:=hx;obtain⟨mn,mk,xe,rfl,u1,u2,u3,u4⟩:=hx.B;have y1:=u1.A;have y2:=u1.B;have y3:=u2.A;have y4:=u2.B;have a5:=gm.A r7;have bd:=gm.A r6;have Fm:=hF.F (C:=NmC) NmC.A gm;simp[XY,Y,a5,y2,y4];have FM:=Fm.I (C:=NmC) NmC.A (c':=[.d .i64 M.A,ofL M.B,mn,mk,U, .g]) B7 n7 (B1 _ B7) a5;have kM:∀w,¬B w->(Sm.D W t fun u=> .a u [.d .i64 M.A,ofL M.B,mn,mk,U, .g]).A w=Sm.A w:=fun w n=>Ji _ _ _ fun N=>n (by grind);have a6:(Sm.D W t fun u=> .a u [.d .i64 M.A,ofL M.B,mn,mk,U, .g]).A W= .a Sm.t [.d .i64 M.A,ofL M.B,mn,mk,U, .g]:=Jk _ _ _ _;have be:(Sm.D W t fun u=> .a u [.d .i64 M.A,ofL M.B,mn,mk,U, .g]).A Z= .a t6 [.d .i64 0,ofL [], .g, .g, .g, .g]:=(Ji _ _ _ av).trans bd;have bf:TyC (fun w=>¬B w/\rowOf U≠some w) (Sm.D W t fun u=> .a u [.d .i64 M.A,ofL M.B,mn,mk,U, .g]) [.d .i64 M.A,ofL M.B,mn,mk] M:=a3.A fun w p _=>by
  have:¬B w:=fun b=>hF.d w (B1 w b) p;exact⟨⟨this,fun N=>hF.A N p⟩,kM w this⟩
 have bg:=FM.G (C:=NmC) NmC.A B1;obtain⟨S2,a7⟩:=exE (Sm.D W t fun u=> .a u [.d .i64 M.A,ofL M.B,mn,mk,U, .g]);obtain⟨t2,a6⟩:∃t,S2.A W= .a t [.d .i64 M.A,ofL M.B,mn,mk,U, .g]:=⟨_,by rw[a7];exact a6⟩
 rw[<-a7]at FM be bf bg⊢;clear a7 kM a5 bd Fm;have g2:=FM.g;have bl:=FM.f;have a8:=FM.d;have B2:∀w,B w->S2.A w≠ .none:=fun w b=>FM.d w (B1 w b);have am:∀w,rowOf U=some w->¬B w/\S2.A w≠ .none:=fun w N=>⟨fun b=>B1 w b (FM.j w N),FM.A N⟩
 have bm:=FM.m;clear FM;have bz:(JcS O q).length=min 4 q.length:=JkG _ _;refine Jz (fun Q S=>(∃sv t,Q 6= .e Z 0/\Q 7= .e W 0/\LsF (SgT U) v S2 B 6 S sv (JcS O q)/\S.A W= .a t [.d .i64 M.A,ofL M.B,mn,mk,U,sv]/\S.A Z= .a t6 [.d .i64 0,ofL [], .g, .g, .g, .g])) (fun J3 bn=> ?_) ?_
 ·rw[Ja];simp[XY];obtain⟨L,hL⟩:=loE fun j Q S=>∃(K:Nat) (sv:V) (t:Nat),j+K=min 4 q.length/\Q 2=v3/\Q 6= .e Z 0/\Q 7= .e W 0/\Q 8=nv/\Q 11= .d .i64 K/\LsF (SgT U) v S2 B 6 S sv ((JcS O q).take K)/\S.A W= .a t [.d .i64 M.A,ofL M.B,mn,mk,U,sv]/\S.A Z= .a t6 [.d .i64 0,ofL [], .g, .g, .g, .g];refine JC L (min 4 q.length) (by omega) ((hL _ _ _).2 ⟨0, .g,t2,by omega,f2,f6,Y,f8,by rfl,LsF.D g2,a6,be⟩) ?_;clear f2 f3 f6 Y f8 r7 r6 r3;intro j Q S aj;obtain⟨K,sv,t,hj,f2,f6,Y,f8,bo,hF,r7,r6⟩:=(hL _ _ _).1 aj;have az:∀w,S1.A w≠ .none->¬B w->S.A w=S1.A w:=fun w N n=>by rw[hF.f w (a8 w N) n];grind
  have done:∀T,K=min 4 q.length->T 6= .e Z 0->T 7= .e W 0->J3 T S:=fun T N f6 Y=>bn _ _ ⟨sv,t,f6,Y,by grind,r7,r6⟩;by_cases hi:K<q.length
  ·rw[h0]at hi;cases hi
  ·simp[XZ,f2,bo,l3,hi];exact done _ (by omega) f6 Y
 clear f2 f3 f6 Y f8 r7 r6 r3;rintro Q S ⟨sv,t,f6,Y,hF,r7,r6⟩;have d5:=hF.J;have d6:=bg.G;simp[XZ,f6,Y,r7,r6,y2,y4,d5.1,d6.1];have FE:=hF.I (C:=SgT U) SgT.A (c':=[.d .i64 M.A,ofL M.B,mn,mk,U,sv]) B6 n6 (B2 _ B6) r6;have bp:∀w,¬B w->v.A w= .none:=fun w n=>Xf fun N=>n ((hB _).2 (.inl N));have ao:∀w,¬B w/\rowOf U≠some w->S2.A w≠ .none->OwnS v U sv w/\_=S2.A w:=fun w p N=>⟨⟨bp w p.1,p.2,fun k=>N (FE.j w k)⟩,FE.f w N p.1⟩
 obtain⟨es,k1,k2,k3⟩:=bm;obtain⟨gs,l1,l2,l3⟩:=FE.m;refine⟨FE.g,[.d .i64 M.A,ofL M.B,mn,mk],U,sv,rfl,⟨?_,⟨es,k1.B fun w hr=>FE.f w (am w hr).2 (am w hr).1, ?_,fun K a b=> ?_⟩,⟨gs,l1, ?_,fun K a b=> ?_⟩,fun w N k=>(am w N).2 (FE.j w k)⟩⟩
 ·have:=bf.A ao;rw[hM]at this⊢;rw[ae]at this⊢;exact this
 ·rw[ae]at k2;exact k2
 ·have:=(k3 K a (by omega)).A ao;simp[ae]at this;exact this
 ·rw[ae]at l2;exact l2
 grind
theorem Jq8 {k:V}(l:q=[])(m:WF v)(n:RwC s v e h)(o:QH s v i r)(p:QH s v k q):
  Dz 26 [.j e,i,k] v fun a S=>Gr v S/\∃b,a= .j b/\SchC (fun d=>v.A d= .none) S b (jD h r q):=by
 refine(Jq7 l m n o p).A ?_;rintro a S ⟨g,c,t,u,rfl,f⟩;exact⟨g,_,rfl,f.c⟩
theorem JtQ {v3:V}(z0:q=[])(hw:WF v)(h1:RwC s v e h)(h2:QH s v i r)(h3:QH s v v3 q):
  Dz 16 [.j e,i,v3] v fun f S=>Gr v S/\∃l,f= .p [.j l, .h (decide (refS (jD h r q)=0))]/\SchC (fun m=>v.A m= .none) S l (jD h r q):=by
 refine Jl (aT Tryz.func16 rfl) rfl ?_;obtain⟨n0,x⟩:=nxE v;have g1:=h1;obtain⟨T,U,af,rfl,_,_,_,a1,a2,_,_,_⟩:=h1.A;have c1:=a1.A;have s1:=a1.B;have c2:=a2.A;have s2:=a2.B;obtain⟨l2,s3,c3,m2⟩:=h2.A;obtain⟨l3,s4,c4,m3⟩:=h3.A;obtain⟨b3,W⟩:=exE (up 0 n0);obtain⟨X,K⟩:=exE (up 1 n0);have n6:v.A X= .none:=by rw[K];exact nx0 hw x 1
 simp only[CT,Tryz.f16,XY,simprocAttr];rw[Ja];simp[XY,x,s1,s2];rw[<-W,<-K];obtain⟨S0,w⟩:=exE ((v.B fun t=> .a t [.d .i64 h.A, .d .i64 h.n,T,U]).B fun t=> .a t [.d .i64 0,ofL [], .g, .g, .g, .g]);have Q:Gr v S0:=by rw[w];exact(Gr.G hw (Jd _)).L (Jd _)
 obtain⟨t3,r3⟩:∃t,S0.A b3= .a t [.d .i64 h.A, .d .i64 h.n,T,U]:=⟨_,by rw[w,W];simp[XZ,x];rfl⟩
 obtain⟨t6,r6⟩:∃t,S0.A X= .a t [.d .i64 0,ofL [], .g, .g, .g, .g]:=⟨_,by rw[w,K];simp[XZ,x];rfl⟩
 rw[<-w];clear w;rw[Ja];simp[XY,r3];refine Jc (Jq8 z0 Q.D (g1.F Q) (h2.F Q) (h3.F Q)) ?_;rintro _ S1 ⟨gs,l,rfl,hs⟩;obtain⟨sc,Y⟩:∃o,o=jD h r q:=⟨_,rfl⟩
 rw[<-Y]at hs⊢;have N:=hs;obtain⟨c,Z,sv,rfl,k1,k2,k3⟩:=hs;obtain⟨M,hM⟩:∃M,M=sc.b:=⟨_,rfl⟩
 rw[<-hM]at k1;obtain⟨mn,mk,xe,rfl,u1,u2,u3,u4⟩:=k1.B;have d1:=u1.A;have d2:=u1.B;have d3:=u2.A;have d4:=u2.B;have d5:=k2.G;have d6:=k3.G;have w1:=gs.D;obtain⟨n1,aa⟩:=nxE S1;simp at N⊢;simp[XY,aa,d2,d4,d5.1,d6.1];obtain⟨b8,ab⟩:=exE (up 0 n1);obtain⟨S2,y⟩:=exE ((S1.B fun t=> .a t [.d .i64 0,ofL [], .g, .g, .g, .g]).D (up 0 n1) S1.t fun u=> .a u [.d .i64 M.A,ofL M.B,mn,mk,Z,sv]);have O:Gr S1 S2:=by rw[y];exact(Gr.F w1).M aa (Jd _) (Jd _)
 obtain⟨t8,r8⟩:∃t,S2.A b8= .a t [.d .i64 M.A,ofL M.B,mn,mk,Z,sv]:=⟨_,by rw[y,ab];simp[XZ];rfl⟩
 rw[<-y,<-ab];clear y;have ae:=N.A O.H;rw[Ja];simp[XY,r8];refine Jj (JhS (by rw[Y,z0];rfl) (Js O.D S2.t) (ae.B S2.t)) ?_;rintro _ S3 g3 rfl;have gg:=(Q.B gs).B (O.B g3);have ad:=r6;have r6:=((gs.B O).B g3).A r6;obtain⟨R,hR⟩:∃R,R=refS sc:=⟨_,rfl⟩
 rw[<-hR];have z:Gr v (S3.D X t6 fun u=> .a u [.d .i64 M.A,ofL M.B,mn,mk,Z,sv])/\SchC (fun m=>v.A m= .none) (S3.D X t6 fun u=> .a u [.d .i64 M.A,ofL M.B,mn,mk,Z,sv]) [.d .i64 M.A,ofL M.B,mn,mk,Z,sv] sc:=by
  refine⟨gg.J n6 (Jb r6) (by rw[r6];rfl) (Jd _), ?_⟩;have r60:S0.A X≠ .none:=fun l=>by
   have:=(gs.B O).B g3;exact(Jb ad) l
  exact N.A fun m p l=>⟨Q.I p,by rw[Ji _ _ _ fun k=>r60 (by rw[<-k];exact p),g3.d m (by rw[O.d m l];exact l),O.d m l]⟩
 by_cases h0:R=0
 ·simp only[XZ,simprocAttr,h0,r6,d2,d4,d5.1,d6.1];exact⟨z.1,_,rfl,z.2⟩
 ·simp only[XZ,simprocAttr,h0,r6,d2,d4,d5.1,d6.1];exact⟨z.1,_,rfl,z.2⟩
theorem Jj0 {R:V->List Nat->Prop}(n:Str):∀{sv:List (Str×V)} {sg:List (Str×List Nat)},sv.length=sg.length->(∀i (h:i<sv.length) (e:i<sg.length),sv[i].1=sg[i].1/\R sv[i].2 sg[i].2)->
  (∀c,(sg.find? fun p=>n=p.1).map (·.2)=some c->∃v,at_ n sv=some v/\R v c)/\((sg.find? fun p=>n=p.1).map (·.2)=none->at_ n sv=none)
 |[],[],_,_=>⟨fun c h=>(by cases h),fun _=>rfl⟩
 | (a,v)::r,(b,w)::q,f,h=>by
   obtain⟨g,j⟩:=Jj0 n (sv:=r) (sg:=q) (by grind) fun i k l=>h (i+1) (by grind) (by grind);have d:=h 0 (by simp) (by simp);simp at d;rw[at_]
   grind
theorem sigN (k:Str)(j:TabX v s n b)(m:sigI b k=none):
  Dz 162 [.e n 0,ofL k] v fun f S=>f= .p [.g, .d .i64 0, .h false]/\v=S:=by
 obtain⟨o,F,q,r,u,w,x,y,j⟩:=j;refine Jl (aT Tryz.func162 rfl) rfl ?_;obtain⟨t,c⟩:=j.s;have i:=kP (e:= .a .s) j.v .g true k (YR _ _) rfl;rw[(Jj0 (R:=fun f l=>SlAt F v f 1 (ints l)) k j.K j.A).2 m]at i;simp[ansL]at i;simp only[CT,Tryz.f162,XZ,simprocAttr,c,i]
def AskC (P:Pt->Prop)(st:St)(rt:Pt)(e:List V)(nds:List Nd)(args:List Nat):Prop:=
 ∃lv av es,e=[.e rt 0,lv,av]/\SlAt P st lv 4 es/\es.length=nds.length/\(∀i (h:i<es.length) (h':i<nds.length),NdC P st es[i] nds[i])/\SlAt P st av 1 (ints args)
theorem AskC.D {P Q:Pt->Prop}{d st':St}{f:Pt}{e:List V}{c:List Nd}{args:List Nat}(h:AskC P d f e c args)(k:∀r,P r->d.A r≠ .none->Q r/\st'.A r=d.A r):AskC Q st' f e c args:=by
 obtain⟨g,j,l,rfl,m,n,o,p⟩:=h;exact⟨g,j,l,rfl,m.D k,n,fun i a b=>(o i a b).A k,p.D k⟩
theorem AskC.B {st':St}{args:List Nat}(h:AskC s v n e z args)(g:Gr v st'):AskC s st' n e z args:=h.D g.H
theorem AskC.A {st:St}{args:List Nat}(h:AskC s st n e z args)(k:Nat):AskC s {st with a:=k} n e z args:=h.D kR
theorem jq {j:V}{b:List (List V)}(l:SlAt s v j 4 b)(x:b.length=z.length)(m:∀i (h:i<b.length) (y:i<z.length),NdC s v b[i] z[i]){i:Nat}(n:i<z.length):
  ∃r q f,Jo 4 j (.d .i64 i)=some (.e r q, .a)/\s r/\v.A r≠ .none/\ld1 (v.A r) q=some (.d .i64 z[i].a, .a)/\ld1 (v.A r) (q+3)=some (f, .a)/\SlAt s v f 1 (ints z[i].c):=by
 obtain⟨r,q,o,p,t,K,g⟩:=l.I (i:=i) (by omega);have k:=m i (by omega) n;obtain⟨E,u⟩:∃E,E=b[i]'(by omega):=⟨_,rfl⟩
 rw[<-u]at k g;obtain⟨L,f,rfl,M,w⟩:=k;exact⟨r,q,f,o,p,t,g 0 (by simp),g 3 (by simp),w⟩
theorem Jr6 (k:Int)(c:TabU v s n b):
  Dz 127 [.e n 0, .d .i64 k] v fun a S=>Ch s v S/\∃f,TabU S f n (layS b ⟨k,[],[],[]⟩).1/\(∀r,f r->s r\/v.A r= .none)/\a= .p [.d .i64 ((layS b ⟨k,[],[],[]⟩).2.1:Nat), .d .i64 (layS b ⟨k,[],[],[]⟩).2.2]:=by
 have h:=c;obtain⟨i,⟨t,F,c,j⟩,u⟩:=c;refine Jl (aT Tryz.func127 rfl) rfl ?_;simp only[CT,Tryz.f127,XZ,simprocAttr];refine Jc (lay (P:=fun _=>True) (nd:=⟨k,[],[],[]⟩) i c ⟨.g, .g,rfl,SlAt.K _ _ _,SlAt.K _ _ _⟩ ⟨XC _,XC _⟩) ?_;rintro _ w ⟨l,⟨x,y,z,m,o,q⟩,rfl⟩;simp[XZ];obtain⟨L,M,N,O⟩:=h.D j l m o q
 grind
def Jbf (tb:Tb)(k:Int)(ok:Bool):Tb×Nat×Int:=if ok then layS tb ⟨k,[],[],[]⟩else(tb,0,17)
theorem Jg9 {args:List Nat}(k:Int)(g:Bool)(m:TabU v s n b)(h:AskC p v n e z args):
  Dz 186 [.j e, .d .i64 k, .h g] v fun c S=>Ch s v S/\∃o,TabU S o n (Jbf b k g).1/\(∀r,o r->s r\/v.A r= .none)/\c= .p [.d .i64 ((Jbf b k g).2.1:Nat), .d .i64 (Jbf b k g).2.2]:=by
 refine Jl (aT Tryz.func186 rfl) rfl ?_;obtain⟨L,i⟩:=nxE v;obtain⟨q,u,Y,rfl,x,Z,h3,y⟩:=h;have c1:=x.A;have M:=x.B;have c3:=y.A;have N:=y.B;have O:=m.1;obtain⟨K,f⟩:=exE (v.B fun t=> .a t [.e n 0,q,u]);have l:Gr v K:=by rw[f];exact Gr.G O (Jd _)
 obtain⟨t2,r2⟩:∃t,K.A (up 0 L)= .a t [.e n 0,q,u]:=⟨_,by rw[f];simp[XZ,i];rfl⟩
 simp only[CT,Tryz.f186,XY,simprocAttr];rw[Ja];simp[XY,i,M,N];rw[<-f];clear f
 cases g with
 | false=>
   simp only[XZ,simprocAttr];exact⟨Ch.H s l,s,m.A l,fun r w=> .inl w,rfl⟩
 | true=>
   rw[Je,Ja];simp[XY];rw[Ja];simp[XY,r2];refine Jc (Jr6 k (m.A l)) ?_;rintro _ S2 ⟨Q,T,U,X,rfl⟩;simp only[XZ,simprocAttr];exact⟨(Ch.H s l).A Q fun r w=> .inl w,T,U,fun r w=>by rcases X r w with w|w;exact .inl w;exact .inr (Ch.B (Ch.H s l) w),rfl⟩
def Ans (W:Pt->Prop)(st:St)(rt:Pt)(x:Tb×Nat×Int)(v:V)(S:St):Prop:=Ch W st S/\∃W',TabU S W' rt x.1/\(∀r,W' r->W r\/st.A r= .none)/\v= .p [.d .i64 (x.2.1:Nat), .d .i64 x.2.2]
theorem Ans.D {W:Pt->Prop}{S:St}(G:Gr v g)(h:Ans W g n f i S):Ans W v n f i S:=by
 obtain⟨C,a,T,K,e⟩:=h;exact⟨(Ch.H W G).A C fun r w=> .inl w,a,T,fun r w=>by rcases K r w with w|w;exact .inl w;exact .inr (Ch.B (Ch.H W G) w),e⟩
theorem Ans.A {W:Pt->Prop}{st S:St}{a:Pt}{b:Tb}{n:Nat}{z:Int}(c:TabU st W a b)(G:Gr st S):Ans W st a (b,n,z) (.p [.d .i64 (n:Nat), .d .i64 z]) S:=⟨Ch.H W G,W,c.A G,fun r w=> .inl w,rfl⟩
def Y5 (nds:List Nd)(ok:Bool):Nat×Int:=match ok,(nds.headD ⟨0,[],[],[]⟩).c with
 |true,k::_=>(k,0)
 |_,_=>(0,17)
theorem kidA {args:List Nat}(K:Bool)(hw:WF v)(h:AskC s v n e z args)(h0:0<z.length):
  Dz 188 [.j e, .h K] v fun f S=>Gr v S/\f= .p [.d .i64 ((Y5 z K).1:Nat), .d .i64 (Y5 z K).2]:=by
 refine Jl (aT Tryz.func188 rfl) rfl ?_;obtain⟨n0,o⟩:=nxE v;obtain⟨N,Y,Z,rfl,O,h2,h3,h4⟩:=h;have c1:=O.A;have c2:=O.B;have c3:=h4.A;have c4:=h4.B;obtain⟨p2,u⟩:=exE (up 0 n0);obtain⟨Q,m⟩:=exE (v.B fun t=> .a t [.e n 0,N,Y]);have w:Gr v Q:=by rw[m];exact Gr.G hw (Jd _)
 obtain⟨t2,r2⟩:∃t,Q.A p2= .a t [.e n 0,N,Y]:=⟨_,by rw[m,u];simp[XZ,o];rfl⟩
 have T:∀i (h:i<Z.length) (h':i<z.length),NdC s Q Z[i] z[i]:=fun i a b=>(h3 i a b).A w.H;obtain⟨r,q,x,L,a2,a3,a4,a5,U⟩:=jq (O.H w) h2 T h0;have L:Jo 4 N (.d .i64 0)=some (.e r q, .a):=L;have l:=U.G;rw[JS]at l;have W:z.headD ⟨0,[],[],[]⟩=z[0]:=by cases z with|nil=>grind|cons a b=>rfl
 simp only[CT,Tryz.f188,XY,simprocAttr];rw[Ja];simp[XY,o,c2,c4];rw[<-m,<-u];clear m;unfold Y5;rw[W]
 cases K with
 | false=>
   simp[XZ];exact w
 | true=>
   cases y:z[0].c with
   | nil=>
     rw[y]at l;have l:JU x=some (.d .i64 0, .a):=l;simp[XZ,r2,L,a5,l];exact w
   | cons k ks=>
     rw[y]at l U;have hz:¬((ks.length+1:Nat):Int)=0:=by omega
     obtain⟨r',q',X,b2,b3,b4⟩:=SlAt.M (xs:=(k::ks).map fun g:Nat=>V.d .i64 (g:Int)) (i:=0) U (by simp);have X:Jo 1 x (.d .i64 0)=some (.e r' q', .a):=X;simp at b4;simp only[XZ,simprocAttr,r2,L,a5,l,hz,X,b4];exact w
theorem JmK {id:Nat}(f:TabU v s n b)(k:id<b.a.length):
  Dz 130 [.e n 0, .d .i64 id] v fun c S=>TabU S s n b/\Gr v S/\∃e,c= .p [.j e, .h true]/\NdC (fun r=>v.A r= .none) S e b.a[id]:=by
 have i:=f;obtain⟨l,⟨m,F,f,o⟩,q⟩:=f;refine(JtL (Q:=fun r=>v.A r= .none) l f k fun _ h=>h).A ?_;rintro c S ⟨g,e,rfl,h⟩;exact⟨i.A g,g,e,rfl,h⟩
theorem Jj1 {id:Nat}(f:TabU v s n b)(g:Ku b (b.a.length+1) id=(l,true)):
  Dz 129 [.e n 0, .d .i64 id] v fun c S=>c= .p [.d .i64 (l:Nat), .h true]/\v=S:=by
 obtain⟨i,⟨j,F,f,k⟩,m⟩:=f;have:=JtN (id:=id) i f;rw[g]at this;exact this
theorem optA (id:Nat)(f:TabU v s n b):
  Dz 200 [.e n 0, .d .i64 id] v (Ans s v n (layS b ⟨6,[],[],[id]⟩)):=by
 have g:=f;obtain⟨h,⟨r,F,f,i⟩,t⟩:=f;refine(optC id h f).A ?_;rintro a S ⟨c,⟨u,w,x,j,k,l⟩,rfl⟩;obtain⟨m,o,p,q⟩:=g.D i c j k l;exact⟨m,o,p,q,rfl⟩
theorem JpL (c:Str)(f:TabU v s n b)(i:sigI b c=none):
  Dz 162 [.e n 0,ofL c] v fun a S=>a= .p [.g, .d .i64 0, .h false]/\v=S:=by
 obtain⟨j,⟨k,F,f,_⟩,_⟩:=f;exact sigN c ⟨j,F,f⟩ i
def izs (l:List Int):List (List V):=l.map fun k=>[V.d .i64 k]
theorem Jq9 (l:List Int):(izs l).length=l.length:=by simp[izs]
def areZ (ks:List Int)(nds:List Nd):Bool:=(ks.zip nds).all fun p=>decide (p.2.a=p.1)
theorem areI {args:List Nat}{g:List Int}(hw:WF v)(h:AskC s v n e z args)(u:SlAt p v i 1 (izs g))(hl:g.length<=z.length)(h8:g.length<=8):
  Dz 187 [.j e,i] v fun c S=>Gr v S/\c= .h (areZ g z):=by
 refine Jl (aT Tryz.func187 rfl) rfl ?_;obtain⟨n0,w⟩:=nxE v;obtain⟨lv,av,es,rfl,O,h2,h3,h4⟩:=h;have c1:=O.A;have c2:=O.B;have c3:=h4.A;have c4:=h4.B;have x:=u.G;rw[Jq9]at x;simp only[CT,Tryz.f187,XY,simprocAttr];rw[Ja];simp[XY,w,c2,c4];generalize T:up 0 n0=p2;refine nm1 hw w T ?_;intro U W _ ⟨t2,r2⟩;have X:=u.H W;have Y:=O.H W;have Z:∀f (h:f<es.length) (h':f<z.length),NdC s U es[f] z[f]:=fun f a b=>(h3 f a b).A W.H;refine QE (fun _ S=>S=U/\areZ g z=true) ?_ fun t S ⟨e,h⟩=>by
  subst e;simp only[XZ,simprocAttr]
  grind
 rw[Ja];simp[XY,x];refine Jy (fun j t S=>∃(f:Nat),j+f=g.length/\t 2= .e p2 0/\t 7=i/\t 8= .d .i64 g.length/\t 9= .d .i64 f/\S=U/\areZ g z=areZ (g.drop f) (z.drop f)) g.length (by omega) ⟨0,by omega,rfl,rfl,rfl,by rfl,rfl,rfl⟩ ?_;rintro L hL j t S ⟨f,hj,f2,f7,K,f9,rfl,k⟩;by_cases N:f<g.length
 ·have y:f<z.length:=by omega
  have l:=wiN (i:=f) (by omega);obtain⟨r,q,aa,a1,a2,a3,a4,a5,a6⟩:=jq Y h2 Z y;obtain⟨r',q',b1,b2,b3,b4⟩:=SlAt.M (xs:=g.map (V.d .i64)) (i:=f) (by rw[List.map_map];exact X) (by grind);simp at b4;have m:areZ (g.drop f) (z.drop f)=(decide (z[f].a=g[f])&&areZ (g.drop (f+1)) (z.drop (f+1))):=by
   rw[Xc N,Xc y];rfl
  rw[m]at k;by_cases u:z[f].a=g[f]
  ·have o:(z[f].a=g[f])=True:=XL u;simp[XZ,f2,f7,K,f9,N,b1,b4,r2,a1,a4,o,l];refine⟨j-1,by omega,hL _ _ _ ⟨f+1,by omega,f2,f7,K,rfl,rfl,by grind⟩⟩
  ·have o:(z[f].a=g[f])=False:=XF u;simp[XZ,f2,f7,K,f9,N,b1,b4,r2,a1,a4,o]
   grind
 ·simp[XZ,K,f9,N];rw[Xs (by omega)]at k;exact k
section
variable {S : St} {x : Pt} {t : Nat}
theorem izs1 {a:Int}(r:S.A x= .a t [.d .i64 a]):SlAt (fun _=>True) S (.m x 0 1 1 1) 1 (izs [a]):=SlAt.J (es:=izs [a]) (t:=t) (by rw[r];rfl) trivial fun e h=>by simp[izs]at h;grind
theorem izs2 {a b:Int}(r:S.A x= .a t [.d .i64 a, .d .i64 b]):SlAt (fun _=>True) S (.m x 0 2 1 2) 1 (izs [a,b]):=SlAt.J (es:=izs [a,b]) (t:=t) (by rw[r];rfl) trivial fun e h=>by simp[izs]at h;grind
end
theorem orB {A B:Nd}{g:Nat}(hT:TabU v s n b)(h:AskC (fun r=>¬s r) v n e [A,B] [d,l])(hA:A.a=6)(ab:A.c=[g]):
  Dz 165 [.j e,ofL [111,114,101,108,115,101]] v (Ans s v n (if l=g then(b,g,0)else(b,0,17))):=by
 refine Jl (aT Tryz.func165 rfl) rfl ?_;obtain⟨n0,T⟩:=nxE v;have p:=h;obtain⟨lv,av,es,rfl,h1,h2,h3,h4⟩:=h;have c1:=h1.A;have c2:=h1.B;have c3:=h4.A;have c4:=h4.B;have hw:=hT.1;obtain⟨p2,U⟩:=exE (up 0 n0);obtain⟨P,x⟩:=exE (v.B fun t=> .a t [.e n 0,lv,av]);have G0:Gr v P:=by rw[x];exact Gr.G hw (Jd _)
 obtain⟨t2,r2⟩:∃t,P.A p2= .a t [.e n 0,lv,av]:=⟨_,by rw[x,U];simp[XZ,T];rfl⟩
 have ad:∀i (h:i<es.length) (h':i<([A,B]).length),NdC (fun r=>¬s r) P es[i] ([A,B])[i]:=fun i a f=>(h3 i a f).A G0.H;obtain⟨r,q,z,u,a2,a3,a4,a5,Q⟩:=jq (h1.H G0) h2 ad (i:=0) (by simp);have u:Jo 4 lv (.d .i64 0)=some (.e r q, .a):=u;simp at a4 Q;simp only[CT,Tryz.f165,XY,simprocAttr];rw[Ja];simp[XY,T,c2,c4];rw[<-x,<-U];clear x;rw[Ja];simp[XY,r2,u,a4];have w0:=G0.D;obtain⟨n1,K⟩:=nxE P;have o2:=fun k=>nes (Jr w0 K (Jb r2) k);simp[XZ,r2,K,Xi,Zg,XE];obtain⟨x0,X⟩:=exE (up 0 n1);obtain⟨S1,y⟩:=exE (P.B fun t=>Row.a t [V.d IntKind.i64 6]);have Y:Gr P S1:=by rw[y];exact Gr.G w0 (Jd _)
 obtain⟨t3,r3⟩:∃t,S1.A x0= .a t [.d .i64 6]:=⟨_,by rw[y,X];simp[XZ,K];rfl⟩
 rw[<-y,<-X];clear y;have hk:SlAt (fun _=>True) S1 (.m x0 0 1 1 1) 1 (izs [6]):=SlAt.J (es:=izs [6]) (t:=t3) (by rw[r3];rfl) trivial (fun e h=>by simp[izs]at h;grind);have Z:=G0.B Y;have r2:=Y.A r2;refine Jj (areI (Js Y.D _) ((p.B Z).A _) (hk.L _) (by simp) (by simp)) ?_;rintro _ S2 S rfl;have w:=Z.B S;have r2:=S.A r2;have aa:areZ [6] [A,B]=true:=by unfold areZ;simp[hA]
 rw[aa];have Q:=Q.H (Y.B S);rw[ab]at Q;have o:=Q.G;have o:JU z=some (.d .i64 1, .a):=o;obtain⟨r4,q4,b1,b2,b3,b4⟩:=SlAt.M (xs:=[V.d .i64 (g:Int)]) (i:=0) Q (by simp);have b1:Jo 1 z (.d .i64 0)=some (.e r4 q4, .a):=b1;simp at b4;obtain⟨r5,q5,d1,d2,d3,d4⟩:=SlAt.M (xs:=[V.d .i64 (d:Int),V.d .i64 (l:Int)]) (i:=1) (h4.H w) (by simp);have d1:Jo 1 av (.d .i64 1)=some (.e r5 q5, .a):=d1;simp at d4;have a5:ld1 (S2.A r) (q+3)=some (z, .a):=by rw[(Y.B S).d r a3];exact a5
 by_cases hq:l=g
 ·have N:((l:Int)=(g:Int))=True:=XL (by omega);simp[XZ,r2,u,a5,o,b1,b4,d1,d4,N];refine Jj (kidA true (Js S.D _) ((p.B w).A _) (by simp)) ?_;rintro _ S3 G3 rfl;have O:Y5 [A,B] true=(g,0):=by unfold Y5;grind
  rw[O];simp[XZ,hq];exact Ans.A hT (w.B G3)
 ·have N:((l:Int)=(g:Int))=False:=XF (by omega);simp[XZ,r2,u,a5,o,b1,b4,d1,d4,N];refine Jj (kidA false (Js S.D _) ((p.B w).A _) (by simp)) ?_;rintro _ S3 G3 rfl;have O:Y5 [A,B] false=(0,17):=rfl;rw[O];simp[XZ,hq];exact Ans.A hT (w.B G3)
def getR (tb:Tb)(kid o:Nat):Tb×Nat×Int:=if(tb.a.getD o ⟨0,[],[],[]⟩).a=6 then(tb,0,17)else layS tb ⟨6,[],[],[kid]⟩
theorem getA {A B:Nd}{args:List Nat}(hT:TabU v s n b)(h:AskC (fun r=>¬s r) v n e [A,B] args)(hA:A.a=5)(hB:B.a=3)(af:A.c=[d])(ho:Ku b (b.a.length+1) d=(l,true))(ad:l<b.a.length):
  Dz 189 [.j e] v (Ans s v n (getR b d l)):=by
 refine Jl (aT Tryz.func189 rfl) rfl ?_;obtain⟨n0,z⟩:=nxE v;have p:=h;obtain⟨lv,av,es,rfl,h1,h2,h3,h4⟩:=h;have c1:=h1.A;have c2:=h1.B;have c3:=h4.A;have c4:=h4.B;have hw:=hT.1;obtain⟨p1,K⟩:=exE (up 0 n0);simp only[CT,Tryz.f189,XY,simprocAttr];rw[Ja];simp[XY,z,c2,c4];obtain⟨O,f⟩:=exE (v.B fun t=> .a t [.e n 0,lv,av]);have G0:Gr v O:=by rw[f];exact Gr.G hw (Jd _)
 obtain⟨t2,r2⟩:∃t,O.A p1= .a t [.e n 0,lv,av]:=⟨_,by rw[f,K];simp[XZ,z];rfl⟩
 rw[<-f,<-K];clear f;have w0:=G0.D;obtain⟨n1,q⟩:=nxE O;have o2:=fun k=>nes (Jr w0 q (Jb r2) k);rw[Ja];simp[XY,r2,q];obtain⟨x0,P⟩:=exE (up 0 n1);obtain⟨S1,i⟩:=exE (O.B fun t=>Row.a t [V.d IntKind.i64 5,V.d IntKind.i64 3]);have G1:Gr O S1:=by rw[i];exact Gr.G w0 (Jd _)
 obtain⟨t3,r3⟩:∃t,S1.A x0= .a t [.d .i64 5, .d .i64 3]:=⟨_,by rw[i,P];simp[XZ,q];rfl⟩
 rw[<-i,<-P];clear i;have hk:SlAt (fun _=>True) S1 (.m x0 0 2 1 2) 1 (izs [5,3]):=SlAt.J (es:=izs [5,3]) (t:=t3) (by rw[r3];rfl) trivial (fun e h=>by simp[izs]at h;grind);have Q:=G0.B G1;have r2:=G1.A r2;refine Jj (areI (Js G1.D _) ((p.B Q).A _) (hk.L _) (by simp) (by simp)) ?_;rintro _ S2 G2 rfl;have S:=Q.B G2;have r2:=G2.A r2;have T:areZ [5,3] [A,B]=true:=by unfold areZ;simp_all
 rw[T];simp[XY];refine Jj (kidA true (Js G2.D _) ((p.B S).A _) (by simp)) ?_;rintro _ S3 G3 rfl;have ae:Y5 [A,B] true=(d,0):=by unfold Y5;grind
 rw[ae];have U:=S.B G3;have r2:=G3.A r2;have T3:=hT.A U;simp[XY];rw[Je,Ja];simp[XY];rw[Ja];simp[XY,r2];refine Jc (Jj1 T3 ho) ?_;rintro _ _ ⟨rfl,rfl⟩;simp[XY];rw[Je,Ja];simp[XY,r2];refine Jc (JmK T3 ad) ?_;rintro _ S4 ⟨T4,g4,e',rfl,X,Y,rfl,Z,aa⟩;have q1:=Z.A;have q2:=Z.B;have q3:=aa.A;have q4:=aa.B;have r2:=g4.A r2;obtain⟨N,hN⟩:∃N,N=b.a[l]:=⟨_,rfl⟩
 rw[<-hN];obtain⟨n4,w⟩:=nxE S4;have o4:=fun k=>nes (Jr T4.1 w (Jb r2) k);obtain⟨S5,x⟩:=exE ((S4.B fun t=> .a t [.d .i64 0,ofL [], .g, .g]).D (up 0 n4) S4.t fun u=> .a u [.d .i64 N.a,ofL N.d,X,Y]);have g5:Gr S4 S5:=by rw[x];exact(Gr.F T4.1).M w (Jd _) (Jd _)
 obtain⟨t5,r5⟩:∃t,S5.A (up 0 n4)= .a t [.d .i64 N.a,ofL N.d,X,Y]:=⟨_,by rw[x];simp[XZ];rfl⟩
 have r2:=g5.A r2;have y:=(U.B g4).B g5;simp[XY,w,q2,q4];rw[<-x];have ab:getR b d l=if N.a=6 then(b,0,17)else layS b ⟨6,[],[],[d]⟩:=by unfold getR;grind
 rw[ab];by_cases h6:N.a=6
 ·rw[Xd h6];simp[XZ,r5,h6];exact Ans.A hT y
 ·rw[Xa h6];rw[Ja];simp[XY,r5,h6];rw[Ja];simp[XY,r2];refine Jc (optA d (hT.A y)) ?_;rintro _ S6 ⟨C6,W6,T6,K6,rfl⟩;simp[XZ];exact Ans.D y ⟨C6,W6,T6,K6,rfl⟩
theorem getB {A B:Nd}{args:List Nat}(N:TabU v s n b)(h:AskC (fun r=>¬s r) v n e [A,B] args)(T:A.a=5)(U:B.a=3)(w:A.c=[d])(X:Ku b (b.a.length+1) d=(l,true))(x:l<b.a.length):
  Dz 165 [.j e,ofL [103,101,116]] v (Ans s v n (getR b d l)):=by
 refine Jl (aT Tryz.func165 rfl) rfl ?_;obtain⟨Y,k⟩:=nxE v;have m:=h;obtain⟨y,O,P,rfl,z,Z,h3,Q⟩:=h;have c1:=z.A;have c2:=z.B;have c3:=Q.A;have c4:=Q.B;have hw:=N.1;obtain⟨p2,p⟩:=exE (up 0 Y);obtain⟨K,g⟩:=exE (v.B fun t=> .a t [.e n 0,y,O]);have u:Gr v K:=by rw[g];exact Gr.G hw (Jd _)
 obtain⟨t2,r2⟩:∃t,K.A p2= .a t [.e n 0,y,O]:=⟨_,by rw[g,p];simp[XZ,k];rfl⟩
 have L:∀i (h:i<P.length) (h':i<([A,B]).length),NdC (fun r=>¬s r) K P[i] ([A,B])[i]:=fun i a f=>(h3 i a f).A u.H;obtain⟨r,q,aa,M,a2,a3,S,a5,a6⟩:=jq (z.H u) Z L (i:=0) (by simp);have M:Jo 4 y (.d .i64 0)=some (.e r q, .a):=M;simp at S a6;simp only[CT,Tryz.f165,XY,simprocAttr];rw[Ja];simp[XY,k,c2,c4];rw[<-g,<-p];clear g;rw[Ja];simp[XY,r2,M,S];simp[XZ,r2,Xi,Zg,X8];refine Jc (getA (N.A u) (m.B u) T U w X x) ?_;rintro _ S1 ⟨C1,W1,T1,K1,rfl⟩;simp[XZ];exact Ans.D u ⟨C1,W1,T1,K1,rfl⟩
def JbK (tb:Tb)(args:List Nat)(nds:List Nd):Prop:=args.length=nds.length/\∀i (h:i<args.length) (h':i<nds.length),∃o,Ku tb (tb.a.length+1) args[i]=(o,true)/\tb.a[o]? =some nds[i]
theorem ofB {K:Str}{args:List Nat}(hT:TabU v s n b)(hs:sigI b K=none)(hb:(Ks K&&Lib.contains Yr (32::(K++[32])))=true)
  (aa:∀S,Dz 163 [ofL K] S fun c S'=>c= .d .i64 (args.length:Nat)/\S=S') (a4:args.length<=8) (y:SlAt (fun r=>¬s r) v i 1 (ints args)) (aw:JbK b args z)
  (hB:∀(S:St) (e:List V),Gr v S->AskC (fun r=>¬s r) S n e z args->Dz 165 [.j e,ofL K] S (Ans s S n f)):
  Dz 126 [.e n 0,ofL K,i] v (Ans s v n f):=by
 refine Jl (aT Tryz.func126 rfl) rfl ?_;obtain⟨a6,al⟩:=aw;have ab:=y.G;rw[JS]at ab;have ax:JU .g=some (.d .i64 0, .a):=rfl;simp only[CT,Tryz.f126,XY,simprocAttr];rw[Ja];simp[XY];rw[Ja];simp[XY];refine Jc (JpL K hT hs) ?_;rintro _ _ ⟨rfl,rfl⟩;simp[XY];rw[Ja];simp[XY,ax];rw[Je];simp[XY];rw[Ja];simp[XY];refine Jc (Jcw K v hT.1) ?_;rintro _ S1 ⟨G1,rfl⟩;rw[hb];simp[XY];refine Jc (aa S1) ?_;rintro _ _ ⟨rfl,rfl⟩;simp[XY];rw[Je,Ja];simp[XY,ab];rw[Je,Ja];simp[XY];refine Jc (Jcw K S1 G1.D) ?_;rintro _ S2 ⟨G2,rfl⟩;rw[hb];have O:=G1.B G2;have a5:=y.H O;have s1:=y.B;have s2:=y.A;obtain⟨n2,ad⟩:=nxE S2;simp[XY];rw[Ja];simp[XY,ad,s1,s2];obtain⟨P,ae⟩:=exE (up 0 n2);obtain⟨S3,U⟩:=exE ((S2.B fun t=> .a t [.s, .g, .g]).D (up 0 n2) S2.t fun u=> .a u [.e n 0, .g,i]);have g3:Gr S2 S3:=by rw[U];exact(Gr.F O.D).M ad (Jd _) (Jd _)
 obtain⟨t7,r7⟩:∃t,S3.A P= .a t [.e n 0, .g,i]:=⟨_,by rw[U,ae];simp[XZ];rfl⟩
 have ay:S2.A P= .none:=by rw[ae];exact nx0 O.D ad 0
 rw[<-U,<-ae];clear U;have am:=O.B g3;have e7:v.A P= .none:=O.I ay;obtain⟨B,af⟩:∃B:Pt->Prop,∀r,B r<->(v.A r≠ .none\/r=P):=⟨_,fun _=>Iff.rfl⟩
 have B7:B P:=(af _).2 (.inr rfl);have B3:∀r,B r->S3.A r≠ .none:=fun r h=>by
  rcases(af _).1 h with h|h
  ·rw[am.d r h];exact h
  grind
 refine QE (fun Q S=>∃w t,Q 1=ofL K/\Q 16= .e P 0/\LsF NdC v S3 B 4 S w z/\S.A P= .a t [.e n 0,w,i]) ?_ ?_
 ·rw[Ja];simp only[XY,simprocAttr,ab];refine Jy (fun j Q S=>∃(l:Nat) (w:V) (t:Nat),j+l=args.length/\Q 0= .e n 0/\Q 1=ofL K/\Q 16= .e P 0/\Q 73=i/\Q 74= .d .i64 args.length/\Q 75= .d .i64 l/\LsF NdC v S3 B 4 S w (z.take l)/\S.A P= .a t [.e n 0,w,i]) args.length (by omega) ⟨0, .g,t7,by omega,rfl,rfl,rfl,rfl,rfl,by rfl,LsF.D am,r7⟩ ?_;rintro L hL j Q S ⟨l,w,t,hj,f0,f1,T,ao,ag,X,hF,r7⟩;by_cases hi:l<args.length;rotate_left
  ·have az:¬(l:Int)<args.length:=by omega
   simp only[XZ,simprocAttr,ag,X,az];rw[Xr (by omega)]at hF
   grind
  have ap:l<z.length:=by omega
  have ah:=wiN (i:=l) (by omega);obtain⟨o,ho,a0⟩:=al l hi ap;obtain⟨a1,a2⟩:=Xz.1 a0;obtain⟨ra,oa,o1,o2,o3,o4⟩:=SlAt.M (xs:=args.map fun m:Nat=>V.d .i64 (m:Int)) (i:=l) (y.H hF.g) (by grind);simp at o4;have TS:=hT.A hF.g;rw[Ja];simp[XY,ag,X,hi];rw[Je];simp[XY];rw[Je];simp[XY];rw[Ja];simp[XY,ao,X,o1,o4];rw[Ja];simp[XY,f0];refine Jc (Jj1 TS ho) ?_;rintro _ _ ⟨rfl,rfl⟩;simp[XY];rw[Ja];simp[XY,f0];refine Jc (JmK TS a1) ?_;rintro _ Sa ⟨_,ga,e,rfl,nv,kv,rfl,x1,x2⟩;rw[a2]at x1 x2⊢;obtain⟨N,hN⟩:∃N,N=z[l]:=⟨_,rfl⟩
  rw[<-hN]at x1 x2⊢;have a3:NdC (fun r=>S.A r= .none) Sa [.d .i64 N.a,ofL N.d,nv,kv] N:=⟨nv,kv,rfl,x1,x2⟩
  have q1:=x1.A;have q2:=x1.B;have q3:=x2.A;have q4:=x2.B;obtain⟨nA,aq⟩:=nxE Sa;simp[XY,aq,q2,q4];obtain⟨pa,ar⟩:=exE (up 0 nA);obtain⟨Sb,Y⟩:=exE ((Sa.B fun t=> .a t [.d .i64 0,ofL [], .g, .g]).D (up 0 nA) Sa.t fun u=> .a u [.d .i64 N.a,ofL N.d,nv,kv]);have gb:Gr Sa Sb:=by rw[Y];exact(Gr.F ga.D).M aq (Jd _) (Jd _)
  obtain⟨a7,rb⟩:∃t,Sb.A pa= .a t [.d .i64 N.a,ofL N.d,nv,kv]:=⟨_,by rw[Y,ar];simp[XZ];rfl⟩
  rw[<-Y,<-ar];clear Y;have ai:=ga.B gb;have TB:TabU Sb s n b:=TS.A ai;rw[Je,Ja];simp[XY,f0];refine Jc (Jj1 TB ho) ?_;rintro _ _ ⟨rfl,rfl⟩;simp[XY];rw[Ja];simp[XY];have aj:=ai.A r7;have wb:=gb.D;obtain⟨nB,ak⟩:=nxE Sb;have ob:=fun k=>nes (Jr wb ak (Jb aj) k);simp[XY,T,aj,rb,ak,q2,q4];have Fb:=hF.F (C:=NdC) NdC.A ai;have gn:Gr Sb (Sb.B fun t=> .a t [.d .i64 N.a,ofL N.d,nv,kv]):=Gr.G wb (Jd _);have Fg:=Fb.F (C:=NdC) NdC.A gn;have Z:=Ql (st:=Sb) (z:=4) (e:=[.d .i64 N.a,ofL N.d,nv,kv]) rfl;rw[ak]at Z;refine Jmo (C:=NdC) NdC.A Fg Z (by simp only[Kk,ZE,Hd,q2,q4];rfl) (a3.A fun r p e=>⟨⟨fun q=>hF.d r (B3 r q) p,fun e=>hF.A e p⟩,(gb.B gn).d r e⟩) B3 (by grind) fun Sf vf Ff kp=> ?_;rw[hN,<-XD ap]at Ff;have d5:=Ff.J;have rg:=gn.A aj;have rf:=(kp P (Jb rg) fun e=>B3 P B7 (hF.j _ e)).trans rg;simp[XZ,T,X,rf,ah,d5.1,d5.2];exact⟨j-1,by omega,hL _ _ _ ⟨l+1,vf,_,by omega,f0,f1,T,ao,ag,rfl,Ff.I (C:=NdC) NdC.A B7 e7 (B3 _ B7) rf,Jk _ _ _ _⟩⟩
 rintro Q S4 ⟨w,t,f1,T,hF,r7⟩;obtain⟨es,x1,x2,x3⟩:=hF.G (C:=NdC) NdC.A B3;have au:∀r,¬B r->v.A r= .none:=fun r m=>Xf fun e=>m ((af _).2 (.inl e));rw[Ja];simp[XY,f1,T,r7];refine Jc (hB S4 _ hF.g ⟨w,i,es,rfl,x1.D fun r p e=>⟨hT.B (au r p),rfl⟩,x2,fun l a q=>(x3 l a q).A fun r p e=>⟨hT.B (au r p),rfl⟩,y.H hF.g⟩) ?_;rintro _ S5 ⟨C5,W5,T5,K5,rfl⟩;simp[XZ];exact Ans.D hF.g ⟨C5,W5,T5,K5,rfl⟩
end Go.Proofs.YtmcjecniobkggaaGreat
