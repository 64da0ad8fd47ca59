/- A name and a type put into a type. The type that a raw tree is made into. Raw trees, fe -/
import Derived.Test.YtdajkeoobbonjaaGreatQ3
set_option linter.constructorNameAsVariable false
set_option maxHeartbeats 8000000
set_option linter.unusedVariables false
set_option linter.unusedSimpArgs false
set_option linter.unusedSectionVars false
set_option maxRecDepth 100000
namespace Go.Proofs.YtdajkeoobbonjaaGreat
open Eva Go.RowKit
variable {s p:Pt->Prop}{v g:St}{e:List V}{n:Pt}{k:List Nat}{z:List Nd}{b:Tb}{d l:Nat}{i:V}{r q:List Rw}{f:Tb×Nat×Int}{h:Rw}
theorem Jnf {α β:Type}{R:α->β->Prop}{x:α}{y:β}(f:R x y):∀(k:Nat) {d:List α} {ks:List β},d.length=ks.length->(∀i (h:i<d.length) (n:i<ks.length),R d[i] ks[i])->∀i (h:i<(d.take k++x::d.drop k).length) (n:i<(ks.take k++y::ks.drop k).length),R (d.take k++x::d.drop k)[i] (ks.take k++y::ks.drop k)[i]
 |0,d,ks,g,h,i,l,m=>by grind
 |k+1,[],[],g,h,i,l,m=>by grind
 | k+1,e::d,c::ks,g,h,i,l,m=>by
   cases i with
   |zero=>exact h 0 (by simp) (by simp)
   |succ i=>exact Jnf f k (by grind) (fun j a b=>h (j+1) (by grind) (by grind)) i (by grind) (by grind)
theorem js {a:Fr}{p:List Nat×List Nat}{l:List (List Nat×List Nat)}(b:JM a [p]=true)(c:JM a l=true):JM a (p::l)=true:=by
 simp[JM]at b c⊢
 grind
theorem putC {P:Pt->Prop}{t x:Ty}{xe:List V}(n:Str)(hw:WF v)(ht:TyC P v e t)(hx:TyC P v xe x)(bk:t.D.length<=8)(hk:t.G.length=t.D.length)(hP:∀r,v.A r= .none->P r):
  Dz 102 [.j e,ofL n, .j xe] v fun c bl=>Gr v bl/\∃e',c= .j e'/\TyC P bl e' (putS t n x):=by
 refine Jl (aT Tryz.func102 rfl) rfl ?_;obtain⟨n0,ab⟩:=nxE v;have cd:=ht;have bm:=hx
 cases ht with
 | @mk X Y N ks nv kv es h1 h2 h3 h4=>
 cases hx with
 | @mk xk xn av aw ad ae c7 x1 x2 x3 x4=>
 simp[Ty.D,Ty.G]at bk hk;have c1:=h1.A;have s1:=h1.B;have c2:=h2.A;have s2:=h2.B;have c3:=x1.A;have s3:=x1.B;have c4:=x2.A;have s4:=x2.B;have len1:=h1.G;rw[Jv]at len1;obtain⟨Q,ax⟩:=exE (up 0 n0);obtain⟨b2,bn⟩:=exE (up 1 n0);obtain⟨b3,ay⟩:=exE (up 2 n0);obtain⟨I,hI⟩:=opE fun T S=>(T 1=ofL n/\T 3= .g Q 0/\T 5= .g b2 0/\T 6= .g b3 0/\Gr v S/\(∃t,S.A Q= .a t [.d .i64 X,ofL Y,nv,kv])/\(∃t,S.A b2= .a t [.d .i64 xk,ofL xn,ad,ae])/\(∃t,S.A b3= .a t [.d .i64 0,ofL [], .e, .e]))
 have c8:up 0 n0≠up 1 n0:=by simp[XZ]
 have c9:up 0 n0≠up 2 n0:=by simp[XZ]
 have da:up 1 n0≠up 2 n0:=by simp[XZ]
 simp only[CT,Tryz.f102,XY,simprocAttr];refine YU I ?_ ?_
 ·simp[XZ,ab,s1,s2,s3,s4];refine(hI _ _).2 ⟨rfl,by simp[XZ,ax],by simp[XZ,bn],by simp[XZ,ay],(((Gr.F hw).L (Jc _)).L (Jc _)).L (Jc _),⟨_,by rw[ax];simp[XZ,ab];rfl⟩,⟨_,by rw[bn];simp[XZ,ab];rfl⟩,⟨_,by rw[ay];simp[XZ,ab];rfl⟩⟩
 intro T U ce;obtain⟨Z,W,f5,f6,g1,⟨t1,r1⟩,⟨t2,r2⟩,⟨t3,r3⟩⟩:=(hI _ _).1 ce;obtain⟨k,az⟩:∃k,k=KN n N:=⟨_,rfl⟩
 have db:k<=N.length:=by rw[az];exact Jdb _ _
 have l1:(strs N).length=N.length:=Jv _;have ai:∀i (h:i<N.length),∃q o,Js 1 nv (.d .i64 i)=some (.g q o, .a)/\ld1 (U.A q) o=some (ofL N[i], .a):=fun i h=>by
  obtain⟨q,o,a1,a2,a3,a4,a5⟩:=(h1.I g1).H (i:=i) (by omega);refine⟨q,o,a1, ?_⟩;have s:(strs N)[i]=[ofL N[i]]:=by simp[strs]
  simp_all
 rw[Ja];simp[XY];refine Ju (fun T S=>(U=S/\T 1=ofL n/\T 3= .g Q 0/\T 5= .g b2 0/\T 6= .g b3 0/\T 7= .d .i64 k)) (fun J hJ=> ?_) ?_
 ·simp[XY];obtain⟨L,hL⟩:=loE fun j T S=>∃i:Nat,j+i=k/\U=S/\T 1=ofL n/\T 3= .g Q 0/\T 5= .g b2 0/\T 6= .g b3 0/\T 7= .d .i64 i;refine JD L k (by omega) ((hL _ _ _).2 ⟨0,by omega,rfl,Z,W,f5,f6,by rfl⟩) ?_;clear Z W f5 f6;intro j T S cf;obtain⟨i,hj,rfl,Z,W,f5,f6,f7⟩:=(hL _ _ _).1 cf;by_cases hi:i<N.length
  ·obtain⟨q,o,a1,a2⟩:=ai i hi;by_cases ao:i<k
   ·have a0:Op.bytesLess N[i] n=true:=Jg7 n N i hi (by omega);have a6:=wiN (i:=i) (by omega);simp[XZ,Z,W,f7,r1,len1,hi,a1,a2,a0,a6];exact⟨k-(i+1),by omega,(hL _ _ _).2 ⟨i+1,by omega,rfl,Z,W,f5,f6,rfl⟩⟩
   ·have ao:i=k:=by omega
    subst ao;have a0:Op.bytesLess N[i] n=false:=by
     have:=Jg8 n N (by omega)
     grind
    simp[XZ,Z,W,f7,r1,len1,hi,a1,a2,a0];exact hJ _ _ ⟨rfl,Z,W,f5,f6,f7⟩
  ·have ao:i=k:=by omega
   subst ao;simp[XZ,W,f7,r1,len1,hi];exact hJ _ _ ⟨rfl,Z,W,f5,f6,f7⟩
 clear Z W f5 f6;rintro T S ⟨rfl,Z,W,f5,f6,f7⟩;have n3:v.A b3= .none:=by rw[ay];exact nx0 hw ab 2
 have n1:v.A Q= .none:=by rw[ax];exact nx0 hw ab 0
 by_cases aj:N[k]? =some n
 ·have hi:k<N.length:=by grind
  have cg:(k:Int)<N.length:=by omega
  obtain⟨q,o,a1,a2⟩:=ai k hi;have ch:N[k]=n:=by grind
  rw[ch]at a2;rw[Jd,Ja];simp only[XZ,simprocAttr,Z,W,f6,f7,r1,r3,len1,cg,a1,a2,s1,s2];have gw:=g1.J (f:=fun u=> .a u [.d .i64 X,ofL Y,nv,kv]) n3 (Jb r3) (by rw[r3]) (Jc _);refine⟨gw,_,rfl, ?_⟩;have s:putS (.mk X Y N ks) n (.mk xk xn av aw)= .mk X Y N ks:=by
   rw[putS];show(if N[KN n N]? =some n then _ else _)=_
   grind
  rw[s];exact cd.H gw
 ·skip
  refine Ju (fun T S=>(U=S/\T 1=ofL n/\T 3= .g Q 0/\T 5= .g b2 0/\T 6= .g b3 0/\T 7= .d .i64 k)) (fun M hM=> ?_) ?_
  ·by_cases hi:k<N.length
   ·obtain⟨q,o,a1,a2⟩:=ai k hi;have cj:(N[k]=n)=False:=Zi fun s=>aj (by grind);simp[XZ,Z,W,f7,r1,len1,hi,a1,a2,cj];exact hM _ _ ⟨rfl,Z,W,f5,f6,f7⟩
   ·simp[XZ,W,f7,r1,len1,hi];exact hM _ _ ⟨rfl,Z,W,f5,f6,f7⟩
  clear Z W f5 f6 f7;rintro T S ⟨rfl,Z,W,f5,f6,f7⟩;have w1:=g1.D;have ap:k<=(strs N).length:=by omega
  have aq:k<=es.length:=by omega
  obtain⟨va,ck,sa,_⟩:=Jfn (h1.I g1) (k:=k) ap;obtain⟨vb,cl,sb,_⟩:=JbM (h1.I g1) (k:=k) ap;obtain⟨vc,cm,sc,_⟩:=Jfn (h2.I g1) (k:=k) aq;obtain⟨vd,cn,sd,_⟩:=JbM (h2.I g1) (k:=k) aq;have bo:∀S',QG S' 1 nv none (some (.d .i64 (k:Int))) none=some (va, .a):=fun _=>ck;have bp:∀S',QG S' 1 nv (some (.d .i64 (k:Int))) none none=some (vb, .a):=fun _=>cl;have bq:∀S',QG S' 4 kv none (some (.d .i64 (k:Int))) none=some (vc, .a):=fun _=>cm;have br:∀S',QG S' 4 kv (some (.d .i64 (k:Int))) none none=some (vd, .a):=fun _=>cn;obtain⟨m1,af⟩:=nxE U;have a7:=fun j=>nes (Jt w1 af (Jb r1) j);have dc:=fun j=>nes (Jt w1 af (Jb r2) j);have dd:=fun j=>nes (Jt w1 af (Jb r3) j);have bt:∀(z:Nat) (l:List (List V)) (q:Nat),okC l->okC (l.take q):=fun _ l q h s he=>h s (Zj he);have bu:∀(z:Nat) (l:List (List V)) (q:Nat),okC l->okC (l.drop q):=fun _ l q h s he=>h s (ZO he);have gn:∀S:St,WF S->∀l,Gr S (S.B fun t=> .a t l):=fun S w l=>Gr.G w (Jc _);have bv:okC es:=fun s he=>by
   obtain⟨i,hi,rfl⟩:=X1 he;exact(h4 i hi (by omega)).J
  rw[Ja];simp[XY,W,f7,r1,af,a7,bo];have ga:=gn U w1 [];have co:SlF U (U.B fun t=> .a t []) (.m (up 0 m1) 0 0 1 0) 1 []:=⟨by simp, .inr ⟨up 0 m1,U.t,nx0 w1 af 0,by simp only[XZ,simprocAttr,af];rfl, .inr rfl⟩⟩
  refine JmL (S0:=U) ga co (sa.I ga) (bt 1 _ _ (Ya N)) (by grind) (by grind) ?_;intro S2 v2 g2 ag _;rw[X0]at ag;simp[XY];have O:S2.A Q= .a t1 [.d .i64 X,ofL Y,nv,kv]:=g2.B r1;obtain⟨m2,aa⟩:=nxE S2;have w2:=g2.D;have a7:=fun j=>nes (Jt w2 aa (Jb O) j);rw[Ja];simp[XY,W,f7,O,aa,a7,bq];have gb:=gn S2 w2 [];have cp:SlF U (S2.B fun t=> .a t []) (.m (up 0 m2) 0 0 4 0) 4 []:=⟨by simp, .inr ⟨up 0 m2,S2.t,by rw[<-aa];exact g2.K,by simp only[XZ,simprocAttr,aa];rfl, .inr rfl⟩⟩
  refine Qj (S0:=U) (g2.A gb) cp ((sc.I g2).I gb) (bt 4 _ _ bv) (by grind) (by grind) ?_;intro S3 v3 g3 ah bw a8;rw[X0]at ah;have ar:∀{r},rowOf v2=some r->S2.A r≠ .none:=fun y=>ag.A y;have bx:∀r,rowOf v3=some r->S2.A r= .none:=fun r y=>by
   rcases bw with s|s
   ·rw[s]at y;injection y with y;rw[<-y];exact nx0 w2 aa 0
   ·rw[s]at y;injection y with y;rw[<-y];have:=nx0 w2 aa 1;simpa only[XZ,simprocAttr,aa]using this
  have cq:SlF U S3 v2 1 ((strs N).take k):=(ag.G gb).B fun r y=>a8 r ((ag.G gb).A y) (fun s=>by
   injection s with s;exact Jt w2 aa (ar y) 0 s.symm)
  have cr:∀r,rowOf v3=some r->rowOf v2≠some r:=fun r a b=>ar b (bx r a);simp[XY];have O:=g3.B r1;have au:=g3.B r2;rw[Ja];simp[XY,Z];have w3:=g3.D;have gc:=gn S3 w3 [ofL n];have ba:U.A Q≠ .none:=Jb r1;have bb:U.A b2≠ .none:=Jb r2;refine Yc (S0:=U) (g3.A gc) (cq.G gc) (QE rfl) (fun s he=>by rw[Xj.1 he];rfl) (by simp) (by simp) (by grind) ?_;intro S4 v4 g4 a9 bz bc;have b0:∀r,rowOf v4=some r->S3.A r= .none:=fun r y=>by
   rw[bz]at y;injection y with y;rw[<-y];exact gc.I (J6 gc.D)
  have bd:SlF U S4 v3 4 (es.take k):=(ah.G gc).B fun r y=>bc r ((ah.G gc).A y) fun s=>cr r y s;have O:=g4.B r1;simp[XY,W,f7,O,bp];refine Qj (S0:=U) g4 a9 (sb.I g4) (bu 1 _ _ (Ya N)) (by grind) (by grind) ?_;intro S5 v5 g5 be b4 bf;have cs:SlF U S5 v3 4 (es.take k):=bd.B fun r y=>bf r (bd.A y) fun s=>ah.A y (b0 r s);have au:=g5.B r2;simp[XY,f5,au,s3,s4];have w5:=g5.D;have gd:=gn S5 w5 [.d .i64 xk,ofL xn,ad,ae];have cz:Kc [V.d .i64 xk,ofL xn,ad,ae]=true:=bm.J;refine Yc (S0:=U) (g5.A gd) (cs.G gd) (QE rfl) (fun s he=>by grind) (by simp) (by simp) (by grind) ?_;intro S6 v6 g6 ct b5 bg;have cu:∀r,rowOf v6=some r->S5.A r= .none:=fun r y=>by
   rw[b5]at y;injection y with y;rw[<-y];exact gd.I (J6 gd.D)
  have cv:∀r,rowOf v5=some r->rowOf v3≠some r:=fun r a b=>by
   rcases b4 with s|s
   ·rw[s]at a;exact ah.A b (b0 r a)
   ·rw[s]at a;injection a with a;rw[<-a]at b;exact bd.A b (J6 g4.D)
  have b6:SlF U S6 v5 1 ((strs N).take k++[[ofL n]]++(strs N).drop k):=(be.G gd).B fun r y=>bg r ((be.G gd).A y) (cv r y);have O:=g6.B r1;simp[XY,W,f7,O,br];refine Qj (S0:=U) g6 ct (sd.I g6) (bu 4 _ _ bv) (by grind) (by grind) ?_;intro S7 v7 g7 ak c0 bh;have al:SlF U S7 v5 1 ((strs N).take k++[[ofL n]]++(strs N).drop k):=b6.B fun r y=>bh r (b6.A y) fun s=>be.A y (cu r s);have O:=g7.B r1;have c5:=al.D.A;have s5:=al.D.B;have c6:=ak.D.A;have s6:=ak.D.B;simp[XY,W,O,c5,s5,c6,s6];have a2:=Qo ag ba;have cw:=Qo ag bb;have a4:=Qo a9 ba;have cx:=Qo a9 bb;have a3:=Qo ah ba;refine⟨js (JU (v:=v2) (w:= .g Q 2) (q:=Q) rfl rfl rfl a2)<|js (JU (v:=v2) (w:= .g b2 0) (q:=b2) rfl f5 rfl cw)<|js (JU (v:=v2) (w:= .g Q 3) (q:=Q) rfl rfl rfl a2)<|js (JU (v:=v4) (w:= .g b2 0) (q:=b2) rfl f5 rfl cx)<|js (JU (v:=v4) (w:= .g Q 3) (q:=Q) rfl rfl rfl a4) (JU (v:=v3) (w:= .g Q 3) (q:=Q) rfl rfl rfl a3), ?_⟩;have b7:Gr v (S7.D Q t1 fun u=> .a u [.d .i64 X,ofL Y,v5,kv]):=(g1.A g7).J n1 (Jb O) (by rw[O];rfl) (Jc _);have rb:(S7.D Q t1 fun u=>Row.a u [V.d .i64 X,ofL Y,v5,kv]).A Q= .a S7.t [.d .i64 X,ofL Y,v5,kv]:=Jh _ _ _ _;obtain⟨S8,am⟩:=exE ((S7.D Q t1 fun u=>Row.a u [V.d .i64 X,ofL Y,v5,kv]).D Q S7.t fun u=>Row.a u [V.d .i64 X,ofL Y,v5,v7]);have g8:Gr v S8:=by rw[am];exact b7.J n1 (Jb rb) (by rw[rb];rfl) (Jc _)
  have nb:∀p,p≠Q->S8.A p=S7.A p:=fun p hp=>by rw[am,Jj _ _ _ hp,Jj _ _ _ hp]
  have bi:∃t,S8.A Q= .a t [.d .i64 X,ofL Y,v5,v7]:=⟨_,by rw[am];exact Jh _ _ _ _⟩
  rw[<-am];clear am b7 rb;obtain⟨t8,bi⟩:=bi;have cy:b3≠Q:=by grind
  have bj:S8.A b3= .a t3 [.d .i64 0,ofL [], .e, .e]:=by rw[nb b3 cy];exact g7.B r3
  rw[Ja];simp only[XZ,simprocAttr,W,f6,bi,bj,s5,s6];have g9:Gr v (S8.D b3 t3 fun u=> .a u [.d .i64 X,ofL Y,v5,v7]):=g8.J n3 (Jb bj) (by rw[bj];rfl) (Jc _);refine⟨g9,_,rfl, ?_⟩;have s:putS (.mk X Y N ks) n (.mk xk xn av aw)= .mk X Y (N.take k++n::N.drop k) (ks.take k++(.mk xk xn av aw)::ks.drop k):=by
   rw[putS];show(if N[KN n N]? =some n then _ else _)=_;rw[<-az,Xa aj,az];rfl
  rw[s];have b8:∀r,rowOf v5=some r->r≠Q/\r≠b3:=fun r y=>⟨fun s=>Qo al ba (by grind),fun s=>Qo al (Jb r3) (by grind)⟩
  have b9:∀r,rowOf v7=some r->r≠Q/\r≠b3:=fun r y=>⟨fun s=>Qo ak ba (by grind),fun s=>Qo ak (Jb r3) (by grind)⟩
  have k5:=al.B (st':=(S8.D b3 t3 fun u=> .a u [.d .i64 X,ofL Y,v5,v7])) fun r y=>by rw[Jj _ _ _ (b8 r y).2,nb r (b8 r y).1]
  have k7:=ak.B (st':=(S8.D b3 t3 fun u=> .a u [.d .i64 X,ofL Y,v5,v7])) fun r y=>by rw[Jj _ _ _ (b9 r y).2,nb r (b9 r y).1]
  have ca:∀r,U.A r= .none->P r:=fun r h=>hP r (g1.I h);have cb:(strs N).take k++[[ofL n]]++(strs N).drop k=strs (N.take k++n::N.drop k):=by simp[strs]
  rw[cb]at k5;have cc:es.take k++[[.d .i64 xk,ofL xn,ad,ae]]++es.drop k=es.take k++[.d .i64 xk,ofL xn,ad,ae]::es.drop k:=by simp
  rw[cc]at k7;refine .mk (es:=es.take k++[.d .i64 xk,ofL xn,ad,ae]::es.drop k) (k5.D.D fun r p _=>⟨ca r p,rfl⟩) (k7.D.D fun r p _=>⟨ca r p,rfl⟩) (by grind) ?_;exact Jnf (R:=TyC P (S8.D b3 t3 fun u=> .a u [.d .i64 X,ofL Y,v5,v7])) (bm.H g9) k h3 fun i a b=>(h4 i a b).H g9
def Jdw (nms:List Str)(d:Nat):Prop:=∀{P Q:Pt->Prop} {st:St} {e:List V} {r:Rw} {nv:V},WF st->RwC P st e r->SlAt Q st nv 1 (strs nms)->
 Dz 58 [.j e, .d .i64 d,nv] st fun v st'=>Gr st st'/\∃e',v= .j e'/\TyC (fun r=>st.A r= .none) st' e' (JJ nms d r)
theorem JnM (a:List Str)(d:Nat)(r:Rw):QU a d r=1\/QU a d r=2\/QU a d r=3\/QU a d r=4\/QU a d r=5\/QU a d r=6\/QU a d r=7\/QU a d r=8\/QU a d r=9:=by
 have b:=Zr r.A (show(9:Int)≠0 by decide);have c:=Zc r.A (show(0:Int)<9 by decide);unfold QU
 split
 ·omega
 ·omega
theorem Jqr {t x:Ty}{n:Str}(a:t.G.length=t.D.length)(b:t.D.length<=d):(putS t n x).G.length=(putS t n x).D.length/\(putS t n x).D.length<=d+1:=by
 unfold putS
 split
 ·exact⟨a,by omega⟩
 ·have:=Jdb n t.D;simp[Ty.G,Ty.D]at*;omega
theorem Jkz (l:List Str)(bf:l.length<1000)(d:Nat)(hd:d<1000)(ih:d≠0->Jdw l d):Jdw l (d+1):=by
 intro P Q st e r nv hw h hn;refine Jl (aT Tryz.func58 rfl) rfl ?_;have hr:=h;obtain⟨br,bu,es,rfl,hk,cz,hz,h1,h2,h3,⟨c0,c5⟩,h4⟩:=h.A;obtain⟨n0,a7⟩:=nxE st;obtain⟨b,hb⟩:=exE (up 0 n0);obtain⟨b2,bg⟩:=exE (up 1 n0);have c1:=h1.A;have s1:=h1.B;have c2:=h2.A;have s2:=h2.B;have al:=hn.G;rw[Jv]at al;have e1:=Zr r.A (show(9:Int)≠0 by decide);have e2:=Zc r.A (show(0:Int)<9 by decide);simp only[CT,Tryz.f58,XY,simprocAttr];rw[Ja];simp only[XY,simprocAttr,a7,c1,s1,c2,s2];have c6:(((d+1:Nat):Int))=(d:Int)+1:=by omega
 obtain⟨S0,a8⟩:=exE ((st.B fun t=> .a t [.d .i64 r.A, .d .i64 r.n,br,bu]).B fun t=> .a t [.d .i64 0,ofL [], .e, .e]);have g0:Gr st S0:=by rw[a8];exact((Gr.F hw).L (Jc _)).L (Jc _)
 have r1:S0.A b= .a st.t [.d .i64 r.A, .d .i64 r.n,br,bu]:=by rw[a8,hb];simp only[XZ,simprocAttr,a7]
 have r2:∃t,S0.A b2= .a t [.d .i64 0,ofL [], .e, .e]:=⟨_,by rw[a8,bg];simp only[XZ,simprocAttr,a7];rfl⟩
 rw[<-hb,<-bg,<-a8];have w0:=g0.D;have c7:st.A b= .none:=by rw[hb];exact nx0 hw a7 0
 have bv:st.A b2= .none:=by rw[bg];exact nx0 hw a7 1
 have c8:b≠b2:=by
  rw[hb,bg];simp only[XZ,simprocAttr]
 clear a8;obtain⟨t2,r2⟩:=r2;obtain⟨K,hK⟩:∃K,K=1+r.A%9:=⟨_,rfl⟩
 have cp:IntKind.i64.wrap (1+r.A%9)=K:=by rw[hK];exact JX (by omega) (by omega)
 rw[Ja];simp only[XY,simprocAttr,r1];refine Je (Jf5 r.A 9 _ (by decide) (by decide)) ?_;rintro _ _ ⟨rfl,rfl⟩;simp only[XY,simprocAttr,cp];obtain⟨k,aj⟩:∃k,k=QU l (d+1) r:=⟨_,rfl⟩
 obtain⟨B,hB⟩:∃B:Fr->Prop,∀fr,B fr<->(fr 1= .d .i64 ((d+1:Nat):Int)/\fr 2=nv/\fr 3= .g b 0/\fr 6= .g b2 0/\fr 7= .d .i64 k):=⟨_,fun _=>Iff.rfl⟩
 obtain⟨I,hI⟩:=opE fun fr S=>(S0=S/\B fr)
 have ad:k=if(K=9/\l=[])\/(d+1<=1/\4<=K/\K<=8)then 2 else K:=by rw[aj,hK];rfl
 refine Yf I ?_ ?_
 ·by_cases k9:K=9
  ·by_cases av:l=[]
   ·have ak:k=2:=by rw[ad,Xe (.inl ⟨k9,av⟩)]
    rw[av]at al;simp only[XZ,simprocAttr,k9,al,Hb];exact(hI _ _).2 ⟨rfl,(hB _).2 (by simp only[XZ,simprocAttr,ak,ZP])⟩
   ·have ak:k=9:=by rw[ad,Xa (by rintro(⟨_,h⟩|⟨_,_,h⟩);exact av h;omega),k9]
    have cg:((l.length:Nat):Int)≠0:=fun e=>av (XD.1 (by omega));by_cases ax:((d+1:Nat):Int)<=1
    ·simp only[XZ,simprocAttr,k9,al,cg,ax];exact(hI _ _).2 ⟨rfl,(hB _).2 (by simp only[XZ,simprocAttr,ak,ZP])⟩
    ·simp only[XZ,simprocAttr,k9,al,cg,ax];exact(hI _ _).2 ⟨rfl,(hB _).2 (by simp only[XZ,simprocAttr,ak,ZP])⟩
  ·by_cases ax:((d+1:Nat):Int)<=1
   ·by_cases k4:4<=K
    ·have k8:K<=8:=by omega
     have ak:k=2:=by rw[ad,Xe (.inr ⟨by omega,k4,k8⟩)]
     simp only[XZ,simprocAttr,k9,ax,k4,k8];exact(hI _ _).2 ⟨rfl,(hB _).2 (by simp only[XZ,simprocAttr,ak,ZP])⟩
    ·have ak:k=K:=by rw[ad,Xa (by rintro(⟨h,_⟩|⟨_,h,_⟩);exact k9 h;exact k4 h)]
     simp only[XZ,simprocAttr,k9,ax,k4];exact(hI _ _).2 ⟨rfl,(hB _).2 (by simp only[XZ,simprocAttr,ak,ZP])⟩
   ·have ak:k=K:=by rw[ad,Xa (by rintro(⟨h,_⟩|⟨h,_⟩);exact k9 h;omega)]
    simp only[XZ,simprocAttr,k9,ax];exact(hI _ _).2 ⟨rfl,(hB _).2 (by simp only[XZ,simprocAttr,ak,ZP])⟩
 intro fr S cq;obtain⟨rfl,bh⟩:=(hI _ _).1 cq;obtain⟨f1,f2,f3,W,Y⟩:=(hB _).1 bh;obtain⟨m0,bw⟩:=nxE S0;obtain⟨bt,bx⟩:=exE (up 0 m0);rw[Ja];simp[XY,Y,bw];rw[<-bx];have a9:S0.A bt= .none:=by rw[bx];exact nx0 w0 bw 0
 have ay:st.A bt= .none:=Ch.B (Ch.H (fun _=>False) g0) a9;obtain⟨S1,bi⟩:=exE ((S0.B fun t=> .a t [.d .i64 0,ofL [], .e, .e]).D bt S0.t fun u=> .a u [.d .i64 k,ofL [], .e, .e]);have bz:Gr S0 S1:=by rw[bi,bx];exact(Gr.F w0).M bw (Jc _) (Jc _)
 have rt:S1.A bt= .a S0.t.succ [.d .i64 k,ofL [], .e, .e]:=by rw[bi];exact Jh _ _ _ _
 rw[<-bi];clear bi;have g1:Gr st S1:=g0.A bz;have az:b2≠bt:=fun e=>by rw[e,a9]at r2;cases r2
 have ch:b≠bt:=fun e=>by rw[e,a9]at r1;cases r1
 have r1:=bz.B r1;have r2:=bz.B r2;obtain⟨J,hJ⟩:=opE fun fr S=>(∃T te t,JJ l (d+1) r=T/\fr 6= .g b2 0/\fr 8= .g bt 0/\Gr st S/\S.A bt= .a t te/\S.A b2= .a t2 [.d .i64 0,ofL [], .e, .e]/\TyC (fun r=>S1.A r= .none) S te T)
 have bo:=JnM l (d+1) r;rw[<-aj]at bo;have ba:∀(P:Pt->Prop) (S:St) (k:Int) (n:Str),TyC P S [.d .i64 k,ofL n, .e, .e] (.mk k n [] []):=fun P S k n=> .mk (es:=[]) (SlAt.K _ _ _) (SlAt.K _ _ _) rfl fun i h=>absurd h (by simp);have bj:4<=k->k<=8->d≠0:=fun a b e=>by
  subst e;by_cases c:(K=9/\l=[])\/(0+1<=1/\4<=K/\K<=8)
  ·rw[Xe c]at ad;omega
  ·rw[Xa c]at ad;exact c (.inr ⟨by omega,by omega,by omega⟩)
 have ah:IntKind.i64.wrap (((d+1:Nat):Int)-1)=(d:Int):=by rw[JX (by omega) (by omega)];omega
 have cj:∀r,S1.A r= .none->st.A r= .none:=fun r h=>Ch.B (Ch.H (fun _=>False) g1) h;refine Yf J ?_ ?_
 ·rcases bo with rfl|rfl|rfl|rfl|rfl|rfl|rfl|rfl|rfl
  iterate 3
   ·simp[XZ,Y];exact(hJ _ _).2 ⟨_,_,_,by rw[JJ];simp only[<-aj];rfl,W,rfl,g1,rt,r2,ba _ _ _ _⟩
  ·have ab:=bj (by decide) (by decide);simp[XZ,f1,f2,f3,Y,r1,c1,s1,c2,s2];refine Je (kidC g1.D (hr.F g1) 0 (by decide)) ?_;rintro _ S2 ⟨v,ke,rfl,ap⟩;simp only[XZ,simprocAttr,f1,f2,ah];refine Je (ih ab v.D ap (hn.I (g1.A v))) ?_;rintro _ S3 ⟨w,ce,rfl,ae⟩;obtain⟨y,z,ck,rfl,y1,y3,y4,y5⟩:=ae.B;have d1:=y1.A;have d2:=y1.B;have d3:=y3.A;have d4:=y3.B;have N:=w.B (v.B rt);obtain⟨Z,O⟩:=nxE S3;have ot:=fun j=>nes (Jt w.D O (Jb N) j);simp[XZ,Y,O,ot,N,d1,d2,d3,d4];obtain⟨X,s⟩:=exE ((S3.B fun t=> .a t [.d .i64 (JJ l d (kidS r 0)).A,ofL (JJ l d (kidS r 0)).B,y,z]).D bt S0.t.succ fun u=> .a u [.d .i64 4,ofL [], .e, .m (up 0 Z) 0 1 4 1]);rw[<-s];have gN:Gr S3 (S3.B fun t=> .a t [.d .i64 (JJ l d (kidS r 0)).A,ofL (JJ l d (kidS r 0)).B,y,z]):=Gr.G w.D (Jc _);have bb:Gr st S3:=g1.A (v.A w);have g4:Gr st X:=by rw[s];exact(bb.A gN).J ay (Jb (gN.B N)) (by rw[gN.B N];rfl) (Jc _)
   have qt:up 0 Z≠bt:=fun e=>by have:=nx0 w.D O 0;rw[e,N]at this;cases this
   have rq:X.A (up 0 Z)= .a S3.t [.d .i64 (JJ l d (kidS r 0)).A,ofL (JJ l d (kidS r 0)).B,y,z]:=by rw[s,Jj _ _ _ qt,<-O];exact JI _ _
   have af:X.A b2= .a t2 [.d .i64 0,ofL [], .e, .e]:=by rw[s,Jj _ _ _ az];exact gN.B (w.B (v.B r2))
   have ag:∃t,X.A bt= .a t [.d .i64 4,ofL [], .e, .m (up 0 Z) 0 1 4 1]:=⟨_,by rw[s];exact Jh _ _ _ _⟩
   obtain⟨t4,ag⟩:=ag;have q1:S1.A (up 0 Z)= .none:=Ch.B (Ch.H (fun _=>False) (v.A w)) (nx0 w.D O 0);have am:TyC (fun r=>S1.A r= .none) X [.d .i64 (JJ l d (kidS r 0)).A,ofL (JJ l d (kidS r 0)).B,y,z] (JJ l d (kidS r 0)):=ae.A fun r p e=>⟨Ch.B (Ch.H (fun _=>False) v) p,by
    rw[s,Jj _ _ _ fun k=>by rw[k,v.B rt]at p;cases p];exact gN.d r e⟩
   have aq:TyC (fun r=>S1.A r= .none) X [.d .i64 4,ofL [], .e, .m (up 0 Z) 0 1 4 1] (.mk 4 [] [] [JJ l d (kidS r 0)]):=
    .mk (es:=[[.d .i64 (JJ l d (kidS r 0)).A,ofL (JJ l d (kidS r 0)).B,y,z]]) (SlAt.K _ _ _) ⟨fun e he=>by rw[Xj.1 he];rfl, .inr ⟨up 0 Z,0,q1, .inr ⟨1,Xb 1,rfl⟩,_, .inl ⟨_,rq⟩,by simp,by simp⟩⟩ rfl fun i h h'=>by
     have:i=0:=by simp at h;omega
     subst this;exact am
   clear s;exact(hJ _ _).2 ⟨_,_,_,by rw[JJ];simp only[<-aj];rfl,W,rfl,g4,ag,af,aq⟩
  ·have ab:=bj (by decide) (by decide);simp[XZ,f1,f2,f3,Y,r1,c1,s1,c2,s2];refine Je (kidC g1.D (hr.F g1) 0 (by decide)) ?_;rintro _ S2 ⟨v,ke,rfl,ap⟩;simp only[XZ,simprocAttr,f1,f2,ah];refine Je (ih ab v.D ap (hn.I (g1.A v))) ?_;rintro _ S3 ⟨w,ce,rfl,ae⟩;obtain⟨y,z,ck,rfl,y1,y3,y4,y5⟩:=ae.B;have d1:=y1.A;have d2:=y1.B;have d3:=y3.A;have d4:=y3.B;have N:=w.B (v.B rt);obtain⟨Z,O⟩:=nxE S3;have ot:=fun j=>nes (Jt w.D O (Jb N) j);simp[XZ,Y,O,ot,N,d1,d2,d3,d4];obtain⟨X,s⟩:=exE ((S3.B fun t=> .a t [.d .i64 (JJ l d (kidS r 0)).A,ofL (JJ l d (kidS r 0)).B,y,z]).D bt S0.t.succ fun u=> .a u [.d .i64 5,ofL [], .e, .m (up 0 Z) 0 1 4 1]);rw[<-s];have gN:Gr S3 (S3.B fun t=> .a t [.d .i64 (JJ l d (kidS r 0)).A,ofL (JJ l d (kidS r 0)).B,y,z]):=Gr.G w.D (Jc _);have bb:Gr st S3:=g1.A (v.A w);have g4:Gr st X:=by rw[s];exact(bb.A gN).J ay (Jb (gN.B N)) (by rw[gN.B N];rfl) (Jc _)
   have qt:up 0 Z≠bt:=fun e=>by have:=nx0 w.D O 0;rw[e,N]at this;cases this
   have rq:X.A (up 0 Z)= .a S3.t [.d .i64 (JJ l d (kidS r 0)).A,ofL (JJ l d (kidS r 0)).B,y,z]:=by rw[s,Jj _ _ _ qt,<-O];exact JI _ _
   have af:X.A b2= .a t2 [.d .i64 0,ofL [], .e, .e]:=by rw[s,Jj _ _ _ az];exact gN.B (w.B (v.B r2))
   have ag:∃t,X.A bt= .a t [.d .i64 5,ofL [], .e, .m (up 0 Z) 0 1 4 1]:=⟨_,by rw[s];exact Jh _ _ _ _⟩
   obtain⟨t4,ag⟩:=ag;have q1:S1.A (up 0 Z)= .none:=Ch.B (Ch.H (fun _=>False) (v.A w)) (nx0 w.D O 0);have am:TyC (fun r=>S1.A r= .none) X [.d .i64 (JJ l d (kidS r 0)).A,ofL (JJ l d (kidS r 0)).B,y,z] (JJ l d (kidS r 0)):=ae.A fun r p e=>⟨Ch.B (Ch.H (fun _=>False) v) p,by
    rw[s,Jj _ _ _ fun k=>by rw[k,v.B rt]at p;cases p];exact gN.d r e⟩
   have aq:TyC (fun r=>S1.A r= .none) X [.d .i64 5,ofL [], .e, .m (up 0 Z) 0 1 4 1] (.mk 5 [] [] [JJ l d (kidS r 0)]):=
    .mk (es:=[[.d .i64 (JJ l d (kidS r 0)).A,ofL (JJ l d (kidS r 0)).B,y,z]]) (SlAt.K _ _ _) ⟨fun e he=>by rw[Xj.1 he];rfl, .inr ⟨up 0 Z,0,q1, .inr ⟨1,Xb 1,rfl⟩,_, .inl ⟨_,rq⟩,by simp,by simp⟩⟩ rfl fun i h h'=>by
     have:i=0:=by simp at h;omega
     subst this;exact am
   clear s;exact(hJ _ _).2 ⟨_,_,_,by rw[JJ];simp only[<-aj];rfl,W,rfl,g4,ag,af,aq⟩
  ·have ab:=bj (by decide) (by decide);simp[XZ,f1,f2,f3,Y,r1,c1,s1,c2,s2];refine Je (kidC g1.D (hr.F g1) 0 (by decide)) ?_;rintro _ S2 ⟨v,ke,rfl,ap⟩;simp only[XZ,simprocAttr,f1,f2,ah];refine Je (ih ab v.D ap (hn.I (g1.A v))) ?_;rintro _ S3 ⟨w,ce,rfl,ae⟩;obtain⟨y,z,ck,rfl,y1,y3,y4,y5⟩:=ae.B;have d1:=y1.A;have d2:=y1.B;have d3:=y3.A;have d4:=y3.B;have N:=w.B (v.B rt);obtain⟨Z,O⟩:=nxE S3;have ot:=fun j=>nes (Jt w.D O (Jb N) j);simp[XZ,Y,O,ot,N,d1,d2,d3,d4];obtain⟨X,s⟩:=exE ((S3.B fun t=> .a t [.d .i64 (JJ l d (kidS r 0)).A,ofL (JJ l d (kidS r 0)).B,y,z]).D bt S0.t.succ fun u=> .a u [.d .i64 6,ofL [], .e, .m (up 0 Z) 0 1 4 1]);rw[<-s];have gN:Gr S3 (S3.B fun t=> .a t [.d .i64 (JJ l d (kidS r 0)).A,ofL (JJ l d (kidS r 0)).B,y,z]):=Gr.G w.D (Jc _);have bb:Gr st S3:=g1.A (v.A w);have g4:Gr st X:=by rw[s];exact(bb.A gN).J ay (Jb (gN.B N)) (by rw[gN.B N];rfl) (Jc _)
   have qt:up 0 Z≠bt:=fun e=>by have:=nx0 w.D O 0;rw[e,N]at this;cases this
   have rq:X.A (up 0 Z)= .a S3.t [.d .i64 (JJ l d (kidS r 0)).A,ofL (JJ l d (kidS r 0)).B,y,z]:=by rw[s,Jj _ _ _ qt,<-O];exact JI _ _
   have af:X.A b2= .a t2 [.d .i64 0,ofL [], .e, .e]:=by rw[s,Jj _ _ _ az];exact gN.B (w.B (v.B r2))
   have ag:∃t,X.A bt= .a t [.d .i64 6,ofL [], .e, .m (up 0 Z) 0 1 4 1]:=⟨_,by rw[s];exact Jh _ _ _ _⟩
   obtain⟨t4,ag⟩:=ag;have q1:S1.A (up 0 Z)= .none:=Ch.B (Ch.H (fun _=>False) (v.A w)) (nx0 w.D O 0);have am:TyC (fun r=>S1.A r= .none) X [.d .i64 (JJ l d (kidS r 0)).A,ofL (JJ l d (kidS r 0)).B,y,z] (JJ l d (kidS r 0)):=ae.A fun r p e=>⟨Ch.B (Ch.H (fun _=>False) v) p,by
    rw[s,Jj _ _ _ fun k=>by rw[k,v.B rt]at p;cases p];exact gN.d r e⟩
   have aq:TyC (fun r=>S1.A r= .none) X [.d .i64 6,ofL [], .e, .m (up 0 Z) 0 1 4 1] (.mk 6 [] [] [JJ l d (kidS r 0)]):=
    .mk (es:=[[.d .i64 (JJ l d (kidS r 0)).A,ofL (JJ l d (kidS r 0)).B,y,z]]) (SlAt.K _ _ _) ⟨fun e he=>by rw[Xj.1 he];rfl, .inr ⟨up 0 Z,0,q1, .inr ⟨1,Xb 1,rfl⟩,_, .inl ⟨_,rq⟩,by simp,by simp⟩⟩ rfl fun i h h'=>by
     have:i=0:=by simp at h;omega
     subst this;exact am
   clear s
   first|refine⟨by decide, ?_⟩|skip
   have aa:JJ l (d+1) r=if(6:Int)=6/\(JJ l d (kidS r 0)).A=6 then JJ l d (kidS r 0)else .mk 6 [] [] [JJ l d (kidS r 0)]:=by rw[JJ];simp only[<-aj];rfl
   by_cases h6:(JJ l d (kidS r 0)).A=6
   ·rw[Xe ⟨rfl,h6⟩]at aa;have bc:decide ((JJ l d (kidS r 0)).A=6)=true:=Xp h6;rw[bc];simp only[XZ,simprocAttr,W,ag,rq,af,d1,d2,d3,d4]
    first|refine⟨by decide,g4.J bv (Jb af) (by first|(rw[af];done)|(rw[af];rfl)) (Jc _),_,rfl, ?_⟩|refine⟨g4.J bv (Jb af) (by first|(rw[af];done)|(rw[af];rfl)) (Jc _),_,rfl, ?_⟩
    rw[aa];exact am.A fun r p _=>⟨cj r p,Jj _ _ _ fun e=>by rw[e]at p;rw[p]at r2;cases r2⟩
   ·rw[Xa fun e=>h6 e.2]at aa;have bc:decide ((JJ l d (kidS r 0)).A=6)=false:=Xv h6;rw[bc];simp[XZ];exact(hJ _ _).2 ⟨_,_,_,aa,W,rfl,g4,ag,af,aq⟩
  rotate_left 2
  ·have cr:l≠[]:=fun e=>by
    rw[ad]at aj;by_cases c:(K=9/\l=[])\/(d+1<=1/\4<=K/\K<=8)
    ·rw[Xe c]at ad;cases ad
    ·rw[Xa c]at ad;exact c (.inl ⟨ad.symm,e⟩)
   have cy:=List.length_pos_iff.2 cr;simp[XZ,f1,f2,f3,Y,r1,al];refine Je (Jf5 r.n l.length _ (by omega) (by omega)) ?_;rintro _ _ ⟨rfl,rfl⟩;have q1:=Zr r.n (show((l.length:Nat):Int)≠0 by omega);have q2:=Zc r.n (show(0:Int)<((l.length:Nat):Int) by omega);obtain⟨i,hi⟩:∃i:Nat,r.n%l.length=i:=⟨(r.n%l.length).toNat,by omega⟩
   rw[hi]at q1 q2;have b0:i<l.length:=by omega
   obtain⟨q,o,a1,a2,a3,a4,a5⟩:=(hn.I g1).H (i:=i) (by rw[Jv];exact b0);have el:(strs l)[i]'(by rw[Jv];exact b0)=[ofL l[i]]:=by simp[strs]
   have a6:ld1 (S1.A q) o=some (ofL l[i], .a):=by
    have:=a5 0 (by rw[el];simp);simp only[el]at this;exact this
   rw[hi];simp[XZ,f2,a1,a6,rt];refine(hJ _ _).2 ⟨_,_,_, ?_,W,rfl,g1.J ay (Jb rt) (by rw[rt];rfl) (Jc _),Jh _ _ _ _,by rw[Jj _ _ _ az];exact r2,ba _ _ _ _⟩;rw[JJ];simp only[<-aj,ZS];rw[hi];simp[XA,b0]
  all_goals
   have ab:=bj (by decide) (by decide);have ao:=h1.G;rw[Yg]at ao;obtain⟨ar,bd⟩:∃c,c=JbP (QU l (d+1) r) r:=⟨_,rfl⟩
   obtain⟨bk,ai⟩:∃o:Nat,o=if QU l (d+1) r=8 then 1 else 0:=⟨_,rfl⟩
   have c9:ar=max (min r.F.length 4) bk:=by rw[bd,ai];rfl
   have cs:bk=0\/bk=1:=by rw[ai];split<;>simp
   obtain⟨Ti,bl⟩:∃Ti:Nat->Ty,Ti=fun i=>(List.range i).foldl (fun t i=>putS t (nameAt r i) (JJ l d (kidS r i))) (.mk (QU l (d+1) r) [] [] []):=⟨_,rfl⟩
   have b1:Ti 0= .mk (QU l (d+1) r) [] [] []:=by rw[bl];rfl
   rw[<-aj]at bd ai bl b1;have b3:∀i,Ti (i+1)=putS (Ti i) (nameAt r i) (JJ l d (kidS r i)):=fun i=>by rw[bl];simp only[List.range_succ,HN];rfl
   have bm:∀i,(Ti i).G.length=(Ti i).D.length/\(Ti i).D.length<=i:=fun i=>by
    induction i with
    |zero=>rw[b1];exact⟨rfl,Xb _⟩
    |succ i cl=>rw[b3];exact Jqr cl.1 cl.2
   have aa:JJ l (d+1) r=Ti ar:=by rw[JJ,bl,bd];simp only[<-aj];rfl
   obtain⟨L,hL⟩:=loE fun j fr S=>∃(i:Nat) (te:List V) (t:Nat),j+i=ar/\B fr/\fr 8= .g bt 0/\fr 9= .d .i64 i/\Gr st S/\(∀r,S.A r= .none->S1.A r= .none)/\S.A b= .a st.t [.d .i64 r.A, .d .i64 r.n,br,bu]/\S.A b2= .a t2 [.d .i64 0,ofL [], .e, .e]/\S.A bt= .a t te/\TyC (fun r=>S1.A r= .none) S te (Ti i);simp[XZ,Y];refine JD L ar (by omega) ((hL _ _ _).2 ⟨0,_,_,by omega,(hB _).2 (by simp[XZ,f1,f2,f3,W,Y,ZP]),rfl,by simp[XZ]<;>rfl,g1,fun r h=>h,r1,r2,rt,by rw[b1];exact ba _ _ _ _⟩) ?_;clear f1 f2 f3 W Y bh;intro j fr S ct;obtain⟨i,te,t,hj,bh,f8,f9,hg,U,q1,q2,q3,b4⟩:=(hL _ _ _).1 ct;obtain⟨f1,f2,f3,W,Y⟩:=(hB _).1 bh;have be:=wiN (i:=i) (by omega);have done:∀{fr:Fr},i=ar->fr 6= .g b2 0->fr 8= .g bt 0->J fr S:=fun e a c=>(hJ _ _).2 ⟨Ti ar,te,t,aa,a,c,hg,q3,q2,by rw[<-e];exact b4⟩;have bp:=b4;obtain⟨da,db,dc,rfl,y1,y3,y4,y5⟩:=b4.B;have d1:=y1.A;have d2:=y1.B;have d3:=y3.A;have d4:=y3.B;by_cases hA:i<r.F.length
   ·have a0:(i:Int)<r.F.length:=by omega
    by_cases dd:i<4
    ·have b5:(i:Int)<4:=by omega
     obtain⟨zq,zo,z1,z2,z3,z4,z5⟩:=(h1.I hg).H (i:=i) (by rw[Yg];exact hA);have zl:(JbO r.F)[i]'(by rw[Yg];exact hA)=[.d .i64 r.F[i]]:=by simp[JbO]
     have z6:ld1 (S.A zq) zo=some (.d .i64 r.F[i], .a):=by
      have:=z5 0 (by rw[zl];simp);simp only[zl]at this;exact this
     simp[XZ,f1,f2,f3,W,Y,f8,f9,q1,ao,a0,b5,z1,z6];refine Je (Juw _ _ hg.D) ?_;rintro _ S2 ⟨v,rfl⟩;have bf:JjE r.F[i]=nameAt r i:=by unfold nameAt;rw[Xg hA]
     rw[bf];have b6:=q1;have b7:=q2;have b8:=q3;have q1:=v.B q1;have q2:=v.B q2;have q3:=v.B q3;simp[XZ,f1,f2,f3,W,Y,f8,f9,q1,q3,c1,s1,c2,s2,d1,d2,d3,d4];refine Ji (kidC (Jq v.D S2.t) (((hr.F hg).F v).D fun r p _=>⟨p,rfl⟩) i (by omega)) ?_;rintro _ S3 w ⟨ke,rfl,ap⟩;simp only[XZ,simprocAttr,f1,f2,f3,W,Y,f8,f9,ah];refine Ji (ih ab (Jq w.D S3.t) (ap.D fun r p _=>⟨p,rfl⟩) ((((hn.I hg).I v).I w).D fun r p _=>⟨p,rfl⟩)) ?_;rintro _ X g4 ⟨ce,rfl,ae⟩;simp[XZ,f1,f2,f3,W,Y,f8,f9];have gA:Gr S X:=v.A (w.A g4);have b9:∀r,X.A r= .none->S1.A r= .none:=fun r h=>U r (Ch.B (Ch.H (fun _=>False) gA) h);have ca:∀r,S3.A r= .none->S1.A r= .none:=fun r h=>U r (Ch.B (Ch.H (fun _=>False) (v.A w)) h);refine Ji (putC (P:=fun r=>S1.A r= .none) (t:=Ti i) (x:=JJ l d (kidS r i)) (nameAt r i) (Jq g4.D X.t) ((bp.H gA).A fun r p _=>⟨p,rfl⟩) (ae.A fun r p _=>⟨ca r p,rfl⟩) (by have:=(bm i).2;omega) (bm i).1 b9) ?_;rintro _ S5 g5 ⟨e5,rfl,cb⟩;have au:TyC (fun r=>S1.A r= .none) S5 e5 (Ti (i+1)):=by rw[b3];exact cb.A fun r p _=>⟨p,rfl⟩
     have cc:=au;obtain⟨cd,cf,cu,rfl,x1,x3,x4,x5⟩:=au.B;have m1:=x1.A;have m2:=x1.B;have Z:=x3.A;have m4:=x3.B;have gB:Gr S S5:=gA.A g5;have q1:=gB.B b6;have q2:=gB.B b7;have q3:=gB.B b8;simp[XZ,f1,f2,f3,W,Y,f8,f9,q3,m1,m2,Z,m4,be,kL];have bne:b≠bt:=ch;have g6:=(hg.A gB).J (f:=fun u=> .a u [.d .i64 (Ti (i+1)).A,ofL (Ti (i+1)).B,cd,cf]) ay (Jb q3) (by first|(rw[q3];done)|(rw[q3];rfl)) (Jc _);refine⟨ar-(i+1),by omega,(hL _ _ _).2 ⟨i+1,_,_,by omega,(hB _).2 (by simp[XZ,f1,f2,f3,W,Y,ZP]),f8,rfl,g6,fun r h=> ?_,by rw[Jj _ _ _ bne];exact q1,by rw[Jj _ _ _ az];exact q2,Jh _ _ _ _,cc.A fun r p _=>⟨p,Jj _ _ _ fun e=>by rw[e]at p;rw[p]at rt;cases rt⟩⟩⟩;refine U r (Ch.B (Ch.H (fun _=>False) gB) ?_);by_cases e:r=bt
     ·rw[e,Jh]at h;cases h
     ·rwa [Jj _ _ _ e]at h
    ·have b5:¬(i:Int)<4:=by omega
     have cm:¬(i:Int)=0:=by omega
     simp only[XZ,simprocAttr,f1,f2,f3,W,Y,f8,f9,q1,ao,a0,b5,cm];exact done (by omega) W f8
   ·have a0:¬(i:Int)<r.F.length:=by omega
    by_cases cm:i=0
    ·have aw:((i:Int)=0)=True:=Zn (by omega);by_cases bq:bk=1
     ·first
      |exact absurd (ai.symm.trans bq) (by decide)
      | simp only[XZ,simprocAttr,f1,f2,f3,W,Y,f8,f9,q1,q3,ao,a0,aw,c1,s1,c2,s2,d1,d2,d3,d4]
        have v:Gr S S:=Gr.F hg.D;have bf:([117]:Str)=nameAt r i:=by unfold nameAt;rw[ZJ (by omega)]
        rw[bf];have b6:=q1;have b7:=q2;have b8:=q3;refine Ji (kidC (Jq v.D S.t) (((hr.F hg).F v).D fun r p _=>⟨p,rfl⟩) i (by omega)) ?_;rintro _ S3 w ⟨ke,rfl,ap⟩;simp only[XZ,simprocAttr,f1,f2,f3,W,Y,f8,f9,ah];refine Ji (ih ab (Jq w.D S3.t) (ap.D fun r p _=>⟨p,rfl⟩) ((((hn.I hg).I v).I w).D fun r p _=>⟨p,rfl⟩)) ?_;rintro _ X g4 ⟨ce,rfl,ae⟩;simp[XZ,f1,f2,f3,W,Y,f8,f9];have gA:Gr S X:=v.A (w.A g4);have b9:∀r,X.A r= .none->S1.A r= .none:=fun r h=>U r (Ch.B (Ch.H (fun _=>False) gA) h);have ca:∀r,S3.A r= .none->S1.A r= .none:=fun r h=>U r (Ch.B (Ch.H (fun _=>False) (v.A w)) h);refine Ji (putC (P:=fun r=>S1.A r= .none) (t:=Ti i) (x:=JJ l d (kidS r i)) (nameAt r i) (Jq g4.D X.t) ((bp.H gA).A fun r p _=>⟨p,rfl⟩) (ae.A fun r p _=>⟨ca r p,rfl⟩) (by have:=(bm i).2;omega) (bm i).1 b9) ?_;rintro _ S5 g5 ⟨e5,rfl,cb⟩;have au:TyC (fun r=>S1.A r= .none) S5 e5 (Ti (i+1)):=by rw[b3];exact cb.A fun r p _=>⟨p,rfl⟩
        have cc:=au;obtain⟨cd,cf,cu,rfl,x1,x3,x4,x5⟩:=au.B;have m1:=x1.A;have m2:=x1.B;have Z:=x3.A;have m4:=x3.B;have gB:Gr S S5:=gA.A g5;have q1:=gB.B b6;have q2:=gB.B b7;have q3:=gB.B b8;simp[XZ,f1,f2,f3,W,Y,f8,f9,q3,m1,m2,Z,m4,be,kL];have bne:b≠bt:=ch;have g6:=(hg.A gB).J (f:=fun u=> .a u [.d .i64 (Ti (i+1)).A,ofL (Ti (i+1)).B,cd,cf]) ay (Jb q3) (by first|(rw[q3];done)|(rw[q3];rfl)) (Jc _);refine⟨ar-(i+1),by omega,(hL _ _ _).2 ⟨i+1,_,_,by omega,(hB _).2 (by simp[XZ,f1,f2,f3,W,Y,ZP]),f8,rfl,g6,fun r h=> ?_,by rw[Jj _ _ _ bne];exact q1,by rw[Jj _ _ _ az];exact q2,Jh _ _ _ _,cc.A fun r p _=>⟨p,Jj _ _ _ fun e=>by rw[e]at p;rw[p]at rt;cases rt⟩⟩⟩;refine U r (Ch.B (Ch.H (fun _=>False) gB) ?_);by_cases e:r=bt
        ·rw[e,Jh]at h;cases h
        ·rwa [Jj _ _ _ e]at h
     ·first
      |exact absurd (ai.trans (by decide)) bq
      | simp only[XZ,simprocAttr,f1,f2,f3,W,Y,f8,f9,q1,ao,a0,aw]
        exact done (by omega) W f8
    ·have aw:¬(i:Int)=0:=by omega
     simp only[XZ,simprocAttr,f1,f2,f3,W,Y,f8,f9,q1,ao,a0,aw];exact done (by omega) W f8
 intro fr S cv;obtain⟨T,te,t,hT,W,f8,gS,rS,bn,cn⟩:=(hJ _ _).1 cv;have co:=cn;obtain⟨cw,cx,de,rfl,t1,t3,t4,t5⟩:=cn.B;have c3:=t1.A;have s3:=t1.B;have c4:=t3.A;have s4:=t3.B;rw[Ja];simp only[XZ,simprocAttr,W,f8,rS,bn,c3,s3,c4,s4];have gw:=gS.J (f:=fun u=> .a u [.d .i64 T.A,ofL T.B,cw,cx]) bv (Jb bn) (by first|(rw[bn];done)|(rw[bn];rfl)) (Jc _);refine⟨gw,_,rfl, ?_⟩;rw[hT];exact co.A fun r p _=>⟨cj r p,Jj _ _ _ fun e=>by rw[e]at p;rw[p]at r2;cases r2⟩
theorem Jng (a:List Str)(b:a.length<1000):∀d:Nat,d<1000->Jdw a (d+1)
 |0,h=>Jkz a b 0 h fun e=>absurd rfl e
 |d+1,h=>Jkz a b (d+1) h fun _=>Jng a b d (by omega)
theorem JrO {y:V}(hw:WF v)(h1:RwC s v e h)(h2:QH s v i r)(h3:QH s v y q):
  Dz 17 [.j e,i,y] v fun c S=>Gr v S/\∃b,c= .h b:=by
 refine Jl (aT Tryz.func17 rfl) rfl ?_;obtain⟨n0,z⟩:=nxE v;have g1:=h1;obtain⟨K,M,ab,rfl,_,_,_,a1,a2,_,_,_⟩:=h1.A;have c1:=a1.A;have s1:=a1.B;have c2:=a2.A;have s2:=a2.B;obtain⟨N,s3,c3,m2⟩:=h2.A;obtain⟨T,s4,c4,m3⟩:=h3.A;simp only[CT,Tryz.f17,XY,simprocAttr];rw[Ja];simp only[XY,simprocAttr,z,s1,s2];obtain⟨S0,w⟩:=exE (v.B fun t=> .a t [.d .i64 h.A, .d .i64 h.n,K,M]);have g0:Gr v S0:=by rw[w];exact Gr.G hw (Jc _)
 obtain⟨t0,r0⟩:∃t,S0.A (up 0 n0)= .a t [.d .i64 h.A, .d .i64 h.n,K,M]:=⟨_,by rw[w];simp only[XZ,simprocAttr,z];rfl⟩
 rw[<-w];clear w;rw[Jd,Ja];simp only[XY,simprocAttr,r0];refine Je (fewC g1 _ g0 60 (by decide) (by decide)) ?_;rintro _ S1 ⟨gf,m,rfl,_,_⟩;have gs:=g0.A gf;by_cases U:m=0
 ·simp only[XZ,simprocAttr,U]
  grind
 by_cases Z:(6:Int)<r.length
 ·simp only[XZ,simprocAttr,U,N,Z]
  grind
 by_cases i3:(6:Int)<q.length
 ·simp only[XZ,simprocAttr,U,N,T,Z,i3]
  grind
 simp only[XY,simprocAttr,U,N,T,Z,i3];refine Ju (fun p S=>(p 2=y/\Gr v S)) (fun J hJ=> ?_) ?_
 ·rw[Ja];simp only[XY,simprocAttr];refine Jo (fun j p S=>∃f:Nat,j+f=r.length/\p 1=i/\p 2=y/\p 7= .d .i64 f/\Gr v S) r.length (by omega) ⟨0,by omega,rfl,rfl,by rfl,gs⟩ ?_;rintro L hL j p S ⟨f,hj,W,x,X,u⟩;by_cases hi:f<r.length
  ·have k:(f:Int)<r.length:=by omega
   obtain⟨g,o,kv,nv,b1,b2,b3,b4,_⟩:=(h2.F u).D hi;have l:=wiN (i:=f) (by omega);rw[Jd,Ja];simp only[XY,simprocAttr,W,X,N,k];rw[Jd];simp only[XY,simprocAttr];rw[Ja];simp only[XY,simprocAttr,W,X,b1,b3];refine Je (fewC b4 _ (Gr.F u.D) 30 (by decide) (by decide)) ?_;rintro _ S' ⟨O,m',rfl,_,_⟩;by_cases Q:m'=0
   ·simp only[XZ,simprocAttr,Q];exact⟨u.A O,_,rfl⟩
   ·simp only[XZ,simprocAttr,Q,X,l];exact⟨r.length-(f+1),by omega,hL _ _ _ ⟨f+1,by omega,W,x,rfl,u.A O⟩⟩
  ·have k:¬(f:Int)<r.length:=by omega
   simp only[XZ,simprocAttr,W,X,N,k];exact hJ _ _ ⟨x,u⟩
 rintro p S ⟨x,u⟩;refine Ju (fun p S=>(Gr v S)) (fun J2 ad=> ?_) ?_
 ·rw[Ja];simp only[XY,simprocAttr];refine Jo (fun j p S=>∃f:Nat,j+f=q.length/\p 2=y/\p 8= .d .i64 f/\Gr v S) q.length (by omega) ⟨0,by omega,x,by rfl,u⟩ ?_;rintro L hL j p S ⟨f,hj,x,Y,u⟩;by_cases hi:f<q.length
  ·have k:(f:Int)<q.length:=by omega
   obtain⟨g,o,kv,nv,b1,b2,b3,b4,_⟩:=(h3.F u).D hi;have l:=wiN (i:=f) (by omega);rw[Jd,Ja];simp only[XY,simprocAttr,x,Y,T,k];rw[Jd];simp only[XY,simprocAttr];rw[Ja];simp only[XY,simprocAttr,x,Y,b1,b3];refine Je (fewC b4 _ (Gr.F u.D) 20 (by decide) (by decide)) ?_;rintro _ S' ⟨O,m',rfl,_,_⟩;by_cases Q:m'=0
   ·simp only[XZ,simprocAttr,Q];exact⟨u.A O,_,rfl⟩
   ·simp only[XZ,simprocAttr,Q,Y,l];exact⟨q.length-(f+1),by omega,hL _ _ _ ⟨f+1,by omega,x,rfl,u.A O⟩⟩
  ·have k:¬(f:Int)<q.length:=by omega
   simp only[XZ,simprocAttr,x,Y,T,k]
   grind
 intro p S aa;have u:=aa;simp only[XZ,simprocAttr]
 grind
theorem Jqs {b:List Str}(h:SlAt s v i 1 (strs b))(k:d<b.length):∃r o,Js 1 i (.d .i64 d)=some (.g r o, .a)/\s r/\v.A r≠ .none/\ld1 (v.A r) o=some (ofL b[d], .a):=by
 have l:(strs b).length=b.length:=Jv _;obtain⟨q,o,c,f,j,m,n⟩:=h.H (i:=d) (by omega);refine⟨q,o,c,f,j, ?_⟩;have e:(strs b)[d]=[ofL b[d]]:=by simp[strs]
 simp_all
theorem JrP {v3:V}(h0:q=[])(hw:WF v)(h1:RwC s v e h)(h2:QH s v i r)(h3:QH s v v3 q):
  Dz 34 [.j e,i,v3] v fun o S=>Gr v S/\∃c U sv,o= .j (c++[U,sv])/\SchF v S c U sv (jH h r q):=by
 refine Jl (aT Tryz.func34 rfl) rfl ?_;obtain⟨n0,ab⟩:=nxE v;have g1:=h1;obtain⟨ap,aq,bx,rfl,_,_,_,a1,a2,_,_,_⟩:=h1.A;have c1:=a1.A;have s1:=a1.B;have c2:=a2.A;have s2:=a2.B;obtain⟨l2,s3,c3,m2⟩:=h2.A;obtain⟨l3,s4,c4,m3⟩:=h3.A;obtain⟨b3,ag⟩:=exE (up 0 n0);obtain⟨Z,ah⟩:=exE (up 1 n0);obtain⟨W,ai⟩:=exE (up 2 n0);have n3:v.A b3= .none:=by rw[ag];exact nx0 hw ab 0
 have n6:v.A Z= .none:=by rw[ah];exact nx0 hw ab 1
 have n7:v.A W= .none:=by rw[ai];exact nx0 hw ab 2
 have av:Z≠W:=by rw[ah,ai,Jak];decide
 have bv:b3≠W:=by rw[ag,ai,Jak];decide
 have bw:b3≠Z:=by rw[ag,ah,Jak];decide
 obtain⟨O,ae⟩:∃l,l=YG.take r.length:=⟨_,rfl⟩
 have bz:YG.length=4:=rfl;have b0:O.length=min 4 r.length:=by grind
 have b8:YG.take O.length=O:=by grind
 obtain⟨B,hB⟩:∃B:Pt->Prop,∀w,B w<->(v.A w≠ .none\/w=Z\/w=W):=⟨_,fun _=>Iff.rfl⟩
 have B6:B Z:=(hB _).2 (.inr (.inl rfl));have B7:B W:=(hB _).2 (.inr (.inr rfl));have B3:¬B b3:=fun y=>by grind
 obtain⟨I,hI⟩:=opE fun Q S=>(Q 1=i/\Q 2=v3/\Q 3= .g b3 0/\Q 6= .g Z 0/\Q 7= .g W 0/\Q 8= .e/\Gr v S/\(∃t,S.A b3= .a t [.d .i64 h.A, .d .i64 h.n,ap,aq])/\(∃t,S.A Z= .a t [.d .i64 0,ofL [], .e, .e, .e, .e])/\(∃t,S.A W= .a t [.d .i64 0,ofL [], .e, .e, .e, .e]))
 simp only[CT,Tryz.f34,XY,simprocAttr];rw[Ja];simp[XY,ab,s1,s2];rw[Ja];simp[XY,ab];rw[Ja];simp[XY];rw[<-ag,<-ah,<-ai];obtain⟨S0,af⟩:=exE (((v.B fun t=> .a t [.d .i64 h.A, .d .i64 h.n,ap,aq]).B fun t=> .a t [.d .i64 0,ofL [], .e, .e, .e, .e]).B fun t=> .a t [.d .i64 0,ofL [], .e, .e, .e, .e]);have g0:Gr v S0:=by rw[af];exact((Gr.G hw (Jc _)).L (Jc _)).L (Jc _)
 obtain⟨t3,r3⟩:∃t,S0.A b3= .a t [.d .i64 h.A, .d .i64 h.n,ap,aq]:=⟨_,by rw[af,ag];simp[XZ,ab];rfl⟩
 obtain⟨t6,r6⟩:∃t,S0.A Z= .a t [.d .i64 0,ofL [], .e, .e, .e, .e]:=⟨_,by rw[af,ah];simp[XZ,ab];rfl⟩
 obtain⟨t7,r7⟩:∃t,S0.A W= .a t [.d .i64 0,ofL [], .e, .e, .e, .e]:=⟨_,by rw[af,ai];simp[XZ,ab];rfl⟩
 rw[<-af];clear af hI I;refine Ju (fun Q S=>(∃nv,Q 1=i/\Q 2=v3/\Q 3= .g b3 0/\Q 6= .g Z 0/\Q 7= .g W 0/\Q 8=nv/\Gr S0 S/\SlF S0 S nv 1 (strs O))) (fun J1 bk=> ?_) ?_
 ·rw[Ja];simp[XY];obtain⟨L,hL⟩:=loE fun j Q S=>∃(K:Nat) (nv:V),j+K=O.length/\Q 1=i/\Q 2=v3/\Q 3= .g b3 0/\Q 6= .g Z 0/\Q 7= .g W 0/\Q 8=nv/\Q 9= .d .i64 K/\Gr S0 S/\SlF S0 S nv 1 (strs (YG.take K));refine JD L O.length (by omega) ((hL _ _ _).2 ⟨0, .e,by omega,rfl,rfl,rfl,rfl,rfl,rfl,by rfl,Gr.F g0.D,SlF.I _ _ _⟩) ?_;intro j Q S aj;obtain⟨K,nv,hj,f1,f2,f3,f6,Y,f8,f9,hg,hs⟩:=(hL _ _ _).1 aj;have done:∀T,K=O.length->T 1=i->T 2=v3->T 3= .g b3 0->T 6= .g Z 0->T 7= .g W 0->T 8=nv->J1 T S:=fun T N f1 f2 f3 f6 Y f8=>bk _ _ ⟨nv,f1,f2,f3,f6,Y,f8,hg,by grind⟩;by_cases hi:K<r.length
  ·by_cases h4:K<4
   ·have ay:(K:Int)<4:=by omega
    have ar:K<YG.length:=by omega
    have wS:=hg.D;obtain⟨nS,az⟩:=nxE S;have ak:=wiN (i:=K) (by omega);rw[Jd,Ja];simp[XY,f1,f9,l2,hi,ay];have a9:∀{R:V->St->Prop},(∀S' v',Gr S0 S'->SlF S0 S' v' 1 (strs (YG.take (K+1)))->R v' S')->wW (appV ((S.B fun t=> .a t [ofL [65],ofL [66,101,101],ofL [67,97,116],ofL [68,111,103]]).B fun t=> .a t [ofL YG[K]]) 1 nv (.m (up 1 nS) 0 1 1 1)) ((S.B fun t=> .a t [ofL [65],ofL [66,101,101],ofL [67,97,116],ofL [68,111,103]]).B fun t=> .a t [ofL YG[K]]) R:=fun k=>by
     have ga:Gr S (S.B fun t=> .a t [ofL [65],ofL [66,101,101],ofL [67,97,116],ofL [68,111,103]]):=Gr.G wS (Jc _);have gb:=Gr.G (f:=fun t=> .a t [ofL YG[K]]) ga.D (Jc _);have ad:=QE (st:=(S.B fun t=> .a t [ofL [65],ofL [66,101,101],ofL [67,97,116],ofL [68,111,103]])) (z:=1) (e:=[ofL YG[K]]) rfl;rw[show(S.B fun t=>Row.a t [ofL [65],ofL [66,101,101],ofL [67,97,116],ofL [68,111,103]]).b=up 1 nS by simp[XZ,az]]at ad;refine JmL (S0:=S0) ((hg.A ga).A gb) ((hs.G ga).G gb) ad (fun N he=>by rw[Xj.1 he];rfl) (by simp) (by rw[Jv,XS];grind) fun S' v' a b _=>k S' v' a ?_;rw[Xn ar,show strs (YG.take K++[YG[K]])=strs (YG.take K)++[[ofL YG[K]]] by unfold strs;grind];exact b
    have bl:∀T S' v',T 1=i->T 2=v3->T 3= .g b3 0->T 6= .g Z 0->T 7= .g W 0->T 8=v'->T 9= .d .i64 ((K+1:Nat):Int)->Gr S0 S'->SlF S0 S' v' 1 (strs (YG.take (K+1)))->∃m,m<j/\L m T S':=fun T S' v' x1 x2 x3 x4 x5 x6 x7 x8 x9=>⟨j-1,by omega,(hL _ _ _).2 ⟨K+1,v',by omega,x1,x2,x3,x4,x5,x6,x7,x8,x9⟩⟩
    rw[Jd];simp[XY];rcases(show K=0\/K=1\/K=2\/K=3 by omega)with rfl|rfl|rfl|rfl
    all_goals simp[XZ,f8,f9,az]
    all_goals first|refine⟨⟨by decide,by decide⟩,a9 fun S' v' ga ba=> ?_⟩|refine a9 fun S' v' ga ba=> ?_
    all_goals simp[XZ,f9]
    all_goals exact bl _ _ _ f1 f2 f3 f6 Y rfl rfl ga ba
   ·have ay:¬(K:Int)<4:=by omega
    simp[XZ,f1,f9,l2,hi,ay];exact done _ (by omega) f1 f2 f3 f6 Y f8
  ·simp[XZ,f1,f9,l2,hi];exact done _ (by omega) f1 f2 f3 f6 Y f8
 rintro Q S1 ⟨nv,f1,f2,f3,f6,Y,f8,al,bb⟩;have bm:=g0.A al;have B0:∀w,B w->S0.A w≠ .none:=fun w y=>by
  rcases(hB _).1 y with y|y|y
  ·rw[g0.d w y];exact y
  ·grind
  grind
 have B1:∀w,B w->S1.A w≠ .none:=fun w y=>by rw[al.d w (B0 w y)];grind
 have a0:∀{S:St},(∀w,S1.A w≠ .none->¬B w->S.A w=S1.A w)->SlAt (fun _=>True) S nv 1 (strs O):=fun k=>bb.D.D fun w p N=>⟨trivial,k w N fun b=>B0 w b p⟩
 have aw:J8 nv=some (.d .i64 O.length, .a):=by have:=bb.D.G;rwa [Jv]at this
 have q3:=al.B r3;have q6:=al.B r6;have q7:=al.B r7;have aa:O.length<1000:=by omega
 have T5:Jdw O 5:=Jng O aa 4 (by decide);have T6:Jdw O 6:=Jng O aa 5 (by decide);have T4:Jdw O 4:=Jng O aa 3 (by decide);have b9:(typesOf O r).length=O.length:=JjK _ _ (by omega);refine Ju (fun Q S=>(∃U t,Q 2=v3/\Q 3= .g b3 0/\Q 6= .g Z 0/\Q 7= .g W 0/\Q 8=nv/\LsF NmC v S1 B 5 S U (typesOf O r)/\S.A W= .a t [.d .i64 0,ofL [], .e, .e,U, .e]/\S.A Z= .a t6 [.d .i64 0,ofL [], .e, .e, .e, .e])) (fun J2 bn=> ?_) ?_
 ·rw[Ja];simp[XY];obtain⟨L,hL⟩:=loE fun j Q S=>∃(K:Nat) (U:V) (t:Nat),j+K=O.length/\Q 1=i/\Q 2=v3/\Q 3= .g b3 0/\Q 6= .g Z 0/\Q 7= .g W 0/\Q 8=nv/\Q 10= .d .i64 K/\LsF NmC v S1 B 5 S U ((typesOf O r).take K)/\S.A W= .a t [.d .i64 0,ofL [], .e, .e,U, .e]/\S.A Z= .a t6 [.d .i64 0,ofL [], .e, .e, .e, .e];refine JD L O.length (by omega) ((hL _ _ _).2 ⟨0, .e,t7,by omega,f1,f2,f3,f6,Y,f8,by rfl,LsF.D bm,q7,q6⟩) ?_;clear f1 f2 f3 f6 Y f8;intro j Q S aj;obtain⟨K,U,t,hj,f1,f2,f3,f6,Y,f8,au,hF,r7,r6⟩:=(hL _ _ _).1 aj;by_cases hi:K<O.length
  ·have ak:=wiN (i:=K) (by omega);obtain⟨ra,oa,a1,_,_,a4⟩:=Jqs (a0 hF.f) hi;obtain⟨rb,ob,kb,vb,b1,b2,b4,b5,_⟩:=(h2.F hF.g).D (i:=K) (by omega);have ar:K<(typesOf O r).length:=by omega
   have ax:=JjL O r K hi (by omega) ar;rw[Jd,Ja];simp[XY,f8,au,aw,hi];rw[Jd];simp[XY];simp[XY,Y,r7,f8,au,a1,a4,f1,b1,b4];refine Ji (T5 (Jq hF.g.D S.t) (b5.D kR) ((a0 hF.f).D kR)) ?_;rintro _ S2 gt ⟨x,rfl,hx⟩;obtain⟨X,hX⟩:∃X,X=JJ O 5 r[K]:=⟨_,rfl⟩
   rw[<-hX]at hx ax;have a3:=hx;obtain⟨xn,xk,xe,rfl,u1,u2,u3,u4⟩:=hx.B;have d1:=u1.A;have d2:=u1.B;have d3:=u2.A;have d4:=u2.B;have w2:=gt.D;obtain⟨n2,bc⟩:=nxE S2;have F2:=hF.F (C:=NmC) NmC.A gt;simp[XY,bc,d2,d4];have gn:Gr S2 (S2.B fun t=> .a t [ofL O[K], .d .i64 X.A,ofL X.B,xn,xk]):=Gr.G w2 (Jc _);have F3:=F2.F (C:=NmC) NmC.A gn;have ad:=QE (st:=S2) (z:=5) (e:=[ofL O[K], .d .i64 X.A,ofL X.B,xn,xk]) rfl;rw[bc]at ad;have h5:NmC (fun w=>¬B w/\rowOf U≠some w) (S2.B fun t=> .a t [ofL O[K], .d .i64 X.A,ofL X.B,xn,xk]) [ofL O[K], .d .i64 X.A,ofL X.B,xn,xk] (O[K],X):=⟨_,rfl,a3.A fun w p N=>⟨⟨fun b=>hF.d w (B1 w b) p,fun N=>hF.A N p⟩,gn.d w N⟩⟩
   refine JmW (C:=NmC) NmC.A F3 ad (by simp only[Kc,ZG,Hk,d2,d4];rfl) h5 B1 (by grind) fun S4 v4 F4 kp=> ?_;rw[<-ax,<-Xn ar]at F4;have d5:=F4.J;have bd:=gn.B (gt.B r6);have bo:=(kp Z (Jb bd) fun N=>B1 Z B6 (hF.j _ N)).trans bd;have be:=gn.B (gt.B r7);have bf:=(kp W (Jb be) fun N=>B1 W B7 (hF.j _ N)).trans be;simp[XZ,Y,bf,au,ak,d5.1,d5.2];exact⟨j-1,by omega,(hL _ _ _).2 ⟨K+1,v4,_,by omega,f1,f2,f3,f6,Y,f8,rfl,F4.I (C:=NmC) NmC.A B7 n7 (B1 _ B7) bf,Jh _ _ _ _,(Jj _ _ _ av).trans bo⟩⟩
  ·simp[XZ,f8,au,aw,hi];rw[Xt (by omega)]at hF;exact bn _ _ ⟨U,t,f2,f3,f6,Y,f8,hF,r7,r6⟩
 clear f1 f2 f3 f6 Y f8;rintro Q S ⟨U,t,f2,f3,f6,Y,f8,hF,r7,r6⟩;have r3:S.A b3= .a t3 [.d .i64 h.A, .d .i64 h.n,ap,aq]:=(hF.f b3 (Jb q3) B3).trans q3;rw[Ja];simp[XY,f3,f8,r3];refine Je (T6 hF.g.D (g1.F hF.g) (a0 hF.f)) ?_;rintro _ Sm ⟨gm,x,rfl,hx⟩;obtain⟨M,hM⟩:∃M,M=JJ O 6 h:=⟨_,rfl⟩
 rw[<-hM]at hx;have a3:=hx;obtain⟨mn,mk,xe,rfl,u1,u2,u3,u4⟩:=hx.B;have y1:=u1.A;have y2:=u1.B;have y3:=u2.A;have y4:=u2.B;have a5:=gm.B r7;have bg:=gm.B r6;have Fm:=hF.F (C:=NmC) NmC.A gm;simp[XY,Y,a5,y2,y4];have FM:=Fm.I (C:=NmC) NmC.A (c':=[.d .i64 M.A,ofL M.B,mn,mk,U, .e]) B7 n7 (B1 _ B7) a5;have kM:∀w,¬B w->(Sm.D W t fun u=> .a u [.d .i64 M.A,ofL M.B,mn,mk,U, .e]).A w=Sm.A w:=fun w n=>Jj _ _ _ fun N=>n (by grind);have a6:(Sm.D W t fun u=> .a u [.d .i64 M.A,ofL M.B,mn,mk,U, .e]).A W= .a Sm.t [.d .i64 M.A,ofL M.B,mn,mk,U, .e]:=Jh _ _ _ _;have bh:(Sm.D W t fun u=> .a u [.d .i64 M.A,ofL M.B,mn,mk,U, .e]).A Z= .a t6 [.d .i64 0,ofL [], .e, .e, .e, .e]:=(Jj _ _ _ av).trans bg;have bi:TyC (fun w=>¬B w/\rowOf U≠some w) (Sm.D W t fun u=> .a u [.d .i64 M.A,ofL M.B,mn,mk,U, .e]) [.d .i64 M.A,ofL M.B,mn,mk] M:=a3.A fun w p _=>by
  have:¬B w:=fun b=>hF.d w (B1 w b) p;exact⟨⟨this,fun N=>hF.A N p⟩,kM w this⟩
 have bj:=FM.G (C:=NmC) NmC.A B1;obtain⟨S2,a7⟩:=exE (Sm.D W t fun u=> .a u [.d .i64 M.A,ofL M.B,mn,mk,U, .e]);obtain⟨t2,a6⟩:∃t,S2.A W= .a t [.d .i64 M.A,ofL M.B,mn,mk,U, .e]:=⟨_,by rw[a7];exact a6⟩
 rw[<-a7]at FM bh bi bj⊢;clear a7 kM a5 bg Fm;have g2:=FM.g;have bp:=FM.f;have a8:=FM.d;have B2:∀w,B w->S2.A w≠ .none:=fun w b=>FM.d w (B1 w b);have am:∀w,rowOf U=some w->¬B w/\S2.A w≠ .none:=fun w N=>⟨fun b=>B1 w b (FM.j w N),FM.A N⟩
 have bq:=FM.m;clear FM;have ca:(Jdf O q).length=min 4 q.length:=Jld _ _;refine Ju (fun Q S=>(∃sv t,Q 6= .g Z 0/\Q 7= .g W 0/\LsF (SgT U) v S2 B 6 S sv (Jdf O q)/\S.A W= .a t [.d .i64 M.A,ofL M.B,mn,mk,U,sv]/\S.A Z= .a t6 [.d .i64 0,ofL [], .e, .e, .e, .e])) (fun J3 br=> ?_) ?_
 ·rw[Ja];simp[XY];obtain⟨L,hL⟩:=loE fun j Q S=>∃(K:Nat) (sv:V) (t:Nat),j+K=min 4 q.length/\Q 2=v3/\Q 6= .g Z 0/\Q 7= .g W 0/\Q 8=nv/\Q 11= .d .i64 K/\LsF (SgT U) v S2 B 6 S sv ((Jdf O q).take K)/\S.A W= .a t [.d .i64 M.A,ofL M.B,mn,mk,U,sv]/\S.A Z= .a t6 [.d .i64 0,ofL [], .e, .e, .e, .e];refine JD L (min 4 q.length) (by omega) ((hL _ _ _).2 ⟨0, .e,t2,by omega,f2,f6,Y,f8,by rfl,LsF.D g2,a6,bh⟩) ?_;clear f2 f3 f6 Y f8 r7 r6 r3;intro j Q S aj;obtain⟨K,sv,t,hj,f2,f6,Y,f8,bt,hF,r7,r6⟩:=(hL _ _ _).1 aj;have az:∀w,S1.A w≠ .none->¬B w->S.A w=S1.A w:=fun w N n=>by rw[hF.f w (a8 w N) n];grind
  have done:∀T,K=min 4 q.length->T 6= .g Z 0->T 7= .g W 0->J3 T S:=fun T N f6 Y=>br _ _ ⟨sv,t,f6,Y,by grind,r7,r6⟩;by_cases hi:K<q.length
  ·rw[h0]at hi;cases hi
  ·simp[XZ,f2,bt,l3,hi];exact done _ (by omega) f6 Y
 clear f2 f3 f6 Y f8 r7 r6 r3;rintro Q S ⟨sv,t,f6,Y,hF,r7,r6⟩;have d5:=hF.J;have d6:=bj.B;simp[XZ,f6,Y,r7,r6,y2,y4,d5.1,d6.1];have FE:=hF.I (C:=SgT U) SgT.A (c':=[.d .i64 M.A,ofL M.B,mn,mk,U,sv]) B6 n6 (B2 _ B6) r6;have bu:∀w,¬B w->v.A w= .none:=fun w n=>Xd fun N=>n ((hB _).2 (.inl N));have ao:∀w,¬B w/\rowOf U≠some w->S2.A w≠ .none->OwnS v U sv w/\_=S2.A w:=fun w p N=>⟨⟨bu w p.1,p.2,fun k=>N (FE.j w k)⟩,FE.f w N p.1⟩
 obtain⟨es,k1,k2,k3⟩:=bq;obtain⟨gs,l1,l2,l3⟩:=FE.m;refine⟨FE.g,[.d .i64 M.A,ofL M.B,mn,mk],U,sv,rfl,⟨?_,⟨es,k1.B fun w hr=>FE.f w (am w hr).2 (am w hr).1, ?_,fun K a b=> ?_⟩,⟨gs,l1, ?_,fun K a b=> ?_⟩,fun w N k=>(am w N).2 (FE.j w k)⟩⟩
 ·have:=bi.A ao;rw[hM]at this⊢;rw[ae]at this⊢;exact this
 ·rw[ae]at k2;exact k2
 ·have:=(k3 K a (by omega)).A ao;simp[ae]at this;exact this
 ·rw[ae]at l2;exact l2
 grind
theorem JrQ {k:V}(l:q=[])(m:WF v)(n:RwC s v e h)(o:QH s v i r)(p:QH s v k q):
  Dz 34 [.j e,i,k] v fun a S=>Gr v S/\∃b,a= .j b/\SchC (fun d=>v.A d= .none) S b (jH h r q):=by
 refine(JrP l m n o p).A ?_;rintro a S ⟨g,c,t,u,rfl,f⟩;exact⟨g,_,rfl,f.c⟩
theorem Jux {v3:V}(z0:q=[])(hw:WF v)(h1:RwC s v e h)(h2:QH s v i r)(h3:QH s v v3 q):
  Dz 18 [.j e,i,v3] v fun f S=>Gr v S/\∃g,f= .p [.j g, .h (decide (refS (jH h r q)=0))]/\SchC (fun l=>v.A l= .none) S g (jH h r q):=by
 refine Jl (aT Tryz.func18 rfl) rfl ?_;obtain⟨n0,w⟩:=nxE v;have g1:=h1;obtain⟨T,U,ag,rfl,_,_,_,a1,a2,_,_,_⟩:=h1.A;have c1:=a1.A;have s1:=a1.B;have c2:=a2.A;have s2:=a2.B;obtain⟨l2,s3,c3,m2⟩:=h2.A;obtain⟨l3,s4,c4,m3⟩:=h3.A;obtain⟨b3,W⟩:=exE (up 0 n0);obtain⟨X,z⟩:=exE (up 1 n0);have n6:v.A X= .none:=by rw[z];exact nx0 hw w 1
 simp only[CT,Tryz.f18,XY,simprocAttr];rw[Ja];simp[XY,w,s1,s2];rw[<-W,<-z];obtain⟨S0,o⟩:=exE ((v.B fun t=> .a t [.d .i64 h.A, .d .i64 h.n,T,U]).B fun t=> .a t [.d .i64 0,ofL [], .e, .e, .e, .e]);have Q:Gr v S0:=by rw[o];exact(Gr.G hw (Jc _)).L (Jc _)
 obtain⟨t3,r3⟩:∃t,S0.A b3= .a t [.d .i64 h.A, .d .i64 h.n,T,U]:=⟨_,by rw[o,W];simp[XZ,w];rfl⟩
 obtain⟨t6,K⟩:∃t,S0.A X= .a t [.d .i64 0,ofL [], .e, .e, .e, .e]:=⟨_,by rw[o,z];simp[XZ,w];rfl⟩
 rw[<-o];clear o;rw[Ja];simp[XY,r3];refine Je (JrQ z0 Q.D (g1.F Q) (h2.F Q) (h3.F Q)) ?_;rintro _ S1 ⟨gs,g,rfl,hs⟩;obtain⟨sc,Y⟩:∃m,m=jH h r q:=⟨_,rfl⟩
 rw[<-Y]at hs⊢;have N:=hs;obtain⟨c,Z,sv,rfl,k1,k2,k3⟩:=hs;obtain⟨M,hM⟩:∃M,M=sc.b:=⟨_,rfl⟩
 rw[<-hM]at k1;obtain⟨mn,mk,xe,rfl,u1,u2,u3,u4⟩:=k1.B;have d1:=u1.A;have d2:=u1.B;have d3:=u2.A;have d4:=u2.B;have d5:=k2.B;have d6:=k3.B;have w1:=gs.D;obtain⟨n1,aa⟩:=nxE S1;simp at N⊢;simp[XY,aa,d2,d4,d5.1,d6.1];obtain⟨b8,ab⟩:=exE (up 0 n1);obtain⟨S2,x⟩:=exE ((S1.B fun t=> .a t [.d .i64 0,ofL [], .e, .e, .e, .e]).D (up 0 n1) S1.t fun u=> .a u [.d .i64 M.A,ofL M.B,mn,mk,Z,sv]);have O:Gr S1 S2:=by rw[x];exact(Gr.F w1).M aa (Jc _) (Jc _)
 obtain⟨t8,r8⟩:∃t,S2.A b8= .a t [.d .i64 M.A,ofL M.B,mn,mk,Z,sv]:=⟨_,by rw[x,ab];simp[XZ];rfl⟩
 rw[<-x,<-ab];clear x;have ae:=N.A O.H;rw[Ja];simp[XY,r8];refine Ji (Jin (by rw[Y,z0];rfl) (Jq O.D S2.t) (ae.B S2.t)) ?_;rintro _ S3 g3 rfl;have gg:=(Q.A gs).A (O.A g3);have ad:=K;have K:=((gs.A O).A g3).B K;obtain⟨R,hR⟩:∃R,R=refS sc:=⟨_,rfl⟩
 rw[<-hR];have y:Gr v (S3.D X t6 fun u=> .a u [.d .i64 M.A,ofL M.B,mn,mk,Z,sv])/\SchC (fun l=>v.A l= .none) (S3.D X t6 fun u=> .a u [.d .i64 M.A,ofL M.B,mn,mk,Z,sv]) [.d .i64 M.A,ofL M.B,mn,mk,Z,sv] sc:=by
  refine⟨gg.J n6 (Jb K) (by rw[K];rfl) (Jc _), ?_⟩;have af:S0.A X≠ .none:=fun g=>by
   have:=(gs.A O).A g3;exact(Jb ad) g
  exact N.A fun l p g=>⟨Q.I p,by rw[Jj _ _ _ fun k=>af (by rw[<-k];exact p),g3.d l (by rw[O.d l g];exact g),O.d l g]⟩
 by_cases h0:R=0
 ·simp only[XZ,simprocAttr,h0,K,d2,d4,d5.1,d6.1];exact⟨y.1,_,rfl,y.2⟩
 ·simp only[XZ,simprocAttr,h0,K,d2,d4,d5.1,d6.1];exact⟨y.1,_,rfl,y.2⟩
theorem JkA {R:V->List Nat->Prop}(n:Str):∀{sv:List (Str×V)} {sg:List (Str×List Nat)},sv.length=sg.length->(∀i (h:i<sv.length) (e:i<sg.length),sv[i].1=sg[i].1/\R sv[i].2 sg[i].2)->
  (∀c,(sg.find? fun p=>n=p.1).map (·.2)=some c->∃v,at_ n sv=some v/\R v c)/\((sg.find? fun p=>n=p.1).map (·.2)=none->at_ n sv=none)
 |[],[],_,_=>⟨fun c h=>(by cases h),fun _=>rfl⟩
 | (a,v)::r,(b,w)::q,f,h=>by
   obtain⟨g,j⟩:=JkA n (sv:=r) (sg:=q) (by grind) fun i k l=>h (i+1) (by grind) (by grind);have d:=h 0 (by simp) (by simp);simp at d;rw[at_]
   grind
theorem sigN (k:Str)(j:TabX v s n b)(m:sigI b k=none):
  Dz 179 [.g n 0,ofL k] v fun f S=>f= .p [.e, .d .i64 0, .h false]/\v=S:=by
 obtain⟨o,F,q,r,u,w,x,y,j⟩:=j;refine Jl (aT Tryz.func179 rfl) rfl ?_;obtain⟨t,c⟩:=j.s;have i:=K0 (e:= .a .s) j.v .e true k (YV _ _) rfl;rw[(JkA (R:=fun f l=>SlAt F v f 1 (ints l)) k j.K j.A).2 m]at i;simp[ansL]at i;simp only[CT,Tryz.f179,XZ,simprocAttr,c,i]
def AskC (P:Pt->Prop)(st:St)(rt:Pt)(e:List V)(nds:List Nd)(args:List Nat):Prop:=
 ∃lv av es,e=[.g rt 0,lv,av]/\SlAt P st lv 4 es/\es.length=nds.length/\(∀i (h:i<es.length) (h':i<nds.length),NdC P st es[i] nds[i])/\SlAt P st av 1 (ints args)
theorem AskC.D {P Q:Pt->Prop}{d st':St}{f:Pt}{e:List V}{c:List Nd}{args:List Nat}(h:AskC P d f e c args)(k:∀r,P r->d.A r≠ .none->Q r/\st'.A r=d.A r):AskC Q st' f e c args:=by
 obtain⟨g,j,l,rfl,m,n,o,p⟩:=h;exact⟨g,j,l,rfl,m.D k,n,fun i a b=>(o i a b).A k,p.D k⟩
theorem AskC.B {st':St}{args:List Nat}(h:AskC s v n e z args)(g:Gr v st'):AskC s st' n e z args:=h.D g.H
theorem AskC.A {st:St}{args:List Nat}(h:AskC s st n e z args)(k:Nat):AskC s {st with a:=k} n e z args:=h.D kR
theorem jt {j:V}{b:List (List V)}(l:SlAt s v j 4 b)(x:b.length=z.length)(m:∀i (h:i<b.length) (y:i<z.length),NdC s v b[i] z[i]){i:Nat}(n:i<z.length):
  ∃r q e,Js 4 j (.d .i64 i)=some (.g r q, .a)/\s r/\v.A r≠ .none/\ld1 (v.A r) q=some (.d .i64 z[i].a, .a)/\ld1 (v.A r) (q+3)=some (e, .a)/\SlAt s v e 1 (ints z[i].c):=by
 obtain⟨r,q,o,p,t,J,f⟩:=l.H (i:=i) (by omega);have k:=m i (by omega) n;obtain⟨E,u⟩:∃E,E=b[i]'(by omega):=⟨_,rfl⟩
 rw[<-u]at k f;obtain⟨K,e,rfl,L,w⟩:=k;exact⟨r,q,e,o,p,t,f 0 (by simp),f 3 (by simp),w⟩
theorem JsQ (k:Int)(c:TabU v s n b):
  Dz 156 [.g n 0, .d .i64 k] v fun a S=>Ch s v S/\∃f,TabU S f n (layS b ⟨k,[],[],[]⟩).1/\(∀r,f r->s r\/v.A r= .none)/\a= .p [.d .i64 ((layS b ⟨k,[],[],[]⟩).2.1:Nat), .d .i64 (layS b ⟨k,[],[],[]⟩).2.2]:=by
 have h:=c;obtain⟨i,⟨t,F,c,j⟩,u⟩:=c;refine Jl (aT Tryz.func156 rfl) rfl ?_;simp only[CT,Tryz.f156,XZ,simprocAttr];refine Je (lay (P:=fun _=>True) (nd:=⟨k,[],[],[]⟩) i c ⟨.e, .e,rfl,SlAt.K _ _ _,SlAt.K _ _ _⟩ ⟨XC _,XC _⟩) ?_;rintro _ w ⟨l,⟨x,y,z,m,o,q⟩,rfl⟩;simp[XZ];obtain⟨J,L,M,N⟩:=h.I j l m o q
 grind
def Jbu (tb:Tb)(k:Int)(ok:Bool):Tb×Nat×Int:=if ok then layS tb ⟨k,[],[],[]⟩else(tb,0,17)
theorem JhE {args:List Nat}(k:Int)(i:Bool)(o:TabU v s n b)(h:AskC p v n e z args):
  Dz 200 [.j e, .d .i64 k, .h i] v fun c S=>Ch s v S/\∃q,TabU S q n (Jbu b k i).1/\(∀r,q r->s r\/v.A r= .none)/\c= .p [.d .i64 ((Jbu b k i).2.1:Nat), .d .i64 (Jbu b k i).2.2]:=by
 refine Jl (aT Tryz.func200 rfl) rfl ?_;obtain⟨L,l⟩:=nxE v;obtain⟨u,x,Z,rfl,y,h2,h3,J⟩:=h;have c1:=y.A;have M:=y.B;have c3:=J.A;have N:=J.B;have O:=o.1;obtain⟨K,f⟩:=exE (v.B fun t=> .a t [.g n 0,u,x]);have m:Gr v K:=by rw[f];exact Gr.G O (Jc _)
 obtain⟨t2,Q⟩:∃t,K.A (up 0 L)= .a t [.g n 0,u,x]:=⟨_,by rw[f];simp[XZ,l];rfl⟩
 simp only[CT,Tryz.f200,XY,simprocAttr];rw[Ja];simp[XY,l,M,N];rw[<-f];clear f
 cases i with
 | false=>
   simp only[XZ,simprocAttr];exact⟨Ch.H s m,s,o.A m,fun r w=> .inl w,rfl⟩
 | true=>
   rw[Jd,Ja];simp[XY];rw[Ja];simp[XY,Q];refine Je (JsQ k (o.A m)) ?_;rintro _ S2 ⟨T,U,X,Y,rfl⟩;simp only[XZ,simprocAttr];exact⟨(Ch.H s m).A T fun r w=> .inl w,U,X,fun r w=>by rcases Y r w with w|w;exact .inl w;exact .inr (Ch.B (Ch.H s m) w),rfl⟩
def Ans (W:Pt->Prop)(st:St)(rt:Pt)(x:Tb×Nat×Int)(v:V)(S:St):Prop:=Ch W st S/\∃W',TabU S W' rt x.1/\(∀r,W' r->W r\/st.A r= .none)/\v= .p [.d .i64 (x.2.1:Nat), .d .i64 x.2.2]
theorem Ans.D {S:St}(G:Gr v g)(h:Ans s g n f i S):Ans s v n f i S:=by
 obtain⟨C,a,T,K,e⟩:=h;exact⟨(Ch.H s G).A C fun r w=> .inl w,a,T,fun r w=>by rcases K r w with w|w;exact .inl w;exact .inr (Ch.B (Ch.H s G) w),e⟩
theorem Ans.A {W:Pt->Prop}{st S:St}{a:Pt}{b:Tb}{n:Nat}{z:Int}(c:TabU st W a b)(G:Gr st S):Ans W st a (b,n,z) (.p [.d .i64 (n:Nat), .d .i64 z]) S:=⟨Ch.H W G,W,c.A G,fun r w=> .inl w,rfl⟩
def kg (nds:List Nd)(ok:Bool):Nat×Int:=match ok,(nds.headD ⟨0,[],[],[]⟩).c with
 |true,k::_=>(k,0)
 |_,_=>(0,17)
theorem kidA {args:List Nat}(K:Bool)(hw:WF v)(h:AskC s v n e z args)(h0:0<z.length):
  Dz 202 [.j e, .h K] v fun f S=>Gr v S/\f= .p [.d .i64 ((kg z K).1:Nat), .d .i64 (kg z K).2]:=by
 refine Jl (aT Tryz.func202 rfl) rfl ?_;obtain⟨n0,u⟩:=nxE v;obtain⟨N,Y,Z,rfl,O,h2,h3,h4⟩:=h;have c1:=O.A;have c2:=O.B;have c3:=h4.A;have c4:=h4.B;obtain⟨p2,w⟩:=exE (up 0 n0);obtain⟨Q,o⟩:=exE (v.B fun t=> .a t [.g n 0,N,Y]);have x:Gr v Q:=by rw[o];exact Gr.G hw (Jc _)
 obtain⟨t2,r2⟩:∃t,Q.A p2= .a t [.g n 0,N,Y]:=⟨_,by rw[o,w];simp[XZ,u];rfl⟩
 have T:∀i (h:i<Z.length) (h':i<z.length),NdC s Q Z[i] z[i]:=fun i a b=>(h3 i a b).A x.H;obtain⟨r,q,y,L,a2,a3,a4,a5,U⟩:=jt (O.I x) h2 T h0;have L:Js 4 N (.d .i64 0)=some (.g r q, .a):=L;have m:=U.G;rw[JP]at m;have W:z.headD ⟨0,[],[],[]⟩=z[0]:=by cases z with|nil=>grind|cons a b=>rfl
 simp only[CT,Tryz.f202,XY,simprocAttr];rw[Ja];simp[XY,u,c2,c4];rw[<-o,<-w];clear o;unfold kg;rw[W]
 cases K with
 | false=>
   simp[XZ];exact x
 | true=>
   cases J:z[0].c with
   | nil=>
     rw[J]at m;have m:J8 y=some (.d .i64 0, .a):=m;simp[XZ,r2,L,a5,m];exact x
   | cons k ks=>
     rw[J]at m U;have hz:¬((ks.length+1:Nat):Int)=0:=by omega
     obtain⟨r',q',X,b2,b3,b4⟩:=SlAt.M (xs:=(k::ks).map fun l:Nat=>V.d .i64 (l:Int)) (i:=0) U (by simp);have X:Js 1 y (.d .i64 0)=some (.g r' q', .a):=X;simp at b4;simp only[XZ,simprocAttr,r2,L,a5,m,hz,X,b4];exact x
theorem Jnh {id:Nat}(f:TabU v s n b)(k:id<b.a.length):
  Dz 159 [.g n 0, .d .i64 id] v fun c S=>TabU S s n b/\Gr v S/\∃e,c= .p [.j e, .h true]/\NdC (fun r=>v.A r= .none) S e b.a[id]:=by
 have i:=f;obtain⟨l,⟨m,F,f,o⟩,q⟩:=f;refine(Jus (Q:=fun r=>v.A r= .none) l f k fun _ h=>h).A ?_;rintro c S ⟨g,e,rfl,h⟩;exact⟨i.A g,g,e,rfl,h⟩
theorem JkB {id:Nat}(e:TabU v s n b)(f:Ks b (b.a.length+1) id=(l,true)):
  Dz 158 [.g n 0, .d .i64 id] v fun c S=>c= .p [.d .i64 (l:Nat), .h true]/\v=S:=by
 obtain⟨i,⟨j,F,e,k⟩,m⟩:=e;have:=Juu (id:=id) i e;rw[f]at this;exact this
theorem optA (id:Nat)(e:TabU v s n b):
  Dz 213 [.g n 0, .d .i64 id] v (Ans s v n (layS b ⟨6,[],[],[id]⟩)):=by
 have f:=e;obtain⟨h,⟨r,F,e,i⟩,t⟩:=e;refine(optC id h e).A ?_;rintro a S ⟨c,⟨u,w,x,j,k,l⟩,rfl⟩;obtain⟨m,o,p,q⟩:=f.I i c j k l;exact⟨m,o,p,q,rfl⟩
theorem Jqt (c:Str)(f:TabU v s n b)(i:sigI b c=none):
  Dz 179 [.g n 0,ofL c] v fun a S=>a= .p [.e, .d .i64 0, .h false]/\v=S:=by
 obtain⟨j,⟨k,F,f,_⟩,_⟩:=f;exact sigN c ⟨j,F,f⟩ i
def izs (l:List Int):List (List V):=l.map fun k=>[V.d .i64 k]
theorem JrR (l:List Int):(izs l).length=l.length:=by simp[izs]
def areZ (ks:List Int)(nds:List Nd):Bool:=(ks.zip nds).all fun p=>decide (p.2.a=p.1)
theorem areI {args:List Nat}{k:List Int}(hw:WF v)(h:AskC s v n e z args)(w:SlAt p v i 1 (izs k))(hl:k.length<=z.length)(h8:k.length<=8):
  Dz 201 [.j e,i] v fun c S=>Gr v S/\c= .h (areZ k z):=by
 refine Jl (aT Tryz.func201 rfl) rfl ?_;obtain⟨n0,x⟩:=nxE v;obtain⟨lv,av,es,rfl,O,h2,h3,h4⟩:=h;have c1:=O.A;have c2:=O.B;have c3:=h4.A;have c4:=h4.B;have y:=w.G;rw[JrR]at y;simp only[CT,Tryz.f201,XY,simprocAttr];rw[Ja];simp[XY,x,c2,c4];generalize T:up 0 n0=p2;refine nm1 hw x T ?_;intro U W _ ⟨t2,r2⟩;have X:=w.I W;have Y:=O.I W;have Z:∀f (h:f<es.length) (h':f<z.length),NdC s U es[f] z[f]:=fun f a b=>(h3 f a b).A W.H;refine Yf (fun _ S=>S=U/\areZ k z=true) ?_ fun u S ⟨e,h⟩=>by
  subst e;simp only[XZ,simprocAttr]
  grind
 rw[Ja];simp[XY,y];refine Jo (fun j u S=>∃(f:Nat),j+f=k.length/\u 2= .g p2 0/\u 7=i/\u 8= .d .i64 k.length/\u 9= .d .i64 f/\S=U/\areZ k z=areZ (k.drop f) (z.drop f)) k.length (by omega) ⟨0,by omega,rfl,rfl,rfl,by rfl,rfl,rfl⟩ ?_;rintro L hL j u S ⟨f,hj,f2,f7,K,f9,rfl,l⟩;by_cases N:f<k.length
 ·have J:f<z.length:=by omega
  have m:=wiN (i:=f) (by omega);obtain⟨r,q,aa,a1,a2,a3,a4,a5,a6⟩:=jt Y h2 Z J;obtain⟨r',q',b1,b2,b3,b4⟩:=SlAt.M (xs:=k.map (V.d .i64)) (i:=f) (by rw[List.map_map];exact X) (by grind);simp at b4;have o:areZ (k.drop f) (z.drop f)=(decide (z[f].a=k[f])&&areZ (k.drop (f+1)) (z.drop (f+1))):=by
   rw[Xc N,Xc J];rfl
  rw[o]at l;by_cases w:z[f].a=k[f]
  ·have t:(z[f].a=k[f])=True:=Zn w;simp[XZ,f2,f7,K,f9,N,b1,b4,r2,a1,a4,t,m];refine⟨j-1,by omega,hL _ _ _ ⟨f+1,by omega,f2,f7,K,rfl,rfl,by grind⟩⟩
  ·have t:(z[f].a=k[f])=False:=Zi w;simp[XZ,f2,f7,K,f9,N,b1,b4,r2,a1,a4,t]
   grind
 ·simp[XZ,K,f9,N];rw[XB (by omega)]at l;exact l
section
variable {S : St} {x : Pt} {t : Nat}
theorem izs1 {a:Int}(r:S.A x= .a t [.d .i64 a]):SlAt (fun _=>True) S (.m x 0 1 1 1) 1 (izs [a]):=SlAt.J (es:=izs [a]) (t:=t) (by rw[r];rfl) trivial fun e h=>by simp[izs]at h;grind
theorem izs2 {a b:Int}(r:S.A x= .a t [.d .i64 a, .d .i64 b]):SlAt (fun _=>True) S (.m x 0 2 1 2) 1 (izs [a,b]):=SlAt.J (es:=izs [a,b]) (t:=t) (by rw[r];rfl) trivial fun e h=>by simp[izs]at h;grind
end
theorem orB {A B:Nd}{o:Nat}(hT:TabU v s n b)(h:AskC (fun r=>¬s r) v n e [A,B] [d,l])(hA:A.a=6)(ad:A.c=[o]):
  Dz 182 [.j e,ofL [111,114,101,108,115,101]] v (Ans s v n (if l=o then(b,o,0)else(b,0,17))):=by
 refine Jl (aT Tryz.func182 rfl) rfl ?_;obtain⟨n0,X⟩:=nxE v;have u:=h;obtain⟨lv,av,es,rfl,h1,h2,h3,h4⟩:=h;have c1:=h1.A;have c2:=h1.B;have c3:=h4.A;have c4:=h4.B;have hw:=hT.1;obtain⟨p2,Y⟩:=exE (up 0 n0);obtain⟨S,y⟩:=exE (v.B fun t=> .a t [.g n 0,lv,av]);have G0:Gr v S:=by rw[y];exact Gr.G hw (Jc _)
 obtain⟨t2,z⟩:∃t,S.A p2= .a t [.g n 0,lv,av]:=⟨_,by rw[y,Y];simp[XZ,X];rfl⟩
 have ae:∀i (h:i<es.length) (h':i<([A,B]).length),NdC (fun r=>¬s r) S es[i] ([A,B])[i]:=fun i a f=>(h3 i a f).A G0.H;obtain⟨r,q,N,w,a2,a3,a4,a5,T⟩:=jt (h1.I G0) h2 ae (i:=0) (by simp);have w:Js 4 lv (.d .i64 0)=some (.g r q, .a):=w;simp at a4 T;simp only[CT,Tryz.f182,XY,simprocAttr];rw[Ja];simp[XY,X,c2,c4];rw[<-y,<-Y];clear y;rw[Ja];simp[XY,z,w,a4];have w0:=G0.D;obtain⟨n1,O⟩:=nxE S;have o2:=fun k=>nes (Jt w0 O (Jb z) k);simp[XZ,z,O,XV,Gl,ZV];obtain⟨x0,Z⟩:=exE (up 0 n1);obtain⟨S1,K⟩:=exE (S.B fun t=>Row.a t [V.d IntKind.i64 6]);have G1:Gr S S1:=by rw[K];exact Gr.G w0 (Jc _)
 obtain⟨t3,r3⟩:∃t,S1.A x0= .a t [.d .i64 6]:=⟨_,by rw[K,Z];simp[XZ,O];rfl⟩
 rw[<-K,<-Z];clear K;have hk:SlAt (fun _=>True) S1 (.m x0 0 1 1 1) 1 (izs [6]):=SlAt.J (es:=izs [6]) (t:=t3) (by rw[r3];rfl) trivial (fun e h=>by simp[izs]at h;grind);have aa:=G0.A G1;have z:=G1.B z;refine Ji (areI (Jq G1.D _) ((u.B aa).A _) (hk.L _) (by simp) (by simp)) ?_;rintro _ S2 U rfl;have x:=aa.A U;have z:=U.B z;have ab:areZ [6] [A,B]=true:=by unfold areZ;simp[hA]
 rw[ab];have T:=T.I (G1.A U);rw[ad]at T;have p:=T.G;have p:J8 N=some (.d .i64 1, .a):=p;obtain⟨r4,q4,b1,b2,b3,b4⟩:=SlAt.M (xs:=[V.d .i64 (o:Int)]) (i:=0) T (by simp);have b1:Js 1 N (.d .i64 0)=some (.g r4 q4, .a):=b1;simp at b4;obtain⟨r5,q5,d1,d2,d3,d4⟩:=SlAt.M (xs:=[V.d .i64 (d:Int),V.d .i64 (l:Int)]) (i:=1) (h4.I x) (by simp);have d1:Js 1 av (.d .i64 1)=some (.g r5 q5, .a):=d1;simp at d4;have a5:ld1 (S2.A r) (q+3)=some (N, .a):=by rw[(G1.A U).d r a3];exact a5
 by_cases hq:l=o
 ·have P:((l:Int)=(o:Int))=True:=Zn (by omega);simp[XZ,z,w,a5,p,b1,b4,d1,d4,P];refine Ji (kidA true (Jq U.D _) ((u.B x).A _) (by simp)) ?_;rintro _ S3 G3 rfl;have Q:kg [A,B] true=(o,0):=by unfold kg;grind
  rw[Q];simp[XZ,hq];exact Ans.A hT (x.A G3)
 ·have P:((l:Int)=(o:Int))=False:=Zi (by omega);simp[XZ,z,w,a5,p,b1,b4,d1,d4,P];refine Ji (kidA false (Jq U.D _) ((u.B x).A _) (by simp)) ?_;rintro _ S3 G3 rfl;have Q:kg [A,B] false=(0,17):=rfl;rw[Q];simp[XZ,hq];exact Ans.A hT (x.A G3)
def getR (tb:Tb)(kid o:Nat):Tb×Nat×Int:=if(tb.a.getD o ⟨0,[],[],[]⟩).a=6 then(tb,0,17)else layS tb ⟨6,[],[],[kid]⟩
theorem getA {A B:Nd}{args:List Nat}(hT:TabU v s n b)(h:AskC (fun r=>¬s r) v n e [A,B] args)(hA:A.a=5)(hB:B.a=3)(ag:A.c=[d])(ho:Ks b (b.a.length+1) d=(l,true))(ae:l<b.a.length):
  Dz 203 [.j e] v (Ans s v n (getR b d l)):=by
 refine Jl (aT Tryz.func203 rfl) rfl ?_;obtain⟨n0,K⟩:=nxE v;have q:=h;obtain⟨lv,av,es,rfl,h1,h2,h3,h4⟩:=h;have c1:=h1.A;have c2:=h1.B;have c3:=h4.A;have c4:=h4.B;have hw:=hT.1;obtain⟨p1,O⟩:=exE (up 0 n0);simp only[CT,Tryz.f203,XY,simprocAttr];rw[Ja];simp[XY,K,c2,c4];obtain⟨P,i⟩:=exE (v.B fun t=> .a t [.g n 0,lv,av]);have G0:Gr v P:=by rw[i];exact Gr.G hw (Jc _)
 obtain⟨t2,f⟩:∃t,P.A p1= .a t [.g n 0,lv,av]:=⟨_,by rw[i,O];simp[XZ,K];rfl⟩
 rw[<-i,<-O];clear i;have w0:=G0.D;obtain⟨n1,w⟩:=nxE P;have o2:=fun k=>nes (Jt w0 w (Jb f) k);rw[Ja];simp[XY,f,w];obtain⟨x0,Q⟩:=exE (up 0 n1);obtain⟨S1,p⟩:=exE (P.B fun t=>Row.a t [V.d IntKind.i64 5,V.d IntKind.i64 3]);have G1:Gr P S1:=by rw[p];exact Gr.G w0 (Jc _)
 obtain⟨t3,r3⟩:∃t,S1.A x0= .a t [.d .i64 5, .d .i64 3]:=⟨_,by rw[p,Q];simp[XZ,w];rfl⟩
 rw[<-p,<-Q];clear p;have hk:SlAt (fun _=>True) S1 (.m x0 0 2 1 2) 1 (izs [5,3]):=SlAt.J (es:=izs [5,3]) (t:=t3) (by rw[r3];rfl) trivial (fun e h=>by simp[izs]at h;grind);have S:=G0.A G1;have f:=G1.B f;refine Ji (areI (Jq G1.D _) ((q.B S).A _) (hk.L _) (by simp) (by simp)) ?_;rintro _ S2 G2 rfl;have T:=S.A G2;have f:=G2.B f;have U:areZ [5,3] [A,B]=true:=by unfold areZ;simp_all
 rw[U];simp[XY];refine Ji (kidA true (Jq G2.D _) ((q.B T).A _) (by simp)) ?_;rintro _ S3 G3 rfl;have af:kg [A,B] true=(d,0):=by unfold kg;grind
 rw[af];have X:=T.A G3;have f:=G3.B f;have T3:=hT.A X;simp[XY];rw[Jd,Ja];simp[XY];rw[Ja];simp[XY,f];refine Je (JkB T3 ho) ?_;rintro _ _ ⟨rfl,rfl⟩;simp[XY];rw[Jd,Ja];simp[XY,f];refine Je (Jnh T3 ae) ?_;rintro _ S4 ⟨T4,g4,e',rfl,Y,Z,rfl,aa,ab⟩;have q1:=aa.A;have q2:=aa.B;have q3:=ab.A;have q4:=ab.B;have f:=g4.B f;obtain⟨N,hN⟩:∃N,N=b.a[l]:=⟨_,rfl⟩
 rw[<-hN];obtain⟨n4,x⟩:=nxE S4;have o4:=fun k=>nes (Jt T4.1 x (Jb f) k);obtain⟨S5,y⟩:=exE ((S4.B fun t=> .a t [.d .i64 0,ofL [], .e, .e]).D (up 0 n4) S4.t fun u=> .a u [.d .i64 N.a,ofL N.d,Y,Z]);have g5:Gr S4 S5:=by rw[y];exact(Gr.F T4.1).M x (Jc _) (Jc _)
 obtain⟨t5,r5⟩:∃t,S5.A (up 0 n4)= .a t [.d .i64 N.a,ofL N.d,Y,Z]:=⟨_,by rw[y];simp[XZ];rfl⟩
 have f:=g5.B f;have z:=(X.A g4).A g5;simp[XY,x,q2,q4];rw[<-y];have ad:getR b d l=if N.a=6 then(b,0,17)else layS b ⟨6,[],[],[d]⟩:=by unfold getR;grind
 rw[ad];by_cases h6:N.a=6
 ·rw[Xe h6];simp[XZ,r5,h6];exact Ans.A hT z
 ·rw[Xa h6];rw[Ja];simp[XY,r5,h6];rw[Ja];simp[XY,f];refine Je (optA d (hT.A z)) ?_;rintro _ S6 ⟨C6,W6,T6,K6,rfl⟩;simp[XZ];exact Ans.D z ⟨C6,W6,T6,K6,rfl⟩
theorem getB {A B:Nd}{args:List Nat}(N:TabU v s n b)(h:AskC (fun r=>¬s r) v n e [A,B] args)(U:A.a=5)(X:B.a=3)(x:A.c=[d])(Y:Ks b (b.a.length+1) d=(l,true))(y:l<b.a.length):
  Dz 182 [.j e,ofL [103,101,116]] v (Ans s v n (getR b d l)):=by
 refine Jl (aT Tryz.func182 rfl) rfl ?_;obtain⟨Z,m⟩:=nxE v;have p:=h;obtain⟨z,O,P,rfl,J,h2,h3,Q⟩:=h;have c1:=J.A;have c2:=J.B;have c3:=Q.A;have c4:=Q.B;have hw:=N.1;obtain⟨p2,u⟩:=exE (up 0 Z);obtain⟨K,k⟩:=exE (v.B fun t=> .a t [.g n 0,z,O]);have w:Gr v K:=by rw[k];exact Gr.G hw (Jc _)
 obtain⟨t2,S⟩:∃t,K.A p2= .a t [.g n 0,z,O]:=⟨_,by rw[k,u];simp[XZ,m];rfl⟩
 have L:∀i (h:i<P.length) (h':i<([A,B]).length),NdC (fun r=>¬s r) K P[i] ([A,B])[i]:=fun i a f=>(h3 i a f).A w.H;obtain⟨r,q,aa,M,a2,a3,T,a5,a6⟩:=jt (J.I w) h2 L (i:=0) (by simp);have M:Js 4 z (.d .i64 0)=some (.g r q, .a):=M;simp at T a6;simp only[CT,Tryz.f182,XY,simprocAttr];rw[Ja];simp[XY,m,c2,c4];rw[<-k,<-u];clear k;rw[Ja];simp[XY,S,M,T];simp[XZ,S,XV,Gl,GD];refine Je (getA (N.A w) (p.B w) U X x Y y) ?_;rintro _ S1 ⟨C1,W1,T1,K1,rfl⟩;simp[XZ];exact Ans.D w ⟨C1,W1,T1,K1,rfl⟩
def Jb0 (tb:Tb)(args:List Nat)(nds:List Nd):Prop:=args.length=nds.length/\∀i (h:i<args.length) (h':i<nds.length),∃o,Ks tb (tb.a.length+1) args[i]=(o,true)/\tb.a[o]? =some nds[i]
theorem ofB {K:Str}{args:List Nat}(hT:TabU v s n b)(hs:sigI b K=none)(hb:(Ko K&&Lib.contains Yx (32::(K++[32])))=true)
  (aa:∀S,Dz 180 [ofL K] S fun c S'=>c= .d .i64 (args.length:Nat)/\S=S') (a4:args.length<=8) (y:SlAt (fun r=>¬s r) v i 1 (ints args)) (aw:Jb0 b args z)
  (hB:∀(S:St) (e:List V),Gr v S->AskC (fun r=>¬s r) S n e z args->Dz 182 [.j e,ofL K] S (Ans s S n f)):
  Dz 155 [.g n 0,ofL K,i] v (Ans s v n f):=by
 refine Jl (aT Tryz.func155 rfl) rfl ?_;obtain⟨a6,al⟩:=aw;have ab:=y.G;rw[JP]at ab;have ax:J8 .e=some (.d .i64 0, .a):=rfl;simp only[CT,Tryz.f155,XY,simprocAttr];rw[Ja];simp[XY];rw[Ja];simp[XY];refine Je (Jqt K hT hs) ?_;rintro _ _ ⟨rfl,rfl⟩;simp[XY];rw[Ja];simp[XY,ax];rw[Jd];simp[XY];rw[Ja];simp[XY];refine Je (JcW K v hT.1) ?_;rintro _ S1 ⟨G1,rfl⟩;rw[hb];simp[XY];refine Je (aa S1) ?_;rintro _ _ ⟨rfl,rfl⟩;simp[XY];rw[Jd,Ja];simp[XY,ab];rw[Jd,Ja];simp[XY];refine Je (JcW K S1 G1.D) ?_;rintro _ S2 ⟨G2,rfl⟩;rw[hb];have O:=G1.A G2;have a5:=y.I O;have s1:=y.B;have s2:=y.A;obtain⟨n2,ad⟩:=nxE S2;simp[XY];rw[Ja];simp[XY,ad,s1,s2];obtain⟨P,ae⟩:=exE (up 0 n2);obtain⟨S3,U⟩:=exE ((S2.B fun t=> .a t [.s, .e, .e]).D (up 0 n2) S2.t fun u=> .a u [.g n 0, .e,i]);have g3:Gr S2 S3:=by rw[U];exact(Gr.F O.D).M ad (Jc _) (Jc _)
 obtain⟨t7,r7⟩:∃t,S3.A P= .a t [.g n 0, .e,i]:=⟨_,by rw[U,ae];simp[XZ];rfl⟩
 have ay:S2.A P= .none:=by rw[ae];exact nx0 O.D ad 0
 rw[<-U,<-ae];clear U;have am:=O.A g3;have e7:v.A P= .none:=O.I ay;obtain⟨B,af⟩:∃B:Pt->Prop,∀r,B r<->(v.A r≠ .none\/r=P):=⟨_,fun _=>Iff.rfl⟩
 have B7:B P:=(af _).2 (.inr rfl);have B3:∀r,B r->S3.A r≠ .none:=fun r h=>by
  rcases(af _).1 h with h|h
  ·rw[am.d r h];exact h
  grind
 refine Yf (fun Q S=>∃w t,Q 1=ofL K/\Q 16= .g P 0/\LsF NdC v S3 B 4 S w z/\S.A P= .a t [.g n 0,w,i]) ?_ ?_
 ·rw[Ja];simp only[XY,simprocAttr,ab];refine Jo (fun j Q S=>∃(l:Nat) (w:V) (t:Nat),j+l=args.length/\Q 0= .g n 0/\Q 1=ofL K/\Q 16= .g P 0/\Q 73=i/\Q 74= .d .i64 args.length/\Q 75= .d .i64 l/\LsF NdC v S3 B 4 S w (z.take l)/\S.A P= .a t [.g n 0,w,i]) args.length (by omega) ⟨0, .e,t7,by omega,rfl,rfl,rfl,rfl,rfl,by rfl,LsF.D am,r7⟩ ?_;rintro L hL j Q S ⟨l,w,t,hj,f0,f1,T,ao,ag,X,hF,r7⟩;by_cases hi:l<args.length;rotate_left
  ·have az:¬(l:Int)<args.length:=by omega
   simp only[XZ,simprocAttr,ag,X,az];rw[Xt (by omega)]at hF
   grind
  have ap:l<z.length:=by omega
  have ah:=wiN (i:=l) (by omega);obtain⟨o,ho,a0⟩:=al l hi ap;obtain⟨a1,a2⟩:=Xx.1 a0;obtain⟨ra,oa,o1,o2,o3,o4⟩:=SlAt.M (xs:=args.map fun m:Nat=>V.d .i64 (m:Int)) (i:=l) (y.I hF.g) (by grind);simp at o4;have TS:=hT.A hF.g;rw[Ja];simp[XY,ag,X,hi];rw[Jd];simp[XY];rw[Jd];simp[XY];rw[Ja];simp[XY,ao,X,o1,o4];rw[Ja];simp[XY,f0];refine Je (JkB TS ho) ?_;rintro _ _ ⟨rfl,rfl⟩;simp[XY];rw[Ja];simp[XY,f0];refine Je (Jnh TS a1) ?_;rintro _ Sa ⟨_,ga,e,rfl,nv,kv,rfl,x1,x2⟩;rw[a2]at x1 x2⊢;obtain⟨N,hN⟩:∃N,N=z[l]:=⟨_,rfl⟩
  rw[<-hN]at x1 x2⊢;have a3:NdC (fun r=>S.A r= .none) Sa [.d .i64 N.a,ofL N.d,nv,kv] N:=⟨nv,kv,rfl,x1,x2⟩
  have q1:=x1.A;have q2:=x1.B;have q3:=x2.A;have q4:=x2.B;obtain⟨nA,aq⟩:=nxE Sa;simp[XY,aq,q2,q4];obtain⟨pa,ar⟩:=exE (up 0 nA);obtain⟨Sb,Y⟩:=exE ((Sa.B fun t=> .a t [.d .i64 0,ofL [], .e, .e]).D (up 0 nA) Sa.t fun u=> .a u [.d .i64 N.a,ofL N.d,nv,kv]);have gb:Gr Sa Sb:=by rw[Y];exact(Gr.F ga.D).M aq (Jc _) (Jc _)
  obtain⟨a7,rb⟩:∃t,Sb.A pa= .a t [.d .i64 N.a,ofL N.d,nv,kv]:=⟨_,by rw[Y,ar];simp[XZ];rfl⟩
  rw[<-Y,<-ar];clear Y;have ai:=ga.A gb;have TB:TabU Sb s n b:=TS.A ai;rw[Jd,Ja];simp[XY,f0];refine Je (JkB TB ho) ?_;rintro _ _ ⟨rfl,rfl⟩;simp[XY];rw[Ja];simp[XY];have aj:=ai.B r7;have wb:=gb.D;obtain⟨nB,ak⟩:=nxE Sb;have ob:=fun k=>nes (Jt wb ak (Jb aj) k);simp[XY,T,aj,rb,ak,q2,q4];have Fb:=hF.F (C:=NdC) NdC.A ai;have gn:Gr Sb (Sb.B fun t=> .a t [.d .i64 N.a,ofL N.d,nv,kv]):=Gr.G wb (Jc _);have Fg:=Fb.F (C:=NdC) NdC.A gn;have Z:=QE (st:=Sb) (z:=4) (e:=[.d .i64 N.a,ofL N.d,nv,kv]) rfl;rw[ak]at Z;refine JmW (C:=NdC) NdC.A Fg Z (by simp only[Kc,ZG,Hk,q2,q4];rfl) (a3.A fun r p e=>⟨⟨fun q=>hF.d r (B3 r q) p,fun e=>hF.A e p⟩,(gb.A gn).d r e⟩) B3 (by grind) fun Sf vf Ff kp=> ?_;rw[hN,<-Xn ap]at Ff;have d5:=Ff.J;have rg:=gn.B aj;have rf:=(kp P (Jb rg) fun e=>B3 P B7 (hF.j _ e)).trans rg;simp[XZ,T,X,rf,ah,d5.1,d5.2];exact⟨j-1,by omega,hL _ _ _ ⟨l+1,vf,_,by omega,f0,f1,T,ao,ag,rfl,Ff.I (C:=NdC) NdC.A B7 e7 (B3 _ B7) rf,Jh _ _ _ _⟩⟩
 rintro Q S4 ⟨w,t,f1,T,hF,r7⟩;obtain⟨es,x1,x2,x3⟩:=hF.G (C:=NdC) NdC.A B3;have au:∀r,¬B r->v.A r= .none:=fun r m=>Xd fun e=>m ((af _).2 (.inl e));rw[Ja];simp[XY,f1,T,r7];refine Je (hB S4 _ hF.g ⟨w,i,es,rfl,x1.D fun r p e=>⟨hT.G (au r p),rfl⟩,x2,fun l a q=>(x3 l a q).A fun r p e=>⟨hT.G (au r p),rfl⟩,y.I hF.g⟩) ?_;rintro _ S5 ⟨C5,W5,T5,K5,rfl⟩;simp[XZ];exact Ans.D hF.g ⟨C5,W5,T5,K5,rfl⟩
end Go.Proofs.YtdajkeoobbonjaaGreat
