/- A schema of one's own. Templates made of raw nodes. Sets of any templates, checked. 'Si -/
import Derived.Test.YtdajkeoobbonjaaGreatQ9
set_option linter.constructorNameAsVariable false
set_option maxHeartbeats 32000000
set_option linter.unusedVariables false
set_option linter.unusedSimpArgs false
set_option linter.unusedSectionVars false
set_option maxRecDepth 100000
namespace Go.Proofs.YtdajkeoobbonjaaGreat
open Eva Go.RowKit
variable {s:Option (List Nat)}{v:List (Str×List Nod)}{e:V->St->Prop}{n:St}{t:Pt->Prop}{k:V}{z:Nat}{b:Bool}{d:List V}{i:Fr}{r:Pt}
theorem JsL {X:Ty}(o:WF n)(h:TyC t n d X)(p:fitT X=true)(q:∀k l a c m,Gr n m->a.B=true->c.B=true->e (.j [.d .i64 k,ofL l,a,c]) m):Kh (tabT tabD) b s 41 [.j d] i n e:=by
 refine KI (P:=fun v _=>∃k l a c,v= .j [.d .i64 k,ofL l,a,c]/\a.B=true/\c.B=true) (fun f w=>Jt2 (tsz X+1) X (XO _) w (h.I f) p) o (fun v m f h=>h) fun v m g h=> ?_;obtain⟨k,l,a,c,rfl,r,u⟩:=h;exact q k l a c m g r u
theorem Jf2 (h:k.B=true):k.A=some [k]:=by cases k<;>first|rfl|(cases h;done)
theorem JrF {s:Sch}(hw:WF n)(h:SchC t n d s)(a0:s.c=[])(ai:fitT s.b=true)(a2:∀p∈s.a,fitT p.2=true)(hl:s.a.length<100000):
  Dz 24 [.j d] n fun v o=>Gr n o/\∃z,v= .j z/\Box6 z:=by
 refine Jn tabM (aT Tryz.func24 rfl) rfl hw fun K a5=> ?_;obtain⟨c,tv,sv,rfl,hm,ht,aj⟩:=h;obtain⟨M,hM⟩:∃M,M=s.b:=⟨_,rfl⟩
 rw[<-hM]at hm ai;have a7:=hm;obtain⟨nv,kv,es,rfl,x1,x2,_,_⟩:=hm.B;have c1:=x1.B;have c2:=x2.B;have c3:=(LstAt.B ht).1;have c4:=(LstAt.B aj).1;have lt:=LstAt.H ht;have ls:=LstAt.H aj;rw[a0]at ls;obtain⟨n0,ak⟩:=nxE n;simp only[CT,Tryz.f24,XY,simprocAttr];rw[Ja];simp[XY,ak,c1,c2,c3,c4];generalize a8:up 0 n0=p1;generalize a9:up 1 n0=p2;refine nm2 hw ak a8 a9 ?_;intro S1 G1 bo ba bp ⟨t1,r1⟩ ⟨t2,r2⟩;rw[Ja];simp[XY,r1];refine JsL G1.D (a7.H G1) ai ?_;intro k nm a b S2 x ha hb;obtain⟨n2,al⟩:=nxE S2;simp[XY,ha,hb,al];generalize bb:up 0 n2=y;refine nmA x.D al bb ?_;intro S3 G3 u ⟨t3,r3⟩;have g3:=G1.A (x.A G3);have bc:=(x.A G3).B r1;have bq:=(x.A G3).B r2;have l0:J8 .e=some (.d .i64 0, .a):=rfl;have br:p1≠y:=fun d=>by rw[<-d,x.B r1]at u;cases u
 have bt:p2≠y:=fun d=>by rw[<-d,x.B r2]at u;cases u
 have bd:=x.B r1;have be:=x.B r2;refine Ju (fun l o=>l 1= .g p1 0/\l 2= .g p2 0/\l 3= .g y 0/\Gr S2 o/\∃f v,o.A y= .a f [.d .i64 k,ofL nm,a,b,v, .e]/\v.B=true) (fun J hJ=> ?_) ?_
 ·rw[Ja];simp[XY,bc,lt];refine Jo (fun j l o=>∃i:Nat,j+i=s.a.length/\l 1= .g p1 0/\l 2= .g p2 0/\l 3= .g y 0/\l 16=tv/\l 17= .d .i64 (s.a.length:Nat)/\l 18= .d .i64 (i:Nat)/\Gr S2 o/\∃f v es,o.A y= .a f [.d .i64 k,ofL nm,a,b,v, .e]/\SlF S2 o v 5 es/\es.length=i/\rowOf v≠some y) s.a.length (by omega) ⟨0,by omega,by simp[XZ],by simp[XZ],by simp[XZ],by simp[XZ],by simp[XZ],by simp[XZ]<;>rfl,G3,t3, .e,[],r3,SlF.I _ _ _,rfl,fun d=>by cases d⟩ ?_;rintro L hL j l S4 ⟨i,hj,f1,f2,Y,am,Z,N,O,t4,v,bu,Q,hv,bf,ao⟩;by_cases hi:i<s.a.length;rotate_left
  ·rw[Ja];simp[XZ,Z,N,hi];exact hJ _ _ ⟨f1,f2,Y,O,t4,v,Q,hv.D.B⟩
  have ap:=wiN (i:=i) (by omega);obtain⟨r,q,d,a1,_,a3,a4,⟨c5,rfl,hT⟩,_⟩:=LstAt.A ht hi;have hf:=a2 _ (Xh hi);generalize s.a[i]=ty at a4 hT hf;have aq:=hT;obtain⟨X,hX⟩:∃X,X=ty.2:=⟨_,rfl⟩
  rw[<-hX]at hT aq hf;obtain⟨bv,bw,_,rfl,y1,y2,_,_⟩:=hT.B;have g4:=(G1.A x).A O;have ar:=a4;rw[<-g4.d r a3]at ar;have z1:=y1.B;have z2:=y2.B;obtain⟨n4,au⟩:=nxE S4;rw[Ja];simp[XY,Z,N,hi];rw[Jd];simp[XY];rw[Jd];simp[XY];rw[Ja];simp[XY,am,N,a1,ar,au,z1,z2];generalize bg:up 0 n4=p5;refine nmAW (R:=fun o=>wW _ o _) O.D au bg ?_;intro S5 G5 bx ⟨t5,r5⟩;have av:=G5.B Q;simp[XY,Y,r5,av];refine JsL G5.D (aq.H (g4.A G5)) hf ?_;intro k6 T a6 b6 S6 G6 aw ax;have aa:=G6.B av;obtain⟨n6,ab⟩:=nxE S6;have o6:=fun k=>nes (Jt G6.D ab (Jb aa) k);simp only[XY,simprocAttr,aw,ax,ab,aa,o6];obtain⟨x7,ay⟩:=exE (up 0 n6);obtain⟨S7,U⟩:=exE (S6.B fun f=>Row.a f [ofL ty.1, .d .i64 k6,ofL T,a6,b6]);have G7:Gr S6 S7:=by rw[U];exact Gr.G G6.D (Jc _)
  obtain⟨t7,r7⟩:∃f,S7.A x7= .a f [ofL ty.1, .d .i64 k6,ofL T,a6,b6]:=⟨_,by rw[U,ay];exact Qi ab _⟩
  rw[<-U,<-ay];clear U;have ad:=G5.A (G6.A G7);have hx:SlAt (fun _=>True) S7 (.m x7 0 1 5 1) 5 [[ofL ty.1, .d .i64 k6,ofL T,a6,b6]]:=SlAt.J (es:=[[ofL ty.1, .d .i64 k6,ofL T,a6,b6]]) (t:=t7) (by rw[r7];simp) trivial (by simp);refine Qj (S0:=S2) (O.A ad) (hv.G ad) hx (fun d he=>by rw[Xj.1 he];simp[J9,Kv,jT,jS,aw,ax]) (by simp) (by simp;omega) fun S8 v8 G8 w ae W=> ?_;have af:=G7.B aa;have ag:=(W y (Jb af) ao).trans af;have bh:=w.D.B;have bi:=w.D.A;have az:rowOf v8≠some y:=fun d=>by
   rcases ae with h|h
   ·exact ao (h▸d)
   ·rw[h]at d;injection d with d;have:=J6 (O.A ad).D;rw[d,af]at this
    cases this
  simp[XZ,Y,ag,bh,bi,N,ap];exact⟨s.a.length-(i+1),by omega,hL _ _ _ ⟨i+1,by omega,f1,f2,Y,am,Z,rfl,Gr.J G8 u (Jb ag) (by rw[ag];rfl) (Jc _),_,v8,_,Jh _ _ _ _,w.B fun r h=>Jj _ _ _ fun d=>az (by rw[h,d]),by simp[bf],az⟩⟩
 rintro l S4 ⟨f1,f2,Y,O,t4,v,Q,ah⟩;have bj:=O.B bd;have bk:=O.B be;have g4:=(G1.A x).A O;rw[Jd,Ja];simp[XY,f1,bj,ls];refine Jo (fun j l o=>o=S4/\l 2= .g p2 0/\l 3= .g y 0/\l 36= .d .i64 0/\l 37= .d .i64 0) 0 (by omega) ⟨rfl,by simp[XZ,f2],by simp[XZ,Y],by simp[XZ],by simp[XZ]⟩ ?_;rintro L hL j l S5 ⟨bl,f2,Y,bm,bn⟩;obtain rfl:=bl.symm;simp[XZ,f2,Y,bm,bn,Q,bk,ha,hb,ah];exact a5 _ _ (fun r d=>by rw[Jj _ _ _ (fun h=>d (by rw[h];exact ba)),g4.d r d]) fun _=>⟨_,rfl,_,_,_,_,_,_,rfl,⟨rfl,rfl⟩,⟨rfl,rfl⟩,⟨ha,Jf2 ha⟩,⟨hb,Jf2 hb⟩,⟨ah,Jf2 ah⟩,⟨rfl,rfl⟩⟩
def Tmp3 (ts:List (Str×List Nod)):Prop:=ts.map (·.1)=[[],[116],[117]]/\∀t∈ts,fitL (fitP 3) 4 t.2/\sizL 4 t.2<90000
def AccT (S S':St)(v:V)(i:Nat):Prop:=∃(es:List (List V)) (ts:List (Str×List Nod)),Gr S S'/\SlF S S' v 2 es/\es.length=i/\ts.length=i/\ts.map (·.1)=([[],[116],[117]]:List Str).take i/\(∀j (h:j<es.length) (h':j<ts.length),CasC (NodC (fun r=>S.A r= .none/\rowOf v≠some r) S' 3 4) (fun r=>S.A r= .none/\rowOf v≠some r) S' es[j] ts[j])/\∀t∈ts,fitL (fitP 3) 4 t.2/\sizL 4 t.2<90000
theorem AccT.A {S S' c:St}{v:V}{i:Nat}(h:AccT S S' v i)(g:Gr S' c):AccT S c v i:=by
 obtain⟨d,e,f,k,l,m,n,o,p⟩:=h;exact⟨d,e,f.A g,k.G g,l,m,n,fun j a b=>(o j a b).A (fun _ _ h=>NodC.A g.H h) g.H,p⟩
theorem JrG {l:List R10}(h:l.length<=6)(k:∀x∈l,sz10 x<=14):KA l<=84:=by
 have:=JlD (f:=sz10) (b:=14) k;have:KA l<=l.length*14:=this;omega
theorem JtC {sc:Sch}{q:Tb}{u:V}{P:List (List R10)}(hD:DT (fun _=>False) n t r sc q)(hO:OfF sc q)(bm:sc.c=[])(aw:∀nd∈q.a,nd.b.length<=4)(bn:q.b<q.a.length)(hr:jJ (fun _=>True) n u P)(hs:∀f∈P,f.length<=6/\∀x∈f,sz10 x<=14)(ce:P.length<=4):
  Dz 7 [.g r 0,u, .e] n fun v W=>Gr n W/\∃ts,TmpC (fun f=>n.A f= .none) W 3 4 v ts/\Tmp3 ts:=by
 have hw:=hD.wf;refine Jn tabM (aT Tryz.func7 rfl) rfl hw fun K bo=> ?_;obtain⟨us,u1,u2,u3⟩:=hr;have aj:=u1.G;rw[u2]at aj;obtain⟨cf,lv,tv,k0,cg,nv,kv,ak,sv,dv,ag,bp⟩:∃o lv tv k0 nm nv kv ak sv dv ag,n.A r= .a o [lv,tv,k0,nm,nv,kv,ak,sv,dv, .d .i64 (q.b:Nat),ag]:=by
  obtain⟨T,lv,tv,dv,nv,kv,sv,ak,O,tr,ch,N,_⟩:=hD.i;obtain⟨o,c⟩:=N.a.d;exact⟨o,_,_,_,_,_,_,_,_,_,_,c⟩
 obtain⟨n0,ax⟩:=nxE n;simp only[CT,Tryz.f7,XY,simprocAttr];rw[Ja];simp[XY];rw[Ja];simp[XY,ax];generalize bq:up 0 n0=X;refine nm1 hw ax bq ?_;intro S1 G1 cj ⟨tn,rn⟩;have ah:=G1.B bp;obtain⟨n1,al⟩:=nxE S1;have o1:=fun k=>nes (Jt G1.D al (Jb ah) k);rw[Ja];simp[XY,ah,al];generalize br:up 0 n1=Y;refine nm1 G1.D al br ?_;intro S2 G2 ck ⟨td,rd⟩;have g2:=G1.A G2;have ay:=G2.B rn;have hN:∀{A:St},A.A X=S2.A X->SlAt (fun _=>True) A (.m X 0 3 1 3) 1 (strs [[],[116],[117]]):=fun e=>SlAt.J (es:=[[ofL []],[ofL [116]],[ofL [117]]]) (t:=tn) (by rw[e,ay];simp) trivial (by simp);have hT:∀{A:St},A.A Y=S2.A Y->SlAt (fun _=>True) A (.m Y 0 3 1 3) 1 (ints [q.b,q.b,q.b]):=fun e=>SlAt.J (es:=[[.d .i64 (q.b:Nat)],[.d .i64 (q.b:Nat)],[.d .i64 (q.b:Nat)]]) (t:=td) (by rw[e,rd];simp) trivial (by simp);have bt:S2.A X≠ .none:=Jb ay;have bu:S2.A Y≠ .none:=Jb rd;have l0:J8 .e=some (.d .i64 0, .a):=rfl;rw[Jd,Ja];simp[XY];refine Jo (fun j s W=>W=S2/\s 0= .g r 0/\s 1=u/\s 2= .e/\s 7= .m X 0 3 1 3/\s 8= .m Y 0 3 1 3/\s 9= .d .i64 1) 1 (by omega) ⟨rfl,by simp[XZ],by simp[XZ],by simp[XZ],by simp[XZ],by simp[XZ],by simp[XZ]⟩ ?_;rintro L hL j s W ⟨hS,f0,f1,f2,f7,f8,f9⟩;obtain rfl:=hS.symm;rw[Jd,Ja];simp[XY,f2,f9,l0];rw[Ja];simp[XY];refine Ju (fun s W=>∃v,s 10=v/\AccT n W v 3) (fun J hJ=> ?_) ?_;rotate_left
 ·rintro s S3 ⟨v,bw,es,ts,h1,h2,h3,h4,h5,h6,h7⟩;rw[Ja];simp[XZ,bw];exact bo _ _ h1.d fun _=>⟨ts,⟨es,h2.D,by rw[h3,h4],fun j a b=>(h6 j a b).A (fun _ _ h=>NodC.A (fun f p _=>⟨p.1,rfl⟩) h) fun f p _=>⟨p.1,rfl⟩⟩,h5,h7⟩
 rw[Ja];simp[XY];refine Jo (fun j s W=>∃(i:Nat) (v:V),j+i=3/\s 0= .g r 0/\s 1=u/\s 7= .m X 0 3 1 3/\s 8= .m Y 0 3 1 3/\s 10=v/\s 11= .d .i64 (i:Nat)/\(W.A X=S2.A X/\W.A Y=S2.A Y/\rowOf v≠some X/\rowOf v≠some Y)/\AccT n W v i) 3 (by omega) ⟨0, .e,by omega,by simp[XZ,f0],by simp[XZ,f1],by simp[XZ,f7],by simp[XZ,f8],by simp[XZ],by simp[XZ]<;>rfl,⟨rfl,rfl,fun e=>(by cases e),fun e=>(by cases e)⟩,[],[],g2,SlF.I _ _ _,rfl,rfl,rfl,fun j h=>absurd h (XH j),by simp⟩ ?_;rintro L2 bx j2 cl S3 ⟨i,v,cm,g0,g1,g7,g8,aa,M,⟨kn,kd,vn,vd⟩,hA⟩;by_cases hi:i<3;rotate_left
 ·have am:¬(i:Int)<3:=by omega
  simp[XZ,M,am];have:i=3:=by omega
  subst this;exact hJ _ _ ⟨v,aa,hA⟩
 have am:(i:Int)<3:=by omega
 have az:=wiN (i:=i) (by omega);have g3:Gr n S3:=hA.choose_spec.choose_spec.1;obtain⟨n',cn,ao,_⟩:=JbM (hN kn) (k:=1) (by decide);obtain⟨t',ct,ap,_⟩:=JbM (hT kd) (k:=1) (by rw[JP];exact Nat.le_of_ble_eq_true rfl);have a2:=ao.B;have a4:=ap.B;have a6:=ao.A;have a7:=ap.A;obtain⟨n3,a8⟩:=nxE S3;rw[Jd,Ja];simp[XY,M,am];rw[Jd];simp[XY];have bz:QG S3 1 (.m X 0 3 1 3) (some (.d .i64 1)) none none=some (n', .a):=cn;have b0:QG S3 1 (.m Y 0 3 1 3) (some (.d .i64 1)) none none=some (t', .a):=ct;rw[Ja];simp[XY,g0,g7,g8,bz,b0,a2,a4,a6,a7,a8];generalize a9:up 0 n3=ba;refine nm1 g3.D a8 a9 ?_;intro S4 G4 cd ⟨b3,b4⟩;have g4:=g3.A G4;have M4:MkS (fun _=>False) t r ba sc q S4:=⟨hD.B g4,hO,bm,aw,b3,n',t',b4,[[116],[117]],[q.b,q.b],ao.D fun f p e=>⟨p,G4.d f e⟩,ap.D fun f p e=>⟨p,G4.d f e⟩,rfl,by decide,by decide⟩
 have K4:MEnv q 3 ⟨q.b,[],[]⟩:=⟨⟨bn,(fun x hx=>by cases hx),(fun x hx=>by cases hx),Gw _,Gw _⟩,XC _,Nat.le_of_lt_succ (by show 0+3<11;decide)⟩
 have E4:EnvC (fun _=>False) S4 [.d .i64 (q.b:Nat), .e, .e] ⟨q.b,[],[]⟩:=⟨.e, .e,rfl,SlAt.K _ _ _,LstAt.F⟩
 obtain⟨bb,qd,x1,_,x3,_,x5⟩:=(hT kd).H (i:=i) (by rw[JP];exact hi);have x0:ld1 (S4.A bb) qd=some (.d .i64 (q.b:Nat), .a):=by
  have h:(ints [q.b,q.b,q.b])[i]'(by rw[JP];exact hi)=[.d .i64 (q.b:Nat)]:=by
   have:∀e∈ints [q.b,q.b,q.b],e=[V.d .i64 (q.b:Nat)]:=by simp[ints]
   exact this _ (Xh _)
  have:=x5 0 (by rw[h];simp);simp[h]at this;rw[G4.d bb x3];exact this
 rw[Ja];simp[XY,g8,M,x1,x0];rw[Ja];simp[XY];refine Ju (fun s W=>W=S4/\s 0= .g r 0/\s 1=u/\s 7= .m X 0 3 1 3/\s 8= .m Y 0 3 1 3/\s 10=v/\s 11= .d .i64 (i:Nat)/\s 12= .g ba 0/\s 13= .d .i64 (q.b:Nat)/\∃rv Z,s 14=rv/\YA (fun _=>True) n rv Z/\KA Z<=84) (fun J4 bc=> ?_) ?_
 ·by_cases ae:i<P.length
  ·obtain⟨r',q',a1,_,a3,_,a5⟩:=u1.H (i:=i) (by omega);obtain⟨w,bd,hR⟩:=u3 i (by omega) ae;have a0:=a5 0 (by rw[bd];simp);simp[bd]at a0;rw[<-g4.d r' a3]at a0;have hm:=hs _ (Xh ae);rw[Ja];simp[XZ,g1,M,aj,ae,a1,a0];exact bc _ _ ⟨rfl,g0,g1,g7,g8,aa,M,by simp[XZ],by simp[XZ],w,_,by simp[XZ],hR,JrG hm.1 hm.2⟩
  ·rw[Ja];simp[XZ,g1,M,aj,ae];exact bc _ _ ⟨rfl,g0,g1,g7,g8,aa,M,by simp[XZ],by simp[XZ], .e,[],by simp[XZ],⟨[],SlAt.K _ _ _,rfl,by decide,fun j h=>absurd h (XH j)⟩,by decide⟩
 rintro co S5 ⟨b5,g0,g1,g7,g8,aa,M,b6,b7,rv,Z,b8,hR,cp⟩;obtain rfl:=b5.symm;rw[Ja];simp[XY,b6,b7,b8,M];refine Jb1 (Jt0 3 (by decide)) M4 E4 K4 (hR.A fun f a b=>⟨trivial,g4.d f b⟩) ?_;rintro bv S6 G6 ⟨l,l1,l2,l3,l4⟩ b1 b2;have h9:sizL 4 l<90000:=by
  have l4:sizL 4 l<=4^3*KA Z:=l4;have:(4^3*KA Z:Nat)=64*KA Z:=rfl;omega
 simp[XY,M];generalize IntKind.i64.wrap (100*(i:Int))=ab;refine Je (Jr2 3 4 (fun f=>S4.A f= .none) S6 bv l ab (fitP 3) G6.D (NodsC.A l1 fun f p e=>⟨p.elim (fun p=>p.elim) id,rfl⟩) l2) ?_;rintro _ S7 ⟨G7,w,rfl,be⟩;have bf:=g4.A (G6.A G7);have aq:=G4.A (G6.A G7);obtain⟨bg,b9,y1,_,y3,_,y5⟩:=(hN kn).H (i:=i) (by rw[Jv];exact hi);obtain⟨y,bh,y0⟩:∃y,([[],[116],[117]]:List Str)[i]? =some y/\ld1 (S7.A bg) b9=some (ofL y, .a):=by
  refine⟨([[],[116],[117]]:List Str)[i]'hi,Xg hi, ?_⟩;have bi:(strs [[],[116],[117]])[i]'(by rw[Jv];exact hi)=[ofL (([[],[116],[117]]:List Str)[i]'hi)]:=by simp only[strs,X6]
  have:=y5 0 (by rw[bi];simp);simp only[bi,Hl,GI]at this;rw[aq.d bg y3];exact this
 have ar:=LstAt.B be;obtain⟨n7,au⟩:=nxE S7;simp only[XY,simprocAttr,g7,aa,M,y1,y0,ar.1,ar.2,au];obtain⟨x8,av⟩:=exE (up 0 n7);obtain⟨S8,af⟩:=exE (S7.B fun o=>Row.a o [ofL y,w]);have G8:Gr S7 S8:=by rw[af];exact Gr.G bf.D (Jc _)
 obtain⟨t8,r8⟩:∃o,S8.A x8= .a o [ofL y,w]:=⟨_,by rw[af,av];exact Qi au _⟩
 rw[<-af,<-av];clear af;have cq:S7.A x8= .none:=by rw[av];exact nx0 bf.D au 0
 have bj:=aq.A G8;obtain⟨es,ts,q1,q2,q3,q4,q5,q6,q7⟩:=hA.A bj;have ai:∀f,rowOf v=some f->S3.A f≠ .none:=by
  obtain⟨_,_,_,w2,_⟩:=hA;exact fun f h=>w2.A h
 have hx:SlAt (fun _=>True) S8 (.m x8 0 1 2 1) 2 [[ofL y,w]]:=SlAt.J (es:=[[ofL y,w]]) (t:=t8) (by rw[r8];simp) trivial (by simp);have cr:∀f,S7.A f= .none->rowOf v≠some f:=fun f e h=>ai f h (aq.I e);refine Qj (S0:=n) q1 q2 hx (fun e he=>by rw[Xj.1 he];simp[J9,Kv,jT,ar.1]) (by simp) (by simp;omega) fun S9 v9 G9 bk ad Q=> ?_;have n8:S8.A S8.b= .none:=J6 q1.D;have bl:∀f,S3.A f≠ .none->rowOf v≠some f->S9.A f=S3.A f/\rowOf v9≠some f:=fun f e h=>by
  have e8:=bj.d f e;refine⟨by rw[Q f (by rw[e8];exact e) h,e8],fun h9=> ?_⟩;rcases ad with h'|h'
  ·exact h (h'▸h9)
  ·rw[h']at h9;injection h9 with h9;exact e (e8.symm.trans (by rw[<-h9];exact n8))
 have ca:S3.A X≠ .none:=by rw[kn];exact bt
 have cb:S3.A Y≠ .none:=by rw[kd];exact bu
 obtain⟨z1,z2⟩:=bl X ca vn;obtain⟨z3,z4⟩:=bl Y cb vd;have U:∀f,S8.A f≠ .none->rowOf v≠some f->S9.A f=S8.A f/\rowOf v9≠some f:=fun f e h=>⟨Q f e h,fun h9=>by
  rcases ad with h'|h'
  ·exact h (h'▸h9)
  ·rw[h']at h9;injection h9 with h9;exact e (h9▸n8)⟩
 simp[XZ,M,az];refine⟨3-(i+1),by omega,bx _ _ _ ⟨i+1,v9,by omega,g0,g1,g7,g8,rfl,rfl,⟨z1.trans kn,z3.trans kd,z2,z4⟩,es++[[ofL y,w]],ts++[(y,(plcL l ab).1)],G9,bk,by simp[q3],by simp[q4], ?_,fun j a b=> ?_,fun o ht=> ?_⟩⟩
 ·rw[ZA,q5,XK,List.map_nil,Zy,bh];rfl
 ·by_cases c:j<es.length
  ·have c':j<ts.length:=by omega
   rw[Xw c,Xw c'];have z:∀f,(n.A f= .none/\rowOf v≠some f)->S8.A f≠ .none->(n.A f= .none/\rowOf v9≠some f)/\S9.A f=S8.A f:=fun f p e=>⟨⟨p.1,(U f e p.2).2⟩,(U f e p.2).1⟩
   exact(q6 j c c').A (fun _ _ h=>NodC.A z h) z
  ·have hj:j=es.length:=by simp at a;omega
   subst hj;have he:(es++[[ofL y,w]])[es.length]'a=[ofL y,w]:=by simp
   have cc:(ts++[(y,(plcL l ab).1)])[es.length]'b=(y,(plcL l ab).1):=by rw[XL (by omega)];simp[q3,q4]
   rw[he,cc];refine⟨w,rfl,NodsC.A be fun f p e=> ?_⟩;have p:S4.A f= .none:=p.elim id fun p=>G6.I p;have hv:rowOf v≠some f:=fun h=>ai f h (G4.I p);have e8:S8.A f≠ .none:=by rw[G8.d f e];exact e
   exact⟨⟨g4.I p,(U f e8 hv).2⟩,(U f e8 hv).1.trans (G8.d f e)⟩
 ·rcases Xs.1 ht with ht|ht
  ·exact q7 o ht
  ·rw[Xj.1 ht];exact⟨Jp5 l2,by show sizL 4 (plcL l ab).1<90000;rw[Jp6];exact h9⟩
def tmE (x:Str×V):List V:=[ofL x.1,x.2]
def nmE (x:Str×V):List V:=[ofL x.1]
def bodT (ts:List (Str×List Nod))(n:Str):List Nod:=(ts.lookup n).getD []
noncomputable def rowT (ts:List (Str×List Nod))(tb:Tb)(n:Str)(i:Nat):AnsR:=rowS (fun _ _ _=>(0,17)) [[116],[117]] 3 4 tb [] ⟨i,[],[]⟩ (bodT ts n)
def ChkQ (st S:St)(ts:List (Str×List Nod))(tb:Tb)(v:V):Prop:=∃r,ChkR (rowT ts) tb [([],tb.b)] 0 r/\((∃e n a,r= .inr (e,n,a)/\e≠0/\v= .p [.s, .j [.d .i64 e,ofL n, .d .i64 a]])\/∃tb' ps p t y0 y1 y2 y3 y4 y5 tv rt U pv,r= .inl (tb',ps)/\v= .p [.g p 0, .j [.d .i64 0,ofL [], .d .i64 0]]/\S.A p= .a t [y0,y1,y2,y3,y4,y5,tv, .g rt 0,pv]/\TabU S U rt tb'/\tb'.b=tb.b/\TmpC (fun _=>True) S 3 4 tv ts/\SlAt (fun _=>True) S pv 2 (clsE ps)/\ps.Nodup/\ps[0]? =some ([],tb.b)/\ps.length<=360)
theorem Jnc {a:List Nd}{X:Ty}(h:Ki a X=some z):z<a.length:=by
 obtain⟨k,n,f,c⟩:=X;rw[Ki]at h
 cases e:JS a c with
 |none=>rw[e]at h;cases h
 | some d=>
   rw[e]at h;obtain⟨_,b⟩:=jG h;exact(Xx.1 b).1
theorem JsM {l:Tb}(h:TabU n t r l)(m:∀k,Gr n k->e (.d .i64 (l.b:Nat)) k):Kh (tabT tabD) b s 11 [.g r 0] i n e:=by
 refine KI (P:=fun v _=>v= .d .i64 (l.b:Nat)) (fun f w=> ?_) h.1 (fun v k f h=>h) fun v k g h=> ?_
 ·obtain⟨_,⟨W,F,⟨o,p,u,x,z,J,y⟩,_⟩,_⟩:=h;obtain⟨j,c⟩:=y.s;have c:({n with a:=f}:St).A r= .a j [o, .q p, .q u, .d .i64 l.b, .q x]:=c;refine Jl (aT Tryz.func11 rfl) rfl ?_;simp only[CT,Tryz.f11,XZ,simprocAttr,c];exact Gr.F w
 ·subst h;exact m k g
theorem Qg {Q:Pt->Prop}{b:St}{d:Nat}(h:TmpC t n z d k v)(a:∀r,t r->n.A r≠ .none->Q r/\b.A r=n.A r):TmpC Q b z d k v:=LstAt.G h (fun _ _ h=>CasC.A h (fun _ _ h=>NodC.A a h) a) a
theorem Jlw {s:Sch}{tb:Tb}(hw:WF n)(hs:SchC (fun _=>True) n d s)(b6:s.c=[])(du:newS s=(some tb,0))(hl:TmpC (fun _=>True) n 3 4 k v)(h3:Tmp3 v):
  Dz 8 [.j d,k] n fun w S=>Gr n S/\ChkQ n S v tb w:=by
 refine Jn tabM (aT Tryz.func8 rfl) rfl hw fun K dv=> ?_;obtain⟨_,hO⟩:=Jm3 du;obtain⟨k1,k2,_⟩:=JfH hO.l.d;have k3:=(qr hO.l.d).1;have fm:v.length=3:=by
  have:=congrArg List.length h3.1
  rwa [Xr]at this
 obtain⟨z0,z1,z2,z3,z4,z5,rfl,⟨a0,b0⟩,⟨a1,b1⟩,⟨a2,b2⟩,⟨a3,b3⟩,⟨a4,b4⟩,a5,b5⟩:=Jit hs;have gy:=LstAt.B hl;obtain⟨n0,dw⟩:=nxE n;simp only[CT,Tryz.f8,XY,simprocAttr];rw[Ja];simp[XY,dw,a0,a1,a2,a3,a4,a5,b0,b1,b2,b3,b4,b5];generalize fn:up 0 n0=p2;generalize fo:up 1 n0=p5;refine nm2 hw dw fn fo ?_;intro S1 G1 gz fp _ ⟨t2,r2⟩ ⟨t5,r5⟩;rw[Ja];simp[XY,r2];refine Je (newU G1.D (hs.A G1.H) b6) ?_;rintro _ S2 ⟨G2,hN⟩;rw[du]at hN;obtain⟨rt,U0,rfl,hT,hU⟩:=hN;have g2:=G1.A G2;simp[XY];rw[Jd,Ja];simp[XY];rw[Ja];simp[XY,G2.B r2];refine Je (JrF g2.D (hs.A g2.H) b6 k2 (fun p hp=>(k1 p hp).1) (by omega)) ?_;rintro _ S3 ⟨G3,z,rfl,y0,y1,y2,y3,y4,y5,rfl,⟨c0,d0⟩,⟨c1,d1⟩,⟨c2,d2⟩,⟨c3,d3⟩,⟨c4,d4⟩,c5,d5⟩;have g3:=g2.A G3;simp[XY];refine Je (Js2 (P:=fun r=>n.A r≠ .none) g3.D (Qg hl fun r _ d=>⟨d,g3.d r d⟩) (by omega) (fun t h=>(h3.2 t h).1)) ?_;rintro tv S4 ⟨G4,dx⟩;have g4:=g3.A G4;have co:=LstAt.B dx;simp[XY];refine JsM (hT.A (G3.A G4)) ?_;intro S5 G5;have g5:=g4.A G5;obtain⟨n5,dy⟩:=nxE S5;simp[XY,dy,c0,c1,c2,c3,c4,c5,d0,d1,d2,d3,d4,d5,co.1,co.2];generalize fq:up 0 n5=q0;generalize fs:up 1 n5=ps;refine nm2 G5.D dy fq fs ?_;intro S6 G6 dz b7 dq ⟨tq,rq⟩ ⟨tp,rp⟩;obtain⟨n6,cw⟩:=nxE S6;rw[Ja];simp[XY,cw];generalize d6:up 0 n6=rb;rw[Ja];simp[XY];refine YW ?_;intro S7 cx;have G7:Gr S6 S7:=by rw[cx];exact Gr.G G6.D (Qb _)
 have b8:S6.A rb= .none:=by rw[<-d6];exact nx0 G6.D cw 0
 obtain⟨tm,mb⟩:∃t,S7.A rb= .b t []:=⟨_,by rw[cx,<-d6,<-cw];exact JI _ _⟩
 clear cx;have g7:=g5.A (G6.A G7);obtain⟨l0,l1,l2,rfl⟩:∃l0 l1 l2,v=[([],l0),([116],l1),([117],l2)]:=by
  have h:=h3.1
  match v,fm,h with
  | [(a,l0),(b,l1),(c,l2)],_,h=>
    simp at h;obtain⟨rfl,rfl,rfl⟩:=h;exact⟨l0,l1,l2,rfl⟩
 obtain⟨v0,v1,v2,cy,w0,w1,w2⟩:∃v0 v1 v2,SlAt (fun _=>True) n k 2 ([([],v0),([116],v1),([117],v2)].map tmE)/\NodsC (fun _=>True) n 3 4 v0 l0/\NodsC (fun _=>True) n 3 4 v1 l1/\NodsC (fun _=>True) n 3 4 v2 l2:=by
  obtain⟨es,e1,e2,e3⟩:=hl
  match es,e2,e1,e3 with
  | [a,b,c],_,e1,e3=>
    obtain⟨v0,q0,w0⟩:=e3 0 (by simp) (by simp);obtain⟨v1,q1,w1⟩:=e3 1 (by simp) (by simp);obtain⟨v2,q2,w2⟩:=e3 2 (by simp) (by simp);simp at q0 q1 q2;subst q0;subst q1;subst q2;exact⟨v0,v1,v2,e1,w0,w1,w2⟩
 obtain⟨Q,ah⟩:∃l:List (Str×V),l=[([],v0),([116],v1),([117],v2)]:=⟨_,rfl⟩
 rw[<-ah]at cy;have ft:Q.length=3:=by rw[ah];rfl
 have fu:∀x∈Q,x.2.B=true/\x.2.A=some [x.2]:=by
  rw[ah];intro x hx;simp at hx;rcases hx with rfl|rfl|rfl
  ·exact LstAt.B w0
  ·exact LstAt.B w1
  ·exact LstAt.B w2
 have fv:∀i (h:i<Q.length),at_ Q[i].1 (Q.take i)=none:=by
  rw[ah];intro i h
  match i,h with
  |0,_=>rfl
  |1,_=>rfl
  |2,_=>rfl
 have d7:=cy.G;rw[Xr,ft]at d7;refine Ju (fun Y S'=>∃nv,Y 5= .g p5 0/\Y 6= .g rt 0/\Y 8= .g ps 0/\Y 9= .q rb/\Y 10=nv/\Ch (fun r=>r=rb) S7 S'/\Y5 S' rb ofL Q/\KV S' nv 1 ((Q.drop 1).map nmE)/\∀r,rowOf nv=some r->S7.A r= .none) (fun J hJ=> ?_) ?_
 ·rw[Ja];simp[XY,d7];refine Jo (fun j Y S'=>∃(i:Nat) (nv:V),j+i=3/\Y 5= .g p5 0/\Y 6= .g rt 0/\Y 8= .g ps 0/\Y 9= .q rb/\Y 10=nv/\Y 44=k/\Y 45= .d .i64 3/\Y 46= .d .i64 (i:Nat)/\Ch (fun r=>r=rb) S7 S'/\Y5 S' rb ofL (Q.take i)/\KV S' nv 1 (((Q.take i).drop 1).map nmE)/\∀r,rowOf nv=some r->S7.A r= .none) 3 (by omega) ⟨0, .e,by omega,by simp[XZ],by simp[XZ],by simp[XZ],by simp[XZ],by simp[XZ],by simp[XZ],by simp[XZ],by simp[XZ]<;>rfl,Ch.G _ G7.D,⟨tm,mb⟩,KV.I _ _,fun r d=>by cases d⟩ ?_;rintro L hL j Y S8 ⟨i,nv,hj,f5,f6,f8,f9,ab,cz,b9,bi,C8,hm,hn,bb⟩;by_cases hi:i<3;rotate_left
  ·have ca:¬(i:Int)<3:=by omega
   rw[Ja];simp[XZ,b9,bi,ca];rw[Xt (by omega)]at hm hn;exact hJ _ _ ⟨nv,f5,f6,f8,f9,ab,C8,hm,hn,bb⟩
  have ca:(i:Int)<3:=by omega
  have ai:=wiN (i:=i) (by omega);have bc:i<Q.length:=by omega
  have fw:∀r,n.A r≠ .none->S8.A r=n.A r:=fun r d=>by
   have e7:=g7.d r d;rw[C8.d r (by rw[e7];exact d) fun x=>d (by rw[x];exact(g5.A G6).I b8),e7]
  obtain⟨r,o,x1,_,x3,x4,_⟩:=cy.H (i:=i) (by rw[Xr];exact bc);have fx:(Q.map tmE)[i]'(by rw[Xr];exact bc)=[ofL Q[i].1,Q[i].2]:=by simp[tmE]
  rw[fx,<-fw r x3]at x4;have hx:=fu _ (Xh bc);have da:=fv i bc;have av:Y4 Q[i].1 Q[i].2 (Q.take i)=Q.take (i+1):=by rw[qc (JbR (i:=0) da),Zy,Xg bc];rfl
  have d8:0<i->((Q.take (i+1)).drop 1).map nmE=((Q.take i).drop 1).map nmE++[[ofL Q[i].1]]:=fun h=>by
   rw[Zy,Xg bc,ZW (by rw[XS];omega)];simp[nmE]
  have g0:i=0->((Q.take (i+1)).drop 1).map nmE=((Q.take i).drop 1).map nmE:=fun h=>by subst h;simp
  generalize Q[i]=x at x4 hx da av d8;obtain⟨n8,cb⟩:=nxE S8;rw[Ja];simp[XY,b9,bi,ca];rw[Jd];simp[XY];rw[Jd];simp[XY];rw[Ja];simp[XY,cz,bi,x1,x4,cb,hx.1,hx.2];generalize d9:up 0 n8=fy;refine nmA C8.D cb d9 ?_;intro S9 G9 gx ⟨g1,bj⟩;obtain⟨ea,bk⟩:=hm.B (G9.d rb hm.A);have db:Q9 S9 (.a .s) .e true (.q rb) (ofL x.1)=some (.p [.e, .h false], .a):=by
   rw[K0 (enc:=ofL) ⟨ea,bk⟩ .e true x.1 (fun p _=>Jcl _ _) rfl,da];rfl
  have cc:JdK S9 (.a .s) (.q rb) (ofL x.1) x.2=some (JY, .d rb ea fun u=> .b u ((Q.take (i+1)).map fun p=>(ofL p.1,p.2))):=by
   rw[jD (enc:=ofL) bk x.1 x.2 (fun p _=>Jcl _ _) rfl,av]
  rw[Jd,Ja];simp[XY,f9,bj,db];rw[Ja];simp[XY,f9,bj,cc];refine YW ?_;intro af a6;have cd:Ch (fun r=>r=rb) S7 af:=by rw[a6];exact(C8.I G9).J (by rw[bk];simp) (by rw[bk];rfl) (.inl rfl) (Qb _)
  have bl:Y5 af rb ofL (Q.take (i+1)):=⟨S9.t,by rw[a6,Jh,List.map_take]⟩
  have eb:∀r,r≠rb->af.A r=S9.A r:=fun r d=>by rw[a6];exact Jj _ _ _ d
  clear a6;have dc:=(eb fy fun d=>by rw[d,bk]at bj;cases bj).trans bj;have ec:∀r,rowOf nv=some r->r≠rb:=fun r d x=>by rw[x]at d;have:=bb _ d;rw[mb]at this;cases this
  have ao:KV af nv 1 (((Q.take i).drop 1).map nmE):=hn.F fun r d=>(eb r (ec r d)).trans (G9.d r (hn.A d));by_cases h0:i=0
  ·rw[Ja];simp[XZ,h0,bi];exact⟨2,by omega,hL _ _ _ ⟨1,nv,by omega,f5,f6,f8,f9,ab,cz,b9,rfl,cd,by subst h0;exact bl,by subst h0;simpa using ao,bb⟩⟩
  have fz:0<i:=by omega
  obtain⟨ed,bm⟩:=nxE af;rw[Ja];simp[XY,fz,ab,dc,bm];refine JcM (e:=[ofL x.1]) cd.D bm ao rfl rfl (by simp;omega) ?_;intro ce f0 ee ef f1;simp[XZ,bi,ai];rw[<-d8 (by omega)]at ef;exact⟨3-(i+1),by omega,hL _ _ _ ⟨i+1,f0,by omega,f5,f6,f8,f9,rfl,cz,b9,rfl,cd.A ee fun r d=> .inr (bb r d),bl.B (ee.d rb bl.A fun d=>ec rb d rfl),ef,fun r d=>(Ch.B cd (f1 r d))⟩⟩
 rintro Y S8 ⟨nv,f5,f6,f8,f9,ab,C8,cf,cb,bb⟩;have k8:∀r,S6.A r≠ .none->S8.A r=S6.A r:=fun r d=>by
  have e7:=G7.d r d;rw[C8.d r (by rw[e7];exact d) fun x=>d (by rw[x];exact b8),e7]
 have dd:=(k8 ps (Jb rp)).trans rp;have de:=(k8 q0 (Jb rq)).trans rq;have w8:=C8.D;obtain⟨n8,ap⟩:=nxE S8;have o1:=fun M=>nes (Jt w8 ap (Jb dd) M);have o2:=fun M=>nes (Jt w8 ap (Jb de) M);obtain⟨A0,cg⟩:∃A,A=S8.B fun t=> .b t []:=⟨_,rfl⟩
 have GA:Gr S8 A0:=by rw[cg];exact Gr.G w8 (Qb _)
 have cj:A0.A (up 0 n8)= .b S8.t []:=by rw[cg,<-ap];exact JI _ _
 have cc:JdK A0 (.b [.s, .i]) (.q (up 0 n8)) (.j [ofL [], .d .i64 (tb.b:Nat)]) (.d .i64 1)=some (JY, .d (up 0 n8) S8.t fun u=> .b u ((Y4 (([],tb.b):Str×Nat) (.d .i64 1) []).map fun p=>(encS p.1,p.2))):=
  jD (enc:=encS) (es:=[]) cj ([],tb.b) (.d .i64 1) (fun p hp=>by cases hp) rfl
 rw[Ja];simp only[XY,simprocAttr,f8,ap,o1,o2,dd,de];rw[<-cg,cc];simp only[XY,simprocAttr];refine YW ?_;intro S9 df;obtain⟨T,bd⟩:=exE (up 0 n8);rw[<-bd];have be:S8.A T= .none:=by rw[bd];exact nx0 w8 ap 0
 have G9:Gr S8 S9:=by rw[df,<-bd];exact GA.J be (by rw[bd,cj];exact fun d=>by cases d) (by rw[bd,cj];rfl) (Qb _)
 have eg:qB S9 T [([],tb.b)] 1:=by
  refine⟨Y4 (([],tb.b):Str×Nat) (.d .i64 1) [],rfl,fun p hp=> ?_,A0.t, ?_⟩
  ·rw[Xj.1 hp];exact⟨1,rfl,Xb _,Xb _⟩
  ·rw[df,bd];exact Jh _ _ _ _
 clear df cc cj GA cg o1 o2;have w9:=G9.D;have k9:∀r,S6.A r≠ .none->S9.A r=S6.A r:=fun r d=>by rw[G9.d r (by rw[k8 r d];exact d),k8 r d]
 have dg:∀r,S5.A r≠ .none->S9.A r=S5.A r:=fun r d=>by rw[k9 r (by rw[G6.d r d];exact d),G6.d r d]
 have U5:∀r,U0 r->S5.A r≠ .none:=fun r u=>by
  have:=hT.2.2 r u;rw[(G3.A (G4.A G5)).d r this];exact this
 have T9:TabU S9 U0 rt tb:=(hT.A (G3.A (G4.A G5))).J w9 fun r u=>dg r (U5 r u);have eh:=(k9 ps (Jb rp)).trans rp;have ei:=(k9 q0 (Jb rq)).trans rq;have dh:∀r,S6.A r= .none->S5.A r= .none:=fun r d=>G6.I d;have ej:S5.A T= .none:=dh _ (G7.I (C8.B be));have f2:¬U0 ps:=fun u=>U5 _ u b7;have ek:¬U0 q0:=fun u=>U5 _ u dz;have f3:¬U0 T:=fun u=>U5 _ u ej;have f4:S8.A ps≠ .none:=Jb dd;have f7:S8.A q0≠ .none:=Jb de;have pw:ps≠T:=fun d=>f4 (by rw[d];exact be);have qw:q0≠T:=fun d=>f7 (by rw[d];exact be);have W9:WkL S9 U0 ps T q0 rt [y0,y1,y2,y3,y4,y5,tv, .g rt 0] S9 U0 tb (.m q0 0 1 2 1) [([],tb.b)] [([],tb.b)] 1:=
  ⟨⟨⟨f2,f3,ek⟩,⟨Jb eh,eg.A,Jb ei⟩,pw⟩,Ch.G _ w9,T9,fun r u=> .inl u,⟨_,eh⟩,eg,⟨fun d he=>by rw[Xj.1 he];rfl, .inr ⟨q0,_,ei, .inr rfl⟩⟩,fun r d=>by
   injection d with d;subst d;exact⟨.inl rfl,ek,dq,qw⟩⟩
 have bn:∀{S':St} {U:Pt->Prop} {X:Tb} {pv:V} {Z ql:Cls} {m:Nat},WkL S9 U0 ps T q0 rt [y0,y1,y2,y3,y4,y5,tv, .g rt 0] S' U X pv Z ql m->∀r,S9.A r≠ .none->¬U0 r->r≠ps->r≠T->r≠q0->S'.A r=S9.A r/\¬U r/\rowOf pv≠some r:=fun h r d a b c O=>
  ⟨h.ch.d r d fun M=>M.elim a fun M=>M.elim b fun M=>M.elim c O,fun u=>(h.s r u).elim a d,fun M=>(h.l r M).1.elim O d⟩
 have aa:∀{S':St} {U:Pt->Prop} {X:Tb} {pv:V} {Z ql:Cls} {m:Nat},WkL S9 U0 ps T q0 rt [y0,y1,y2,y3,y4,y5,tv, .g rt 0] S' U X pv Z ql m->∀r,S5.A r≠ .none->¬U0 r->S'.A r=S5.A r/\¬U r/\rowOf pv≠some r:=fun h r d a=>by
  obtain⟨x,y,z⟩:=bn h r (by rw[dg r d];exact d) a (fun M=>d (M▸b7)) (fun M=>d (M▸ej)) (fun M=>d (M▸dz));exact⟨x.trans (dg r d),y,z⟩
 have cp:∀r,S1.A r≠ .none->S5.A r=S1.A r/\¬U0 r:=fun r d=>⟨(G2.A (G3.A (G4.A G5))).d r d,fun u=>d (hU r u)⟩
 have a7:∀r,n.A r≠ .none->S5.A r=n.A r/\¬U0 r/\r≠p5:=fun r d=>by
  have e1:=G1.d r d;obtain⟨a,b⟩:=cp r (by rw[e1];exact d);exact⟨a.trans e1,b,fun M=>d (M▸fp)⟩
 have el:∀r,S6.A r≠ .none->rb≠r:=fun r d M=>d (M▸b8);have ga:∀{S':St} {U:Pt->Prop} {X:Tb} {pv:V} {Z ql:Cls} {m:Nat},WkL S9 U0 ps T q0 rt [y0,y1,y2,y3,y4,y5,tv, .g rt 0] S' U X pv Z ql m->Y5 S' rb ofL Q/\rowOf pv≠some rb:=fun h=>by
  have e9:=G9.d rb cf.A;obtain⟨a,_,b⟩:=bn h rb (by rw[e9];exact cf.A) (fun u=>U5 _ u (dh _ b8)) (el _ (Jb rp)) (fun M=>cf.A (M▸be)) (el _ (Jb rq));exact⟨cf.B (a.trans e9),b⟩
 have gb:∀{S':St} {U:Pt->Prop} {X:Tb} {pv:V} {Z ql:Cls} {m:Nat},WkL S9 U0 ps T q0 rt [y0,y1,y2,y3,y4,y5,tv, .g rt 0] S' U X pv Z ql m->SlAt (fun r=>¬U r) S' nv 1 (strs [[116],[117]]):=fun h=>by
  have M:=cb.G;rw[show(Q.drop 1).map nmE=strs [[116],[117]] by rw[ah];rfl]at M;refine M.D fun r hr d=> ?_;have e7:=bb r hr;have e9:=G9.d r d;have p7:∀q,S6.A q≠ .none->r≠q:=fun q a M=>a (G7.I (M▸e7));obtain⟨a,b,_⟩:=bn h r (by rw[e9];exact d) (fun u=>U5 _ u (dh _ (G7.I e7))) (p7 _ (Jb rp)) (fun M=>d (M▸be)) (p7 _ (Jb rq));exact⟨b,a.trans e9⟩
 rw[Jd,Ja];simp[XY];refine Jo (fun j Y S'=>∃(i:Nat) (X:Tb) (U:Pt->Prop) (pv:V) (Z:Cls),j+i=361/\Y 5= .g p5 0/\Y 6= .g rt 0/\Y 8= .g ps 0/\Y 9= .q rb/\Y 10=nv/\Y 15= .q T/\Y 16= .d .i64 (i:Nat)/\WkL S9 U0 ps T q0 rt [y0,y1,y2,y3,y4,y5,tv, .g rt 0] S' U X pv Z Z (1+i*90000)/\PlW s (rowT [([],l0),([116],l1),([117],l2)]) [[],[116],[117]] tb X Z i) 361 (by omega) ⟨0,tb,U0,_,_,by omega,by simp[XZ,f5],by simp[XZ,f6],by simp[XZ,f8],by simp[XZ,f9],by simp[XZ,ab],by simp[XZ],by simp[XZ]<;>rfl,W9,PlW.A hO (by simp) (Jnc hO.l.e)⟩ ?_;clear f5 f6 f8 f9 ab;clear Y;rintro L hL j Y af ⟨i,X,U,pv,Z,hj,f5,f6,f8,f9,ab,al,am,hW,hP⟩;obtain⟨em,aq⟩:=hW.j;have aq:af.A ps= .a em [y0,y1,y2,y3,y4,y5,tv, .g rt 0,pv]:=aq;have di:=hW.i.G.G;rw[show(clsE Z).length=Z.length from Xr _]at di;have en:Z.length<=3*120:=by
  obtain⟨_,⟨W,F,⟨_,_,_,_,_,_,t⟩,_⟩,_⟩:=hW.tab;exact hP.G (by decide) t.L
 obtain⟨x5,eo⟩:=cp p5 (Jb r5);obtain⟨gc,gd,ge⟩:=aa hW p5 (by rw[x5];exact Jb r5) eo;have dj:af.A p5= .a t5 [.d .i64 0,ofL [], .d .i64 0]:=by rw[gc,x5,r5]
 by_cases hi:i<Z.length;rotate_left
 ·have ca:¬(i:Int)<Z.length:=by omega
  have g6:Z.length=i:=by have:=hP.u;omega
  rw[Jd,Ja];simp[XY,f8,am,aq,di,hi];rw[Ja];simp[XY,f5,f8,dj];rw[Jhn];simp[XZ,f5];have C9:Ch (fun r=>r=p5) af (af.D p5 t5 fun u=> .a u [.d .i64 0,ofL [], .d .i64 0]):=(Ch.G (fun r=>r=p5) hW.ch.D).J (Jb dj) (by rw[dj];rfl) (.inl rfl) (Jc _);refine dv _ _ (fun r d=> ?_) fun _=>⟨_,hP.o _ (.done (by omega)), .inr ⟨X,Z,ps,em,y0,y1,y2,y3,y4,y5,tv,rt,U,pv,rfl,rfl, ?_,hW.tab.J C9.D fun r u=> ?_,hP.g, ?_, ?_,hP.j,hP.v,en⟩⟩
  ·obtain⟨a,b,c⟩:=a7 r d;rw[C9.d r (by rw[(aa hW r (by rw[a];exact d) b).1,a];exact d) c,(aa hW r (by rw[a];exact d) b).1,a]
  ·rw[C9.d ps (Jb aq) fun M=>(by rw[M,x5,r5]at b7;cases b7),aq]
  ·exact C9.d r (hW.tab.2.2 r u) fun M=>gd (M▸u)
  ·refine Qg dx fun r p d=>⟨trivial, ?_⟩
   have e5:S5.A r≠ .none:=by rw[G5.d r d];exact d
   have hu:¬U0 r/\r≠p5:=p.elim (fun p=>(a7 r p).2) fun p=>⟨fun u=>hT.2.2 r u (G3.I p),fun M=>by rw[M,(G2.A G3).B r5]at p;cases p⟩
   rw[C9.d r (by rw[(aa hW r e5 hu.1).1];exact e5) hu.2,(aa hW r e5 hu.1).1,G5.d r d]
  ·exact hW.i.G.D fun r hr d=>⟨trivial,C9.d r d fun M=>ge (M▸hr)⟩
 obtain⟨nm,id,hid⟩:∃nm id,Z[i]=(nm,id):=⟨_,_,rfl⟩
 have cq:Z[i]? =some (nm,id):=by rw[Xg hi,hid]
 have dk:=hP.q (nm,id) (by rw[<-hid];exact Xh hi);obtain⟨r,o,a1,_,ep,a2,_⟩:=hW.i.G.H (i:=i) (by rw[show(clsE Z).length=Z.length from Xr _];exact hi);have gf:(clsE Z)[i]'(by rw[show(clsE Z).length=Z.length from Xr _];exact hi)=[ofL nm, .d .i64 (id:Nat)]:=by simp only[clsE,X6,hid];rfl
 rw[gf]at a2;obtain⟨bv,gg,gh,dl⟩:∃bv,at_ nm Q=some bv/\NodsC (fun _=>True) n 3 4 bv (bodT [([],l0),([116],l1),([117],l2)] nm)/\fitL (fitP 3) 4 (bodT [([],l0),([116],l1),([117],l2)] nm)/\sizL 4 (bodT [([],l0),([116],l1),([117],l2)] nm)<90000:=by
  have h:=dk.1;simp only[Xq,HQ,or_false]at h;subst ah;rcases h with h|h|h
  ·obtain rfl:nm=[]:=h;exact⟨v0,rfl,w0,h3.2 _ (.head _)⟩
  ·obtain rfl:nm=[116]:=h;exact⟨v1,rfl,w1,h3.2 _ (.tail _ (.head _))⟩
  ·obtain rfl:nm=[117]:=h;exact⟨v2,rfl,w2,h3.2 _ (.tail _ (.tail _ (.head _)))⟩
 obtain⟨ed,ao⟩:=nxE af;rw[Jd,Ja];simp[XY,f8,am,aq,di,hi];rw[Jd];simp[XY];rw[Ja];simp[XY,f8,am,aq,a1,a2,ao];generalize eq:up 0 ed=gi;refine nmA hW.ch.D ao eq ?_;intro ce er et ⟨g8,dm⟩;have ad:=hW.J er;have db:Q9 ce (.a .s) .e false (.q rb) (ofL nm)=some (bv, .a):=by
  rw[K0 (enc:=ofL) (ga ad).1 .e false nm (fun p _=>Jcl _ _) rfl,gg];rfl
 rw[Ja];simp[XY,f6,f9,ab,dm,db];have dn:KT s X [] (sizL 4 (bodT [([],l0),([116],l1),([117],l2)] nm)) (rowT [([],l0),([116],l1),([117],l2)] X nm id):=
  JfT (s:=s) (m:=3) (SgOK.A b6) JcY 4 X [] ⟨id,[],[]⟩ _ hP.p ⟨⟨dk.2,(fun x hx=>by cases hx),(fun x hx=>by cases hx),Gw _,Gw _⟩,by show 0+sizL 4 _<100000;omega,by show 0+sizL 4 _<100000;omega⟩ dl.1
 have eu:NamA [[],[116],[117]] X.b (rowT [([],l0),([116],l1),([117],l2)] X nm id):=by
  have:=Jm8 (sg:=fun _ _ _=>(0,17)) (names:=[[116],[117]]) (m:=3) 4 X [] ⟨id,[],[]⟩ (bodT [([],l0),([116],l1),([117],l2)] nm) ⟨rfl,fun c hc=>by cases hc⟩;exact⟨this.1,fun c hc=> .tail _ (this.2 c hc)⟩
 have gj:Dz 26 [.g rt 0,nv, .d .i64 (id:Nat),bv] ce (BodP U ce rt (rowT [([],l0),([116],l1),([117],l2)] X nm id)):=
  JuK (sg:=fun _ _ _=>(0,17)) (names:=[[116],[117]]) (m:=2) (d:=4) b6 (by decide) ad.tab hP.p (gb ad) dk.2 (NodsC.A gh fun r _ d=>by
   obtain⟨a,b,_⟩:=a7 r d;obtain⟨c,O,_⟩:=aa ad r (by rw[a];exact d) b;exact⟨O,c.trans a⟩) dl.1 dl.2
 refine Je gj ?_;rintro _ dp ⟨U',ev,ew,cr,hv⟩;have av:=fun he=>hP.F cq dn eu he;have ex:=fun he=>hP.o _ (.b cq he);have ey:=dn.f;simp only[Zq,Zv]at ey;generalize rowT [([],l0),([116],l1),([117],l2)] X nm id=x at cr hv av ex dn eu ey;have a8:=ad.F ev ew cr;have dr:=(ev.d gi (Jb dm) fun u=>hW.tab.2.2 _ u et).trans dm;obtain⟨z5,g9,ha⟩:=aa a8 p5 (by rw[x5];exact Jb r5) eo;have bo:dp.A p5= .a t5 [.d .i64 0,ofL [], .d .i64 0]:=by rw[z5,x5,r5]
 rcases hv with⟨he,rfl⟩|⟨he,cv,rfl,ez,gk⟩
 ·simp[XY];rw[Jd,Ja];simp[XY,he];rw[Ja];simp[XY,f5,dr,bo];rw[Jhn];simp[XZ,f5];have C9:Ch (fun r=>r=p5) dp (dp.D p5 t5 fun u=> .a u [.d .i64 x.2.2.1,ofL nm, .d .i64 x.2.2.2]):=(Ch.G (fun r=>r=p5) a8.ch.D).J (Jb bo) (by rw[bo];rfl) (.inl rfl) (Jc _);refine dv _ _ (fun r d=> ?_) fun _=>⟨_,ex he, .inl ⟨_,_,_,rfl,he,rfl⟩⟩
  obtain⟨a,b,c⟩:=a7 r d;have O:=(aa a8 r (by rw[a];exact d) b).1;rw[C9.d r (by rw[O,a];exact d) c,O,a]
 simp[XY];rw[Jd,Ja];simp[XY,he];have av:=av he;have e0:=ez.G.G;rw[show(clsE x.2.1).length=x.2.1.length from Xr _]at e0;have bp:=ad.A;rw[Ja];simp[XY,e0];refine Jo (fun j Y S'=>∃(M:Nat) (pw:V),j+M=x.2.1.length/\Y 5= .g p5 0/\Y 6= .g rt 0/\Y 8= .g ps 0/\Y 9= .q rb/\Y 10=nv/\Y 15= .q T/\Y 16= .d .i64 (i:Nat)/\Y 117=cv/\Y 118= .d .i64 (x.2.1.length:Nat)/\Y 119= .d .i64 (M:Nat)/\WkL S9 U0 ps T q0 rt [y0,y1,y2,y3,y4,y5,tv, .g rt 0] S' U' x.1 pw (dedS Z (x.2.1.take M)) (dedS Z (x.2.1.take M)) (1+i*90000+M)/\KV S' cv 2 (clsE x.2.1)/\∀r,rowOf cv=some r->r≠ps/\r≠T/\rowOf pw≠some r) x.2.1.length (by omega) ⟨0,pv,by omega,by simp[XZ,f5],by simp[XZ,f6],by simp[XZ,f8],by simp[XZ,f9],by simp[XZ,ab],by simp[XZ,al],by simp[XZ,am],by simp[XZ],by simp[XZ],by simp[XZ]<;>rfl,a8,ez,fun r d=> ?_⟩ ?_
 ·obtain⟨_,h⟩:=gk r d;refine⟨fun M=> ?_,fun M=> ?_,fun M=> ?_⟩
  ·subst M;exact h.elim bp.1 (Jb (er.B aq))
  ·subst M;exact h.elim bp.2 ad.f.A
  ·exact h.elim (ad.l r M).2.1 (ad.i.A M)
 clear f5 f6 f8 f9 ab al am a1 a2 ep;clear Y;rintro N hN j2 Y gl ⟨M,pw,hb,f5,f6,f8,f9,ab,al,am,bq,a9,ar,aj,aw,bf⟩;by_cases hk:M<x.2.1.length;rotate_left
 ·have gm:M=x.2.1.length:=by omega
  subst gm;rw[XE]at aj;have ai:=wiN (i:=i) (by omega);rw[Ja];simp[XY,a9,ar];rw[Jd];simp[XZ,am,ai];exact⟨361-(i+1),by omega,hL _ _ _ ⟨i+1,x.1,U',pw,_,by omega,by simp[XZ,f5],by simp[XZ,f6],by simp[XZ,f8],by simp[XZ,f9],by simp[XZ,ab],by simp[XZ,al],by simp[XZ],{aj with f:=aj.f.F (by omega)},av⟩⟩
 have ai:=wiN (i:=M) (by omega);obtain⟨nm2,ax,cs⟩:∃nm id,x.2.1[M]=(nm,id):=⟨_,_,rfl⟩
 obtain⟨r,o,a1,_,ep,a2,_⟩:=aw.G.H (i:=M) (by rw[show(clsE x.2.1).length=x.2.1.length from Xr _];exact hk);have e4:(clsE x.2.1)[M]'(by rw[show(clsE x.2.1).length=x.2.1.length from Xr _];exact hk)=[ofL nm2, .d .i64 (ax:Nat)]:=by simp only[clsE,X6,cs];rfl
 rw[e4]at a2;have gn:x.2.1.take (M+1)=x.2.1.take M++[(nm2,ax)]:=by rw[Zy,Xg hk,cs];rfl
 obtain⟨go,ct⟩:=nxE gl;rw[Ja];simp[XY,a9,ar,hk];rw[Jd];simp[XY];rw[Jd];simp[XY];rw[Ja];simp[XY,bq,ar,a1,a2,ct];generalize e6:up 0 go=e8;refine nmA aj.ch.D ct e6 ?_;intro au fa fb ⟨hd,ds⟩;have ba:=aj.J fa;have br:=aw.F fun r d=>fa.d r (aw.A d);obtain⟨c,jj,t2,q1,q2,z,c1,c2,c3,c4,c5,c6,c7,c8,c9,fc⟩:=JpL ba.f (by omega) (nm2,ax);have gp:=c3 au rfl;have gq:=c4 au rfl;have gr:=c6 (au.D T t2 q1) _ (Jh _ _ _ _);have cu:e8≠T:=fun d=>aj.f.A (d▸fb);have gs:=nes cu;rw[Ja];simp only[XY,simprocAttr,Jra,Jrb,Jtj,Jtk,al,ds,gs,gp,gq,c5,gr];refine YW ?_;intro bg bt;have ck:Ch (fun r=>r=T) au bg:=by
  have C1:Ch (fun r=>r=T) au (au.D T t2 q1):=(Ch.G (fun r=>r=T) ba.ch.D).J c1 c2 (.inl rfl) c7;have C2:=C1.J (p:=T) (t:=au.t) (f:=q2) (by rw[Jh];exact(c7 _).2) (by rw[Jh];exact(c7 _).1) (.inl rfl) c8;rw[bt];exact C2
 have gt:bg.A T=q2 ((au.D T t2 q1).t):=by rw[bt];exact Jh _ _ _ _
 obtain⟨fd,bh⟩:=c9 bg _ gt;clear bt;have ay:=(ck.d e8 (Jb ds) cu).trans ds;have ag:=br.F fun r d=>ck.d r (br.A d) (bf r d).2.1;have az:=Jhm (nm2,ax) (x.2.1.take M) Z;rw[<-gn]at az;by_cases fe:c=0;rotate_left
 ·have gu:(nm2,ax)∈dedS Z (x.2.1.take M):=Xd fun h=>fe (fc.2 h);rw[Xe gu]at az bh;rw[<-az]at bh;have ae:=ba.G ck bh;rw[show dedS Z (x.2.1.take M)=dedS Z (x.2.1.take (M+1))from az.symm]at ae;have bu:¬((c+1:Nat):Int)=1:=by omega
  rw[Ja];simp only[XY,simprocAttr,al,ay,fd,bu];simp[XZ,ar,ai];exact⟨x.2.1.length-(M+1),by omega,hN _ _ _ ⟨M+1,pw,by omega,by simp[XZ,f5],by simp[XZ,f6],by simp[XZ,f8],by simp[XZ,f9],by simp[XZ,ab],by simp[XZ,al],by simp[XZ,am],by simp[XZ,bq],by simp[XZ,a9],by simp[XZ],ae,ag,bf⟩⟩
 have ff:(nm2,ax)∉dedS Z (x.2.1.take M):=fc.1 fe;rw[Xa ff]at az bh;rw[<-az]at bh;have ae:=ba.G ck bh;have bu:((c+1:Nat):Int)=1:=by omega
 obtain⟨bw,ak⟩:=ae.j;have ak:bg.A ps= .a bw [y0,y1,y2,y3,y4,y5,tv, .g rt 0,pw]:=ak;have fg:=ae.ch.D;obtain⟨hf,bx⟩:=nxE bg;have fh:=fun M=>nes (Jt fg bx (Jb ak) M);rw[Ja];simp only[XY,simprocAttr,al,ay,fd,bu];simp only[XY,simprocAttr,f8,ak,ay,bx,fh];refine JcM (e:=[ofL nm2, .d .i64 (ax:Nat)]) fg bx ae.i rfl rfl (by
  rw[show(clsE (dedS Z (x.2.1.take M))).length=(dedS Z (x.2.1.take M)).length from Xr _];obtain⟨t,a,_,b,_⟩:=Jbb (x.2.1.take M) Z;rw[a,XW];rw[XS]at b;omega) ?_
 intro cl cm cn dt fi;have bz:=(cn.d ps (Jb ak) fun d=>(ae.l ps d).2.2.1 rfl).trans ak;have fj:=dt.G.B;have fk:=dt.G.A;have gv:KV cl cm 2 (clsE (dedS Z (x.2.1.take (M+1)))):=by
  rw[az,clsE,ZA];exact dt
 have fl:Ch (fun p=>p=ps) cl (cl.D ps bw fun u=> .a u [y0,y1,y2,y3,y4,y5,tv, .g rt 0,cm]):=(Ch.G (fun p=>p=ps) cn.D).J (Jb bz) (by rw[bz];rfl) (.inl rfl) (Jc _);have gw:∀r,rowOf cv=some r->(cl.D ps bw fun u=> .a u [y0,y1,y2,y3,y4,y5,tv, .g rt 0,cm]).A r=bg.A r:=fun r d=>by
  have h:=cn.d r (ag.A d) (bf r d).2.2;rw[fl.d r (by rw[h];exact ag.A d) (bf r d).1,h]
 simp[XZ,bz,fj,fk,ar,ai];exact⟨x.2.1.length-(M+1),by omega,hN _ _ _ ⟨M+1,cm,by omega,by simp[XZ,f5],by simp[XZ,f6],by simp[XZ,f8],by simp[XZ,f9],by simp[XZ,ab],by simp[XZ,al],by simp[XZ,am],by simp[XZ,bq],by simp[XZ,a9],by simp[XZ],ae.I cn gv fi fl (Jh _ _ _ _),ag.F gw,fun r d=>⟨(bf r d).1,(bf r d).2.1,fun h=>ag.A d (fi r h)⟩⟩⟩
theorem JrH (a:Cls):okC (clsE a):=fun e b=>by
 obtain⟨x,_,rfl⟩:=Xz.1 b;rfl
theorem JsN {l m o p q s u i:V}{b:Cls}(j:WF n)(w:n.A r= .a z [k,l,m,o,p,q,s,u,i])(x:SlAt (fun _=>True) n i 2 (clsE b))(y:b.length<1000):Dz 9 [.g r 0] n fun v c=>Gr n c/\SlF n c v 2 (clsE b):=by
 refine Jn tabM (aT Tryz.func9 rfl) rfl j fun K f=> ?_;simp only[CT,Tryz.f9,XZ,simprocAttr,w];refine Je (jW (by simp) j x (JrH b) (by rw[show(clsE b).length=b.length from Xr _];omega)) ?_;rintro v c ⟨g,h⟩;simp only[XZ,simprocAttr];exact f _ _ (fun r e=>g.d r e) fun _=>h
theorem JtD {l m o p q u j x:V}(y:WF n)(J:n.A r= .a z [k,l,m,o,p,q,u,j,x])(K:∀f,Gr n f->e j f):Kh (tabT tabD) b s 10 [.g r 0] i n e:=by
 refine KI (P:=fun v _=>v=j) (fun d w=> ?_) y (fun v f d h=>h) fun v f g h=> ?_
 ·have c:({n with a:=d}:St).A r= .a z [k,l,m,o,p,q,u,j,x]:=J;refine Jl (aT Tryz.func10 rfl) rfl ?_;simp only[CT,Tryz.f10,XZ,simprocAttr,c];exact Gr.F w
 ·subst h;exact K f g
theorem Jup {q u x y J o L M:V}(O:WF n)(T:n.A r= .a z [k,q,u,x,y,J,o,L,M])(h:TmpC (fun _=>True) n 3 4 o v)(N:Tmp3 v)(U:∀f m,Gr n m->TmpC (fun _=>True) m 3 4 f v->e f m):Kh (tabT tabD) b s 13 [.g r 0] i n e:=by
 refine KI (P:=fun f m=>TmpC (fun _=>True) m 3 4 f v) (fun j w=> ?_) O (fun f m j h=>Qg h kR) fun f m g h=>U f m g h;have c:({n with a:=j}:St).A r= .a z [k,q,u,x,y,J,o,L,M]:=T;have h:TmpC (fun _=>True) {n with a:=j} 3 4 o v:=Qg h kR;refine Jn tabM (aT Tryz.func13 rfl) rfl w fun K p=> ?_;simp only[CT,Tryz.f13,XZ,simprocAttr,c];refine Je (Js2 w h (by rw[<-Xr (·.1),N.1];decide) fun z W=>(N.2 z W).1) ?_;rintro f m ⟨g,h⟩;simp only[XZ,simprocAttr];exact p _ _ (fun r l=>g.d r l) fun _=>Qg h fun r _ _=>⟨trivial,rfl⟩
theorem JtE {f:V}(l:WF n)(m:TmpC (fun _=>True) n 3 4 k v)(o:TmpC (fun _=>True) n 3 4 f v)(j:Tmp3 v)(p:∀d,Gr n d->e (.h true) d):Kh (tabT tabD) b s 12 [k,f] i n e:=by
 refine KI (P:=fun a _=>a= .h true) (fun c w=>JuY w (Qg m kR) (Qg o kR) (by rw[<-Xr (·.1),j.1];decide) fun t q=>(j.2 t q).1) l (fun a d c h=>h) fun a d g h=> ?_;subst h;exact p d g
theorem Jnd (st:St)(hw:WF st)(e1:List V)(q1:Rw)(h1:RwC (fun _=>True) st e1 q1)(v2:V)(ts:List Rw)(h2:QH (fun _=>True) st v2 ts)(u:V)(a7:List (List R10))(h3:jJ (fun _=>True) st u a7):
  Dz 3 [.j e1,v2,u] st fun v' _=>v'= .h true:=by
 refine Jl (aT Tryz.func3 rfl) rfl ?_;have g1:=h1;obtain⟨cj,ck,cl,rfl,_,_,_,a1,a2,_,_,_⟩:=h1.A;have c1:=a1.A;have s1:=a1.B;have c2:=a2.A;have s2:=a2.B;obtain⟨n0,a8⟩:=nxE st;simp only[CT,Tryz.f3,XY,simprocAttr];rw[Ja];simp[XY,a8,s1,s2];generalize bq:up 0 n0=p3;refine nm1 hw a8 bq ?_;intro S1 G1 cm ⟨t3,r3⟩;rw[Jd,Ja];simp[XY];refine Je (Jt4 G1.D) ?_;rintro _ S2 ⟨G2,rfl⟩;have g2:=G1.A G2;simp[XY];rw[Jd,Ja];simp[XY];refine Je (Jt1 g2.D (h3.A g2)) ?_;rintro v S3 ⟨G3,hv⟩;have g3:=g2.A G3;rcases hv with rfl|⟨rfl,br,bt⟩
 ·simp[XZ]
 simp[XY];rw[Ja];simp[XY,(G2.A G3).B r3];refine Je (Jr1 G3.D (g1.F g3) (h2.F g3)) ?_;rintro v S4 ⟨G4,z,⟨z0,z1,z2,z3,z4,z5,rfl,hz⟩,hv⟩;have g4:=g3.A G4;obtain⟨n4,aa⟩:=nxE S4;rcases hv with rfl|⟨rt,ru,sc,tb,U,Ud,rfl,hT,hD,hO,ab,a9,cn,cd,al,am⟩
 ·simp[XY,hz,aa];generalize ao:up 0 n4=p9;refine nmA G4.D aa ao ?_;intro S5 G5 bu ⟨t9,r9⟩;rw[Jd,Ja];simp[XZ,Jpv]
 simp[XY,hz,aa];generalize ao:up 0 n4=p9;refine nmA G4.D aa ao ?_;intro S5 G5 bu ⟨t9,r9⟩;have bv:tb.b<tb.a.length:=Jnc hO.l.e;rw[Jd,Ja];simp[XY,Jlc];rw[Ja];simp[XY];refine Je (JtC (hD.B G5) hO ab a9 bv (h3.A (g4.A G5)) bt br) ?_;rintro lv S6 ⟨G6,ad,bw,O⟩;have ae:=G5.A G6;have K:TmpC (fun _=>True) S6 3 4 lv ad:=Qg bw fun _ _ _=>⟨trivial,rfl⟩
 simp[XY];rw[Ja];simp[XY,G6.B r9];refine Je (Jlw ae.D (al.A ae.H) ab am K O) ?_;rintro v S7 ⟨G7,r,hr,hv⟩;obtain⟨n7,af⟩:=nxE S7;have ba:∀{r':Tb×Cls⊕Int×Str×Int},ChkR (rowT ad) tb [([],tb.b)] 0 r'->r=r':=hr.A;rcases hv with⟨e,nm,a,rfl,he,rfl⟩|⟨co,c,p,t,y0,y1,y2,y3,y4,y5,tv,cp,U',pv,rfl,rfl,f,ap,aq,ar,au,bx,bb,ce⟩
 ·simp[XY,af];generalize P:up 0 n7=bz;refine nmA G7.D af P ?_;intro S8 G8 bc ⟨b0,av⟩;have x:=G7.A G8;have Q:=ae.A x;rw[Ja];simp[XY,(G6.A x).B r9];refine Je (Jlw Q.D (al.A Q.H) ab am (Qg K x.H) O) ?_;rintro v S9 ⟨G9,r',aw,hv⟩;have hd:=ba aw;obtain⟨n9,S⟩:=nxE S9;rcases hv with⟨e',b2,a',rfl,b4,rfl⟩|⟨_,_,_,_,_,_,_,_,_,_,_,_,_,_,rfl,_⟩
  rotate_left
  ·cases hd
  cases hd
  simp[XY,S];generalize T:up 0 n9=b5;refine nmA G9.D S T ?_;intro W y bd ⟨b6,ax⟩;rw[Jd,Ja];simp[XZ,(G9.A y).B av,ax,Jpv]
 simp[XY,af];generalize P:up 0 n7=bz;refine nmA G7.D af P ?_;intro S8 G8 bc ⟨b0,av⟩;have x:=G7.A G8;have Q:=ae.A x;rw[Ja];simp[XY,(G6.A x).B r9];refine Je (Jlw Q.D (al.A Q.H) ab am (Qg K x.H) O) ?_;rintro v S9 ⟨G9,r',aw,hv⟩;have hd:=ba aw;obtain⟨n9,S⟩:=nxE S9;rcases hv with⟨e',b2,a',rfl,b4,rfl⟩|⟨cq,cr,p2,t2,x0,x1,x2,x3,x4,x5,cs,ct,U2,b7,rfl,rfl,J,cu,bp,cf,X,cg,ch,b8⟩
 ·cases hd
 injection hd with hd;injection hd with hd b9;subst hd;subst b9;simp[XY,S];generalize T:up 0 n9=b5;refine nmA G9.D S T ?_;intro W y bd ⟨b6,ax⟩;have w:=G8.A (G9.A y);have f:=w.B f;have J:=y.B J;have au:SlAt (fun _=>True) W pv 2 (clsE c):=au.D w.H;have X:SlAt (fun _=>True) W b7 2 (clsE c):=X.D y.H;have ap:=ap.A w;have ar:TmpC (fun _=>True) W 3 4 tv ad:=Qg ar w.H;have ay:TmpC (fun _=>True) W 3 4 lv ad:=Qg K (G7.A w).H;rw[Jd,Ja];simp[XY,(G9.A y).B av,ax,Jlc];rw[Jd,Ja];simp[XY,Jlc];rw[Ja];simp[XY];refine Je (JsN y.D f au (by omega)) ?_;rintro qv cv ⟨ag,hq⟩;simp[XY];refine Je (JsN ag.D (ag.B J) (X.D ag.H) (by omega)) ?_;rintro be cw ⟨az,ah⟩;have hq:=hq.G az;have n:=ag.A az;have f:=n.B f;have lq:=hq.D.G;have bf:=ah.D.G;rw[show(clsE c).length=c.length from Xr _]at lq bf;have a0:0<c.length:=(Xx.1 bb).1;have bg:c[0]=([],tb.b):=by
  have:=bb;rw[Xg a0]at this;injection this
 obtain⟨r0,o0,b1,_,cx,_,b3⟩:=hq.D.H (i:=0) (by rw[show(clsE c).length=c.length from Xr _];exact a0);have ca:(clsE c)[0]'(by rw[show(clsE c).length=c.length from Xr _];exact a0)=[ofL [], .d .i64 (tb.b:Nat)]:=by simp only[clsE,X6,bg];rfl
 rw[ca]at b3;have b1:Js 2 qv (.d .i64 0)=some (.g r0 o0, .a):=b1;have bh:=b3 0 (by simp);have bi:=b3 1 (by simp);simp only[GI,Hl,Hj]at bh bi;simp[XY];rw[Jd,Ja];simp[XY,lq,bf,b1,bh,bi];refine JtD az.D f ?_;intro cy bj;simp[XY];refine JsM ((ap.A n).A bj) ?_;intro cz bk;have o:=bj.A bk;simp[XY,aq];refine Jup bk.D (o.B f) (Qg ar (n.A o).H) O ?_;intro c0 c3 a3 bl;simp[XY];refine JtE a3.D bl (Qg ay (n.A (o.A a3)).H) O ?_;intro ai cb;have Y:=o.A (a3.A cb);have hq:=hq.D.D (st':=ai) Y.H;have ah:=ah.D.D (st':=ai) Y.H;simp[XY];have aj:(clsE c).length=c.length:=Xr _;have el:∀{i:Nat} (hi:i<c.length),(clsE c)[i]'(by rw[aj];exact hi)=[ofL c[i].1, .d .i64 (c[i].2:Nat)]:=fun hi=>by simp only[clsE,X6];rfl
 have bm:∀(ak:Bool) (a b:Str×Nat),eqV (.b [.s, .i]) ak (.j [ofL a.1, .d .i64 (a.2:Nat)]) (.j [ofL b.1, .d .i64 (b.2:Nat)])=some (.h (decide (a=b) !=ak), .a):=fun ak a b=>by
  show Option.map (fun t=>(V.h (t !=ak),Eff.a)) (EK.B (.b [.s, .i]) (encS a) (encS b))=_;rw[JcH];rfl
 rw[Jd,Ja];simp[XY];refine Jo (fun j Z S'=>∃i:Nat,j+i=c.length/\S'=ai/\Z 15=qv/\Z 16=be/\Z 17= .d .i64 (i:Nat)) c.length (by omega) ⟨0,by omega,rfl,by simp[XZ],by simp[XZ],by simp[XZ]<;>rfl⟩ ?_;rintro L hL j Z S' ⟨i,hj,hS,q,N,m⟩;obtain rfl:=hS.symm;by_cases hi:i<c.length;rotate_left
 ·rw[Jd,Ja];simp[XZ,q,m,lq,hi]
 have bn:=wiN (i:=i) (by omega);obtain⟨ra,oa,x1,_,_,x2,_⟩:=hq.H (i:=i) (by rw[aj];exact hi);obtain⟨rb,ob,y1,_,_,y2,_⟩:=ah.H (i:=i) (by rw[aj];exact hi);rw[el hi]at x2 y2;have e1:=bm true c[i] c[i];simp only[HY,Bool.bne_true,Bool.not_true]at e1;rw[Jd,Ja];simp[XY,q,m,lq,hi];rw[Jd];simp[XY];rw[Jd,Ja];simp[XY,q,N,m,x1,x2,y1,y2,e1];rw[Ja];simp[XY];refine Jo (fun j Z bo=>∃k:Nat,j+k=i/\bo=ai/\Z 15=qv/\Z 16=be/\Z 17= .d .i64 (i:Nat)/\Z 18= .d .i64 (k:Nat)) i (by omega) ⟨0,by omega,rfl,by simp[XZ,q],by simp[XZ,N],by simp[XZ,m],by simp[XZ]<;>rfl⟩ ?_;clear q N m;clear Z;rintro M hM j2 Z bo ⟨k,c4,hS,q,N,m,a4⟩;obtain rfl:=hS.symm;by_cases hk:k<i;rotate_left
 ·rw[Jd,Ja];simp[XZ,m,a4,hk,bn];exact⟨c.length-(i+1),by omega,hL _ _ _ ⟨i+1,by omega,rfl,by simp[XZ,q],by simp[XZ,N],by simp[XZ]⟩⟩
 have a5:k<c.length:=by omega
 have a6:=wiN (i:=k) (by omega);obtain⟨rk,ok,z1,_,_,z2,_⟩:=hq.H (i:=k) (by rw[aj];exact a5);rw[el a5]at z2;have e2:=bm false c[i] c[k];have cc:c[i]≠c[k]:=fun h=>GR.1 bx k i a5 hi hk h.symm;simp only[cc,Gn,Bool.bne_false]at e2;rw[Jd,Ja];simp[XY,m,a4,hk];rw[Jd];simp[XY];rw[Ja];simp[XZ,q,m,a4,x1,x2,z1,z2,e2,a6];exact⟨i-(k+1),by omega,hM _ _ _ ⟨k+1,by omega,rfl,by simp[XZ,q],by simp[XZ,N],by simp[XZ,m],by simp[XZ]⟩⟩
end Go.Proofs.YtdajkeoobbonjaaGreat
