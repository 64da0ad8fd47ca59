/- Whether a type has a value that ends. What is wrong with a schema. The table of a schema. Numbers from 0 on. Raw trees: few, a kid, a name. A name and a type put into a type. The type that a raw tree is made into. No condition. -/
import Derived.Test.YtcahllomeaimeaaQ2
set_option linter.unusedVariables false
set_option linter.unusedSimpArgs false
set_option maxRecDepth 100000
namespace Go.Proofs.Ytcahllomeaimeaa
open Eva Go.RowKit
theorem Jgg (n:Str)(b:Bool):∀has:List (Str×Bool),YB n (V.bool b) (hasE has)=hasE (sB n b has)
 |[]=>rfl
 | (a,c)::r=>by
   have ih:=Jgg n b r
   unfold hasE at ih⊢
   rw[List.map_cons,YB,sB]
   by_cases e:n=a
   ·rw[if_pos e,if_pos e];rfl
   ·rw[if_neg e,if_neg e,ih];rfl
theorem Jdf {P:Pt->Prop}{st S:St}{v:V}{l:List (Str×Ty)}(h:LstAt (NmC P st) P st v 5 l)(hS:∀r,st.row r≠ .none->S.row r=st.row r){i:Nat}(hi:i<l.length):
  ∃r q nv kv,iaddrSV 5 v (.int .i64 i)=some (.ptr r q, .no)/\S.row r≠ .none/\ldn (S.row r) q 5=some (.agg [ofL l[i].1, .int .i64 l[i].2.kind,ofL l[i].2.name,nv,kv], .no)/\TyC P S [.int .i64 l[i].2.kind,ofL l[i].2.name,nv,kv] l[i].2/\(nv.cells=some [nv]/\nv.sc=true/\kv.cells=some [kv]/\kv.sc=true):=by
 obtain⟨r,q,e,a1,a2,a3,a4,⟨c,he,hc⟩,a6,a7⟩:=h.elem hi
 have hc0:=hc
 obtain⟨nv1,kv1,es1,rfl,y1,y2,y3,y4⟩:=hc.inv
 subst he
 rw[<-hS r a3]at a4
 exact⟨r,q,nv1,kv1,a1,by rw[hS r a3];exact a3,a4,hc0.imp fun r p e=>⟨p,hS r e⟩,y1.cells,y1.sc,y2.cells,y2.sc⟩
theorem Jgh (l:List (Str×Ty))(k:Nat)(has:List (Str×Bool)):roundsS l (k+1) has=roundsS l k (roundS l has):=by rw[roundsS]
theorem Jh4 (p:Str×Ty)(r:List (Str×Ty))(has:List (Str×Bool)):roundS (p::r) has=roundS r (sB p.1 (gB p.1 has||endsS (fun x=>gB x has) p.2 1) has):=by obtain⟨a,b⟩:=p;rw[roundS]
set_option maxHeartbeats 8000000 in
theorem finiteP {P:Pt->Prop}{st:St}{e1 e2:List V}{s:Sch}{t:Ty}(hw:WF st)(h:SchC P st e1 s)(ht:TyC P st e2 t)(hP:∀r,P r->st.row r≠ .none)(hl:s.types.length<=1000)(hd:(s.types.map Prod.fst).Nodup):
  Does (tabT tabD) qe [.agg e1, .agg e2] st fun v' st'=>Gr st st'/\v'= .bool (finS s.types t):=by
 refine Jw tabM JcW rfl hw fun K fin=> ?_
 obtain⟨n,hn0⟩:∃n,st.nx=up 0 n:=⟨_,up0 _⟩
 have hsch:=h
 obtain⟨c,tv,sv,rfl,h1,h2,h3⟩:=h
 obtain⟨M,hM⟩:∃M,M=s.main:=⟨_,rfl⟩
 obtain⟨l,hll⟩:∃l,l=s.types:=⟨_,rfl⟩
 rw[<-hM]at h1
 rw[<-hll]at h2 hl fin
 obtain⟨nv,kv,es,rfl,x1,x2,x3,x4⟩:=h1.inv
 have ht0:=ht
 obtain⟨nv',kv',es',rfl,y1,y2,y3,y4⟩:=ht.inv
 have l1:=h2.len
 have cs1:=x1.cells
 have cs2:=x1.sc
 have cs3:=x2.cells
 have cs4:=x2.sc
 have ct1:=y1.cells
 have ct2:=y1.sc
 have ct3:=y2.cells
 have ct4:=y2.sc
 have cv1:=h2.sc
 have cv2:=h3.sc
 simp only[QA,XY,simprocAttr]
 obtain⟨I,hI⟩:∃I:Fr->St->Prop,∀fr S,I fr S<->(Gr st S/\fr 2= .ptr (up 0 n) 0/\fr 3= .ptr (up 1 n) 0/\(∃u,S.row (up 0 n)= .cells u [.int .i64 M.kind,ofL M.name,nv,kv,tv,sv])/\(∃u,S.row (up 1 n)= .cells u [.int .i64 t.kind,ofL t.name,nv',kv'])):=⟨_,fun _ _=>Iff.rfl⟩
 refine Q8 I ?_ ?_
 ·simp only[XZ,simprocAttr,hn0,cs1,cs2,cs3,cs4,ct1,ct2,ct3,ct4,cv1.1,cv1.2,cv2.1,cv2.2]
  exact(hI _ _).2 ⟨(Gr.new hw (Ja _)).nn (Ja _),by simp only[XZ,simprocAttr],by simp only[XZ,simprocAttr],⟨_,by simp only[XZ,simprocAttr,hn0];rfl⟩,⟨_,by simp only[XZ,simprocAttr,hn0];rfl⟩⟩
 intro fr S hIf
 obtain⟨g0,f2,f3,⟨t0,r0⟩,⟨t1,r1⟩⟩:=(hI _ _).1 hIf
 rw[Jc];simp only[XY,simprocAttr,f2,r0]
 refine Jb (namedC (P:=P) g0.wf (hsch.imp fun r p e=>⟨p,g0.same r e⟩) (by rw[<-hll];exact hl) hd) ?_
 rintro _ S1 ⟨g1,rm,rfl,hrm,hnm⟩
 rw[<-hll]at hnm
 have r0:=g1.cells r0
 have r1:=g1.cells r1
 have G1:=g0.trans g1
 have w1:=g1.wf
 obtain⟨n1,hn1⟩:∃n,S1.nx=up 0 n:=⟨_,up0 _⟩
 have spl:splice [.mnil, .int .i64 0] 0 [.map rm]=[.map rm, .int .i64 0]:=rfl
 simp only[XY,simprocAttr,hn1,Ja2,Y1]
 obtain⟨S2,hS2⟩:∃S2,S2=(S1.new fun t=> .cells t [.map rm, .int .i64 0]):=⟨_,rfl⟩
 have g2:Gr S1 S2:=by rw[hS2];exact Gr.new w1 (Ja _)
 obtain⟨kr,hkr⟩:∃p,p=up 0 n1:=⟨_,rfl⟩
 obtain⟨tk,rk⟩:∃u,S2.row kr= .cells u [.map rm, .int .i64 0]:=⟨_,by rw[hS2,hkr];simp only[XZ,simprocAttr,hn1];rfl⟩
 have qk1:S1.row kr= .none:=by rw[hkr];exact nx0 w1 hn1 0
 rw[<-hS2,<-hkr]
 clear hS2
 have G2:=G1.trans g2
 have n0k:up 0 n≠kr:=fun h=>by rw[h,qk1]at r0;cases r0
 have n1k:up 1 n≠kr:=fun h=>by rw[h,qk1]at r1;cases r1
 have r0:=g2.cells r0
 have r1:=g2.cells r1
 have hmn:S1.row rm≠ .none:=by obtain⟨_,h,_⟩:=hnm;exact h.ne
 have qk:st.row kr= .none:=Ch.fresh (Ch.of (fun _=>False) G1) qk1
 have old_k:∀r,st.row r≠ .none->r≠kr:=fun r e h=>e (by rw[h];exact qk)
 have L2:LookAt P S2 kr rm l 0:=
  ⟨hnm.imp (g2.same rm hmn) fun r p e=>⟨p,g2.same r e⟩,⟨tk,rk⟩,fun r p=>old_k r (hP r p),fun e=>hmn (by rw[e];exact qk1)⟩
 have keep:∀{S':St},Ch (fun r=>r=kr) S2 S'->∀r,st.row r≠ .none->S'.row r=st.row r:=fun c r e=>by rw[c.same r (by rw[G2.same r e];exact e) (old_k r e),G2.same r e]
 have kcell:∀{S':St} {p:Pt} {u:Nat} {x:List V},Ch (fun r=>r=kr) S2 S'->S2.row p= .cells u x->p≠kr->S'.row p= .cells u x:=fun c e n=>by rw[c.same _ (Je e) n,e]
 obtain⟨J1,hJ1⟩:∃J:Fr->St->Prop,∀fr S,J fr S<->(∃met,fr 2= .ptr (up 0 n) 0/\fr 3= .ptr (up 1 n) 0/\fr 5= .ptr kr 0/\Ch (fun r=>r=kr) S2 S/\LookAt P S kr rm l met/\(maysS (hasN l) (l.map Prod.snd) 1 0).1=0):=⟨_,fun _ _=>Iff.rfl⟩
 refine JJ J1 ?_ ?_
 ·rw[Jc];simp only[XY,simprocAttr,f2,r0,l1]
  obtain⟨I,hI⟩:∃I:Nat->Fr->St->Prop,∀j fr S,I j fr S<->∃(i met:Nat),j+i=l.length/\fr 2= .ptr (up 0 n) 0/\fr 3= .ptr (up 1 n) 0/\fr 5= .ptr kr 0/\fr 16=tv/\fr 17= .int .i64 l.length/\fr 18= .int .i64 i/\Ch (fun r=>r=kr) S2 S/\LookAt P S kr rm l met/\met<=400/\maysS (hasN l) (l.map Prod.snd) 1 0=maysS (hasN l) ((l.map Prod.snd).drop i) 1 met:=⟨_,fun _ _ _=>Iff.rfl⟩
  refine Jq I l.length (by omega) ((hI _ _ _).2 ⟨0,0,by omega,by simp only[XZ,simprocAttr,f2],by simp only[XZ,simprocAttr,f3],by simp only[XZ,simprocAttr],by simp only[XZ,simprocAttr],by simp only[XZ,simprocAttr],by simp only[XZ,simprocAttr]<;>rfl,Ch.refl _ g2.wf,L2,by omega,rfl⟩) ?_
  clear f2 f3
  intro j fr S hIj
  obtain⟨i,met,hj,f2,f3,f5,f16,f17,f18,hC,hL,hmet,hrec⟩:=(hI _ _ _).1 hIj
  by_cases hi:i<l.length
  ·have hi':(i:Int)<l.length:=by omega
   obtain⟨r,q,nv1,kv1,a1,a3,a4,hty,d1,d2,d3,d4⟩:=Jdf h2 (keep hC) hi
   obtain⟨N,hN'⟩:∃N,N=l[i].1:=⟨_,rfl⟩
   obtain⟨T,hT⟩:∃T,T=l[i].2:=⟨_,rfl⟩
   rw[<-hT]at hty
   rw[<-hN',<-hT]at a4
   have hd:(l.map Prod.snd).drop i=T::(l.map Prod.snd).drop (i+1):=by
    rw[List.drop_eq_getElem_cons (by simpa using hi),List.getElem_map,<-hT]
   rw[hd,JE]at hrec
   have wS:=hC.wf
   obtain⟨nS,hnS⟩:∃n,S.nx=up 0 n:=⟨_,up0 _⟩
   have oq:=fun k=>nes (Js wS hnS a3 k)
   have hadd1:IntKind.i64.wrap ((i:Int)+1)=((i+1:Nat):Int):=by rw[Jp (by omega) (by omega)];rfl
   rw[Jc];simp only[XY,simprocAttr,f17,f18,hi']
   rw[Jf];simp only[XY,simprocAttr]
   rw[Jf];simp only[XY,simprocAttr]
   rw[Jc];simp only[XY,simprocAttr,f16,f18,a1,a4,hnS,oq,d1,d2,d3,d4]
   obtain⟨S3,hS3⟩:∃S1,S1=((S.new fun t=> .cells t [ofL [], .int .i64 0,ofL [], .snil, .snil]).wr (up 0 nS) S.t fun u=> .cells u [ofL N, .int .i64 T.kind,ofL T.name,nv1,kv1]):=⟨_,rfl⟩
   have g3:Gr S S3:=by rw[hS3];exact(Gr.refl wS).nw hnS (Ja _) (Ja _)
   obtain⟨t3,r3⟩:∃t,S3.row (up 0 nS)= .cells t [ofL N, .int .i64 T.kind,ofL T.name,nv1,kv1]:=⟨_,by rw[hS3];simp only[XZ,simprocAttr,hnS];rfl⟩
   rw[<-hS3]
   rw[Jc];simp only[XY,simprocAttr,f5,r3]
   refine Jb (mayD (deep:=1) g3.wf (hL.gr g3) (hty.gr g3) (by decide) hmet) ?_
   rintro _ S4 ⟨c4,L4,rfl⟩
   have C4:Ch (fun r=>r=kr) S2 S4:=(hC.trans (Ch.of _ g3) fun r w=> .inl w).trans c4 fun r w=> .inl w
   have hm4:=KV (hasN l) T 1 met hmet
   by_cases he:(mayS (hasN l) T 1 met).1=0
   ·rw[if_neg (by simpa using he)]at hrec
    simp only[XZ,simprocAttr,he,f18,hadd1]
    exact⟨l.length-(i+1),by omega,(hI _ _ _).2 ⟨i+1,_,by omega,by simp only[XZ,simprocAttr,f2],by simp only[XZ,simprocAttr,f3],by simp only[XZ,simprocAttr,f5],by simp only[XZ,simprocAttr,f16],by simp only[XZ,simprocAttr,f17],by simp only[XZ,simprocAttr],C4,L4,hm4.2 he,hrec⟩⟩
   ·rw[if_pos (by simpa using he)]at hrec
    simp only[XZ,simprocAttr,he]
    refine fin _ _ (keep C4) fun _=> ?_
    unfold finS
    rw[if_pos (by rw[hrec];exact he)]
  ·have hi':¬(i:Int)<l.length:=by omega
   rw[List.drop_eq_nil_of_le (by simp;omega),J6]at hrec
   simp only[XZ,simprocAttr,f17,f18,hi']
   exact(hJ1 _ _).2 ⟨met,by simp only[XZ,simprocAttr,f2],by simp only[XZ,simprocAttr,f3],by simp only[XZ,simprocAttr,f5],hC,hL,by rw[hrec]⟩
 clear f2 f3 hIf hI
 intro fr S hJf
 obtain⟨met,f2,f3,f5,hC,hL,hm0⟩:=(hJ1 _ _).1 hJf
 have hcn:=YU (hasN l) (l.map Prod.snd) 1 0 hm0
 have hmt:=(QW (hasN l) (l.map Prod.snd) 1 0 (by decide)).2 hm0
 obtain⟨tk',rk'⟩:=hL.cell
 rw[Jc];simp only[XY,simprocAttr,f5,rk']
 obtain⟨S3,hS3⟩:∃S3,S3=(S.wr kr tk' fun u=> .cells u [.map rm, .int .i64 0]):=⟨_,rfl⟩
 have c3:Ch (fun r=>r=kr) S S3:=by rw[hS3];exact(Ch.refl _ hC.wf).wr (Je rk') (by rw[rk'];rfl) (.inl rfl) (Ja _)
 have L3:LookAt P S3 kr rm l 0:=hL.ch c3 ⟨_,by rw[hS3];exact Jl _ _ _ _⟩
 have C3:Ch (fun r=>r=kr) S2 S3:=hC.trans c3 fun r w=> .inl w
 rw[<-hS3]
 have r1':=kcell C3 r1 n1k
 rw[Jf,Jc];simp only[XY,simprocAttr,f3,f5,r1',ct1,ct2,ct3,ct4]
 refine Jb (mayD (deep:=1) C3.wf L3 (ht0.imp fun r p e=>⟨p,keep C3 r e⟩) (by decide) (by decide)) ?_
 rintro _ S4 ⟨c4,L4,rfl⟩
 have C4:Ch (fun r=>r=kr) S2 S4:=C3.trans c4 fun r w=> .inl w
 by_cases he:(mayS (hasN l) t 1 0).1=0
 rotate_left
 ·simp only[XZ,simprocAttr,he]
  refine fin _ _ (keep C4) fun _=> ?_
  unfold finS
  rw[if_neg (by simpa using hm0),if_pos he]
 have hct:=kO (hasN l) t 1 0 he
 have hmt2:=(KV (hasN l) t 1 0 (by decide)).2 he
 have hfin:finS l t=endsS (fun x=>gB x (roundsS l l.length [])) t 1:=by
  unfold finS
  rw[if_neg (by simpa using hm0),if_neg (by simpa using he)]
 rw[hfin]at fin
 have r0':=kcell C4 r0 n0k
 have r1':=kcell C4 r1 n1k
 have w4:=C4.wf
 obtain⟨n4,hn4⟩:∃n,S4.nx=up 0 n:=⟨_,up0 _⟩
 simp only[XY,simprocAttr,he]
 rw[Jc];simp only[XY,simprocAttr,hn4]
 obtain⟨S5,hS5⟩:∃S5,S5=(S4.new fun t=> .mob t []):=⟨_,rfl⟩
 have g5:Gr S4 S5:=by rw[hS5];exact Gr.new w4 (Kx _)
 obtain⟨rh,hrh⟩:∃p,p=up 0 n4:=⟨_,rfl⟩
 have qh:S4.row rh= .none:=by rw[hrh];exact nx0 w4 hn4 0
 obtain⟨th,mh⟩:∃u,S5.row rh= .mob u ((hasE []).map fun p=>(ofL p.1,p.2)):=⟨_,by rw[hS5,hrh];simp only[XZ,simprocAttr,hn4];rfl⟩
 rw[<-hS5,<-hrh]
 clear hS5
 have keep4:∀{S':St},Gr S4 S'->∀r,st.row r≠ .none->S'.row r=st.row r:=fun g r e=>by rw[g.same r (by rw[keep C4 r e];exact e),keep C4 r e]
 obtain⟨J2,hJ2⟩:∃J:Fr->St->Prop,∀fr S,J fr S<->(fr 3= .ptr (up 1 n) 0/\fr 8= .map rh/\Gr S4 S/\∃u,S.row rh= .mob u ((hasE (roundsS l l.length [])).map fun p=>(ofL p.1,p.2))):=⟨_,fun _ _=>Iff.rfl⟩
 refine JJ J2 ?_ ?_
 ·have r0'':=g5.cells r0'
  rw[Jc];simp only[XY,simprocAttr,f2,r0'',l1]
  obtain⟨I,hI⟩:∃I:Nat->Fr->St->Prop,∀j fr S,I j fr S<->∃(i:Nat) (has:List (Str×Bool)),j+i=l.length/\fr 2= .ptr (up 0 n) 0/\fr 3= .ptr (up 1 n) 0/\fr 8= .map rh/\fr 38= .int .i64 l.length/\fr 39= .int .i64 i/\Gr S4 S/\(∃u,S.row rh= .mob u ((hasE has).map fun p=>(ofL p.1,p.2)))/\roundsS l l.length []=roundsS l (l.length-i) has:=⟨_,fun _ _ _=>Iff.rfl⟩
  refine Jq I l.length (by omega) ((hI _ _ _).2 ⟨0,[],by omega,by simp only[XZ,simprocAttr,f2],by simp only[XZ,simprocAttr,f3],by simp only[XZ,simprocAttr],by simp only[XZ,simprocAttr],by simp only[XZ,simprocAttr]<;>rfl,g5,⟨th,mh⟩,rfl⟩) ?_
  clear f2 f3 f5
  intro j fr S hIj
  obtain⟨i,has,hj,f2,f3,f8,f38,f39,hg,hmob,hrec⟩:=(hI _ _ _).1 hIj
  by_cases hi:i<l.length
  ·have hi':(i:Int)<l.length:=by omega
   have hadd1:IntKind.i64.wrap ((i:Int)+1)=((i+1:Nat):Int):=by rw[Jp (by omega) (by omega)];rfl
   have rS:=hg.cells r0'
   have hst:l.length-i=(l.length-(i+1))+1:=by omega
   rw[hst,Jgh]at hrec
   rw[Jc];simp only[XY,simprocAttr,f38,f39,hi']
   rw[Jf];simp only[XY,simprocAttr]
   obtain⟨J3,hJ3⟩:∃J:Fr->St->Prop,∀fr S,J fr S<->(fr 2= .ptr (up 0 n) 0/\fr 3= .ptr (up 1 n) 0/\fr 8= .map rh/\fr 38= .int .i64 l.length/\fr 39= .int .i64 i/\Gr S4 S/\∃u,S.row rh= .mob u ((hasE (roundS l has)).map fun p=>(ofL p.1,p.2))):=⟨_,fun _ _=>Iff.rfl⟩
   refine JJ J3 ?_ ?_
   ·simp only[XY,simprocAttr]
    rw[Jc];simp only[XY,simprocAttr,f2,rS,l1]
    obtain⟨I2,hI2⟩:∃I:Nat->Fr->St->Prop,∀j fr S,I j fr S<->∃(k:Nat) (hk:List (Str×Bool)),j+k=l.length/\fr 2= .ptr (up 0 n) 0/\fr 3= .ptr (up 1 n) 0/\fr 8= .map rh/\fr 38= .int .i64 l.length/\fr 39= .int .i64 i/\fr 42=tv/\fr 43= .int .i64 l.length/\fr 44= .int .i64 k/\Gr S4 S/\(∃u,S.row rh= .mob u ((hasE hk).map fun p=>(ofL p.1,p.2)))/\roundS l has=roundS (l.drop k) hk:=⟨_,fun _ _ _=>Iff.rfl⟩
    refine Jq I2 l.length (by omega) ((hI2 _ _ _).2 ⟨0,has,by omega,by simp only[XZ,simprocAttr,f2],by simp only[XZ,simprocAttr,f3],by simp only[XZ,simprocAttr,f8],by simp only[XZ,simprocAttr,f38],by simp only[XZ,simprocAttr,f39],by simp only[XZ,simprocAttr],by simp only[XZ,simprocAttr],by simp only[XZ,simprocAttr]<;>rfl,hg,hmob,rfl⟩) ?_
    clear f2 f3 f8 f38 f39
    intro j2 fr S hIj
    obtain⟨k,hk,hj2,f2,f3,f8,f38,f39,f42,f43,f44,hg,⟨th,hmob⟩,hrec2⟩:=(hI2 _ _ _).1 hIj
    by_cases hkl:k<l.length
    ·have hkl':(k:Int)<l.length:=by omega
     have hadd2:IntKind.i64.wrap ((k:Int)+1)=((k+1:Nat):Int):=by rw[Jp (by omega) (by omega)];rfl
     obtain⟨r,q,nv1,kv1,a1,a3,a4,hty,d1,d2,d3,d4⟩:=Jdf h2 (keep4 hg) hkl
     have hcnt:cntT l[k].2<1000000:=by
      have:=kq (ks:=l.map Prod.snd) (i:=k) (by simpa using hkl)
      rw[List.getElem_map]at this
      omega
     rw[List.drop_eq_getElem_cons hkl,Jh4]at hrec2
     obtain⟨N,hN'⟩:∃N,N=l[k].1:=⟨_,rfl⟩
     obtain⟨T,hT⟩:∃T,T=l[k].2:=⟨_,rfl⟩
     rw[<-hT]at hty hcnt
     rw[<-hN',<-hT]at a4 hrec2
     have wS:=hg.wf
     obtain⟨nS,hnS⟩:∃n,S.nx=up 0 n:=⟨_,up0 _⟩
     have oq:=fun k=>nes (Js wS hnS a3 k)
     rw[Jc];simp only[XY,simprocAttr,f43,f44,hkl']
     rw[Jf];simp only[XY,simprocAttr]
     rw[Jf];simp only[XY,simprocAttr]
     rw[Jc];simp only[XY,simprocAttr,f42,f44,a1,a4,hnS,oq,d1,d2,d3,d4]
     obtain⟨S1,hS1⟩:∃S1,S1=((S.new fun t=> .cells t [ofL [], .int .i64 0,ofL [], .snil, .snil]).wr (up 0 nS) S.t fun u=> .cells u [ofL N, .int .i64 T.kind,ofL T.name,nv1,kv1]):=⟨_,rfl⟩
     have g1:Gr S S1:=by rw[hS1];exact(Gr.refl wS).nw hnS (Ja _) (Ja _)
     obtain⟨t1,rb⟩:∃t,S1.row (up 0 nS)= .cells t [ofL N, .int .i64 T.kind,ofL T.name,nv1,kv1]:=⟨_,by rw[hS1];simp only[XZ,simprocAttr,hnS];rfl⟩
     rw[<-hS1]
     have hmne:S.row rh≠ .none:=by rw[hmob];exact fun e=>by cases e
     have m1:S1.row rh= .mob th ((hasE hk).map fun p=>(ofL p.1,p.2)):=by rw[g1.same rh hmne,hmob]
     have hlk:=Yg (enc:=ofL) (e:= .one .s) ⟨th,m1⟩ (.bool false) false N (Q9 N _) rfl
     rw[JiP]at hlk
     have G1:=hg.trans g1
     have stp:∀(S6:St) (b:Bool),Gr S1 S6->b=(gB N hk||endsS (fun x=>gB x hk) T 1)->Gr S4 (S6.wr rh th fun u=> .mob u ((hasE (sB N b hk)).map fun p=>(ofL p.1,p.2)))/\(∃u,(S6.wr rh th fun u=> .mob u ((hasE (sB N b hk)).map fun p=>(ofL p.1,p.2))).row rh= .mob u ((hasE (sB N b hk)).map fun p=>(ofL p.1,p.2)))/\roundS l has=roundS (l.drop (k+1)) (sB N b hk):=fun S6 b g hb=>by
      have m6:S6.row rh= .mob th ((hasE hk).map fun p=>(ofL p.1,p.2)):=by rw[g.same rh (by rw[m1];exact fun e=>by cases e),m1]
      exact⟨(G1.trans g).wr qh (by rw[m6];exact fun e=>by cases e) (by rw[m6];rfl) (Kx _),⟨_,Jl _ _ _ _⟩,by rw[hrec2,hb]⟩
     cases hb:gB N hk with
     | true=>
       have hup:=qz (enc:=ofL) (e:= .one .s) m1 N (.bool true) (Q9 N _) rfl
       rw[Jgg]at hup
       obtain⟨s1,s2,s3⟩:=stp S1 true (Gr.refl g1.wf) (by rw[hb];rfl)
       rw[hb]at hlk
       simp only[XZ,simprocAttr,f8,hlk,hup,Jk,f44,hadd2]
       exact⟨l.length-(k+1),by omega,(hI2 _ _ _).2 ⟨k+1,_,by omega,by simp only[XZ,simprocAttr,f2],by simp only[XZ,simprocAttr,f3],by simp only[XZ,simprocAttr,f8],by simp only[XZ,simprocAttr,f38],by simp only[XZ,simprocAttr,f39],by simp only[XZ,simprocAttr,f42],by simp only[XZ,simprocAttr,f43],by simp only[XZ,simprocAttr],s1,s2,s3⟩⟩
     | false=>
       rw[hb]at hlk
       simp only[XY,simprocAttr,f8,hlk,rb]
       refine Jn (endsC _ T (Nat.lt_succ_self _) P _ rh hk _ 1 (JB g1.wf S1.t) ⟨th,m1⟩ ((hty.gr g1).imp fun r p _=>⟨p,rfl⟩) (by decide) (by omega)) ?_
       rintro _ S6 g6 rfl
       have m6:S6.row rh= .mob th ((hasE hk).map fun p=>(ofL p.1,p.2)):=by rw[g6.same rh (by rw[m1];exact fun e=>by cases e),m1]
       obtain⟨b,hbb⟩:∃b,b=endsS (fun x=>gB x hk) T 1:=⟨_,rfl⟩
       rw[<-hbb]
       have hup:=qz (enc:=ofL) (e:= .one .s) m6 N (.bool b) (Q9 N _) rfl
       rw[Jgg]at hup
       obtain⟨s1,s2,s3⟩:=stp S6 b g6 (by rw[hb,hbb];rfl)
       simp only[XZ,simprocAttr,hup,Jk,f44,hadd2]
       exact⟨l.length-(k+1),by omega,(hI2 _ _ _).2 ⟨k+1,_,by omega,by simp only[XZ,simprocAttr,f2],by simp only[XZ,simprocAttr,f3],by simp only[XZ,simprocAttr,f8],by simp only[XZ,simprocAttr,f38],by simp only[XZ,simprocAttr,f39],by simp only[XZ,simprocAttr,f42],by simp only[XZ,simprocAttr,f43],by simp only[XZ,simprocAttr],s1,s2,s3⟩⟩
    ·have hkl':¬(k:Int)<l.length:=by omega
     rw[List.drop_eq_nil_of_le (by omega)]at hrec2
     have hrec2:roundS l has=hk:=hrec2
     simp only[XZ,simprocAttr,f43,f44,hkl']
     exact(hJ3 _ _).2 ⟨by simp only[XZ,simprocAttr,f2],by simp only[XZ,simprocAttr,f3],by simp only[XZ,simprocAttr,f8],by simp only[XZ,simprocAttr,f38],by simp only[XZ,simprocAttr,f39],hg,th,by rw[hrec2];exact hmob⟩
   clear f2 f3 f8 f38 f39
   intro fr S hJf
   obtain⟨f2,f3,f8,f38,f39,hg,hmob⟩:=(hJ3 _ _).1 hJf
   simp only[XZ,simprocAttr,f39,hadd1]
   exact⟨l.length-(i+1),by omega,(hI _ _ _).2 ⟨i+1,_,by omega,by simp only[XZ,simprocAttr,f2],by simp only[XZ,simprocAttr,f3],by simp only[XZ,simprocAttr,f8],by simp only[XZ,simprocAttr,f38],by simp only[XZ,simprocAttr],hg,hmob,hrec⟩⟩
  ·have hi':¬(i:Int)<l.length:=by omega
   have h0:l.length-i=0:=by omega
   rw[h0]at hrec
   have hrec:roundsS l l.length []=has:=hrec
   simp only[XZ,simprocAttr,f38,f39,hi']
   exact(hJ2 _ _).2 ⟨by simp only[XZ,simprocAttr,f3],by simp only[XZ,simprocAttr,f8],hg,by rw[hrec];exact hmob⟩
 clear f2 f3 f5
 intro fr S hJf
 obtain⟨f3,f8,hg,⟨u,hmob⟩⟩:=(hJ2 _ _).1 hJf
 have rS:=hg.cells r1'
 simp only[XZ,simprocAttr,f3,f8,rS,ct1,ct2,ct3,ct4]
 refine Jb (endsC _ t (Nat.lt_succ_self _) P S rh (roundsS l l.length []) _ 1 hg.wf ⟨u,hmob⟩ (ht0.imp fun r p e=>⟨p,keep4 hg r e⟩) (by decide) (by omega)) ?_
 rintro _ S6 ⟨g6,rfl⟩
 simp only[XZ,simprocAttr]
 exact fin _ _ (keep4 (hg.trans g6)) fun _=>rfl
theorem finiteC {P:Pt->Prop}{st:St}{e1 e2:List V}{s:Sch}{t:Ty}(hw:WF st)(h:SchC P st e1 s)(ht:TyC P st e2 t)(hl:s.types.length<=1000)(hd:(s.types.map Prod.fst).Nodup):
  Does (tabT tabD) qe [.agg e1, .agg e2] st fun v' st'=>Gr st st'/\v'= .bool (finS s.types t):=
 finiteP (P:=fun r=>P r/\st.row r≠ .none) hw (h.imp fun r p e=>⟨⟨p,e⟩,rfl⟩) (ht.imp fun r p e=>⟨⟨p,e⟩,rfl⟩) (fun r p=>p.2) hl hd
set_option maxHeartbeats 8000000 in
theorem checkP {P:Pt->Prop}{st:St}{e1:List V}{s:Sch}(hw:WF st)(h:SchC P st e1 s)(hP:∀r,P r->st.row r≠ .none):
  Does (tabT tabD) kF [.agg e1] st fun v' st'=>Gr st st'/\v'= .int .i64 (checkS s):=by
 refine Jw tabM j7 rfl hw fun K fin=> ?_
 obtain⟨n,hn0⟩:∃n,st.nx=up 0 n:=⟨_,up0 _⟩
 have hchk:=JbW s
 have hev:=Jfw s
 have hsch:=h
 obtain⟨c,tv,sv,rfl,h1,h2,h3⟩:=h
 obtain⟨M,hM⟩:∃M,M=s.main:=⟨_,rfl⟩
 obtain⟨l,hll⟩:∃l,l=s.types:=⟨_,rfl⟩
 obtain⟨fs,hfs⟩:∃l,l=s.sigs:=⟨_,rfl⟩
 rw[<-hM]at h1
 rw[<-hll]at h2
 rw[<-hfs]at h3
 rw[<-hll,<-hM,<-hfs]at hchk hev
 have hM0:=h1
 obtain⟨nv,kv,es,rfl,x1,x2,x3,x4⟩:=h1.inv
 have l1:=h2.len
 have l2:=h3.len
 have cs1:=x1.cells
 have cs2:=x1.sc
 have cs3:=x2.cells
 have cs4:=x2.sc
 have cv1:=h2.sc
 have cv2:=h3.sc
 simp only[Qk,XY,simprocAttr]
 rw[Jc];simp only[XY,simprocAttr,hn0,cs1,cs2,cs3,cs4,cv1.1,cv1.2,cv2.1,cv2.2]
 obtain⟨S,hS⟩:∃S0,S0=(st.new fun t=> .cells t [.int .i64 M.kind,ofL M.name,nv,kv,tv,sv]):=⟨_,rfl⟩
 have g0:Gr st S:=by rw[hS];exact Gr.new hw (Ja _)
 obtain⟨t0,r0⟩:∃t,S.row (up 0 n)= .cells t [.int .i64 M.kind,ofL M.name,nv,kv,tv,sv]:=⟨_,by rw[hS];simp only[XZ,simprocAttr,hn0];rfl⟩
 rw[<-hS]
 clear hS
 by_cases b1:12<l.length
 ·have b1':(12:Int)<l.length:=by omega
  rw[Jf,Jc];simp only[XZ,simprocAttr,r0,l1,b1']
  refine fin _ _ (fun r e=>g0.same r e) fun _=> ?_
  rw[hchk,if_pos (.inl b1)]
 have b1':¬(12:Int)<l.length:=by omega
 by_cases b2:12<fs.length
 ·have b2':(12:Int)<fs.length:=by omega
  rw[Jf,Jc];simp only[XZ,simprocAttr,r0,l1,l2,b1',b2']
  refine fin _ _ (fun r e=>g0.same r e) fun _=> ?_
  rw[hchk,if_pos (.inr b2)]
 have b2':¬(12:Int)<fs.length:=by omega
 rw[if_neg (fun h=>by rcases h with h|h;exact b1 h;exact b2 h)]at hchk
 rw[Jf,Jc];simp only[XY,simprocAttr,r0,l1,l2,b1',b2']
 rw[Jf,Jc];simp only[XY,simprocAttr,r0]
 refine Jb (typesC (P:=P) g0.wf (h2.imp (fun e x h=>h.imp fun r p e=>⟨p,g0.same r e⟩) fun r p e=>⟨p,g0.same r e⟩) (by omega)) ?_
 rintro _ S1 ⟨g1,rfl⟩
 have G1:=g0.trans g1
 have r0:=g1.cells r0
 by_cases ht0:typesS none (l.map Prod.fst)=0
 rotate_left
 ·simp only[XZ,simprocAttr,ht0]
  refine fin _ _ (fun r e=>G1.same r e) fun _=> ?_
  rw[hchk,if_pos ht0]
 rw[if_neg (fun h=>h ht0)]at hchk
 have hnd:=Jba ht0
 simp only[XY,simprocAttr]
 rw[Jc];simp only[XY,simprocAttr,ht0]
 rw[Jc];simp only[XY,simprocAttr,r0]
 refine Jb (namedC (P:=P) g1.wf (hsch.imp fun r p e=>⟨p,G1.same r e⟩) (by rw[<-hll];omega) (by rw[<-hll];exact hnd)) ?_
 rintro _ S2 ⟨g2,rm,rfl,hrm,hnm⟩
 rw[<-hll]at hnm
 have r0:=g2.cells r0
 have G2:=G1.trans g2
 have w2:=g2.wf
 obtain⟨n2,hn2⟩:∃n,S2.nx=up 0 n:=⟨_,up0 _⟩
 simp only[XY,simprocAttr,hn2,Ja2,Y1]
 obtain⟨S3,hS3⟩:∃S3,S3=(S2.new fun t=> .cells t [.map rm, .int .i64 0]):=⟨_,rfl⟩
 have g3:Gr S2 S3:=by rw[hS3];exact Gr.new w2 (Ja _)
 obtain⟨kr,hkr⟩:∃p,p=up 0 n2:=⟨_,rfl⟩
 obtain⟨tk,rk⟩:∃u,S3.row kr= .cells u [.map rm, .int .i64 0]:=⟨_,by rw[hS3,hkr];simp only[XZ,simprocAttr,hn2];rfl⟩
 have qk2:S2.row kr= .none:=by rw[hkr];exact nx0 w2 hn2 0
 rw[<-hS3,<-hkr]
 clear hS3
 have G3:=G2.trans g3
 have n0k:up 0 n≠kr:=fun h=>by rw[h,qk2]at r0;cases r0
 have r0:=g3.cells r0
 have hmn:S2.row rm≠ .none:=by obtain⟨_,h,_⟩:=hnm;exact h.ne
 have qk:st.row kr= .none:=Ch.fresh (Ch.of (fun _=>False) G2) qk2
 have old_k:∀r,st.row r≠ .none->r≠kr:=fun r e h=>e (by rw[h];exact qk)
 have L3:LookAt P S3 kr rm l 0:=
  ⟨hnm.imp (g3.same rm hmn) fun r p e=>⟨p,g3.same r e⟩,⟨tk,rk⟩,fun r p=>old_k r (hP r p),fun e=>hmn (by rw[e];exact qk2)⟩
 have keep:∀{S':St},Ch (fun r=>r=kr) S3 S'->∀r,st.row r≠ .none->S'.row r=st.row r:=fun c r e=>by rw[c.same r (by rw[G3.same r e];exact e) (old_k r e),G3.same r e]
 have kcell:∀{S':St} {p:Pt} {u:Nat} {x:List V},Ch (fun r=>r=kr) S3 S'->S3.row p= .cells u x->p≠kr->S'.row p= .cells u x:=fun c e n=>by rw[c.same _ (Je e) n,e]
 obtain⟨J1,hJ1⟩:∃J:Fr->St->Prop,∀fr S,J fr S<->(fr 1= .ptr (up 0 n) 0/\fr 4= .ptr kr 0/\Ch (fun r=>r=kr) S3 S/\LookAt P S kr rm l (maysS (hasN l) (l.map Prod.snd) 1 0).2/\(maysS (hasN l) (l.map Prod.snd) 1 0).1=0):=⟨_,fun _ _=>Iff.rfl⟩
 refine JJ J1 ?_ ?_
 ·rw[Jc];simp only[XY,simprocAttr,r0,l1]
  obtain⟨I,hI⟩:∃I:Nat->Fr->St->Prop,∀j fr S,I j fr S<->∃(i met:Nat),j+i=l.length/\fr 1= .ptr (up 0 n) 0/\fr 4= .ptr kr 0/\fr 33=tv/\fr 34= .int .i64 l.length/\fr 35= .int .i64 i/\Ch (fun r=>r=kr) S3 S/\LookAt P S kr rm l met/\met<=400/\maysS (hasN l) (l.map Prod.snd) 1 0=maysS (hasN l) ((l.map Prod.snd).drop i) 1 met:=⟨_,fun _ _ _=>Iff.rfl⟩
  refine Jq I l.length (by omega) ((hI _ _ _).2 ⟨0,0,by omega,by simp only[XZ,simprocAttr],by simp only[XZ,simprocAttr],by simp only[XZ,simprocAttr],by simp only[XZ,simprocAttr],by simp only[XZ,simprocAttr]<;>rfl,Ch.refl _ g3.wf,L3,by omega,rfl⟩) ?_
  intro j fr S hIj
  obtain⟨i,met,hj,f1,f4,f33,f34,f35,hC,hL,hmet,hrec⟩:=(hI _ _ _).1 hIj
  by_cases hi:i<l.length
  ·have hi':(i:Int)<l.length:=by omega
   obtain⟨r,q,nv1,kv1,a1,a3,a4,hty,d1,d2,d3,d4⟩:=Jdf h2 (keep hC) hi
   obtain⟨N,hN'⟩:∃N,N=l[i].1:=⟨_,rfl⟩
   obtain⟨T,hT⟩:∃T,T=l[i].2:=⟨_,rfl⟩
   rw[<-hT]at hty
   rw[<-hN',<-hT]at a4
   have hd:(l.map Prod.snd).drop i=T::(l.map Prod.snd).drop (i+1):=by
    rw[List.drop_eq_getElem_cons (by simpa using hi),List.getElem_map,<-hT]
   rw[hd,JE]at hrec
   have wS:=hC.wf
   obtain⟨nS,hnS⟩:∃n,S.nx=up 0 n:=⟨_,up0 _⟩
   have oq:=fun k=>nes (Js wS hnS a3 k)
   have hadd1:IntKind.i64.wrap ((i:Int)+1)=((i+1:Nat):Int):=by rw[Jp (by omega) (by omega)];rfl
   rw[Jc];simp only[XY,simprocAttr,f34,f35,hi']
   rw[Jf];simp only[XY,simprocAttr]
   rw[Jf];simp only[XY,simprocAttr]
   rw[Jc];simp only[XY,simprocAttr,f33,f35,a1,a4,hnS,oq,d1,d2,d3,d4]
   obtain⟨S4,hS4⟩:∃S1,S1=((S.new fun t=> .cells t [ofL [], .int .i64 0,ofL [], .snil, .snil]).wr (up 0 nS) S.t fun u=> .cells u [ofL N, .int .i64 T.kind,ofL T.name,nv1,kv1]):=⟨_,rfl⟩
   have g4:Gr S S4:=by rw[hS4];exact(Gr.refl wS).nw hnS (Ja _) (Ja _)
   obtain⟨t4,r4⟩:∃t,S4.row (up 0 nS)= .cells t [ofL N, .int .i64 T.kind,ofL T.name,nv1,kv1]:=⟨_,by rw[hS4];simp only[XZ,simprocAttr,hnS];rfl⟩
   rw[<-hS4]
   rw[Jc];simp only[XY,simprocAttr,f4,r4]
   refine Jb (mayD (deep:=1) g4.wf (hL.gr g4) (hty.gr g4) (by decide) hmet) ?_
   rintro _ S5 ⟨c5,L5,rfl⟩
   have C5:Ch (fun r=>r=kr) S3 S5:=(hC.trans (Ch.of _ g4) fun r w=> .inl w).trans c5 fun r w=> .inl w
   have hm4:=KV (hasN l) T 1 met hmet
   by_cases he:(mayS (hasN l) T 1 met).1=0
   ·rw[if_neg (by simpa using he)]at hrec
    simp only[XZ,simprocAttr,he,f35,hadd1]
    exact⟨l.length-(i+1),by omega,(hI _ _ _).2 ⟨i+1,_,by omega,by simp only[XZ,simprocAttr,f1],by simp only[XZ,simprocAttr,f4],by simp only[XZ,simprocAttr,f33],by simp only[XZ,simprocAttr,f34],by simp only[XZ,simprocAttr],C5,L5,hm4.2 he,hrec⟩⟩
   ·rw[if_pos (by simpa using he)]at hrec
    simp only[XZ,simprocAttr,he]
    refine fin _ _ (keep C5) fun _=> ?_
    rw[hchk,hrec,if_pos he]
  ·have hi':¬(i:Int)<l.length:=by omega
   rw[List.drop_eq_nil_of_le (by simp;omega),J6]at hrec
   simp only[XZ,simprocAttr,f34,f35,hi']
   exact(hJ1 _ _).2 ⟨by simp only[XZ,simprocAttr,f1],by simp only[XZ,simprocAttr,f4],hC,by rw[hrec];exact hL,by rw[hrec]⟩
 intro fr S hJf
 obtain⟨f1,f4,hC,hL,hm0⟩:=(hJ1 _ _).1 hJf
 rw[if_neg (fun h=>h hm0)]at hchk
 have hcn:=YU (hasN l) (l.map Prod.snd) 1 0 hm0
 have hmt:=(QW (hasN l) (l.map Prod.snd) 1 0 (by decide)).2 hm0
 obtain⟨m1,hm1⟩:∃m,m=(maysS (hasN l) (l.map Prod.snd) 1 0).2:=⟨_,rfl⟩
 rw[<-hm1]at hchk hL hmt hcn
 have r0':=kcell hC r0 n0k
 rw[Jf,Jc];simp only[XY,simprocAttr,f1,f4,r0',cs1,cs2,cs3,cs4]
 refine Jb (mayD (deep:=1) hC.wf hL (hM0.imp fun r p e=>⟨p,keep hC r e⟩) (by decide) hmt) ?_
 rintro _ S4 ⟨c4,L4,rfl⟩
 have C4:Ch (fun r=>r=kr) S3 S4:=hC.trans c4 fun r w=> .inl w
 by_cases he:(mayS (hasN l) M 1 m1).1=0
 rotate_left
 ·simp only[XZ,simprocAttr,he]
  refine fin _ _ (keep C4) fun _=> ?_
  rw[hchk,if_pos he]
 rw[if_neg (fun h=>h he)]at hchk
 have hcnM:=kO (hasN l) M 1 m1 he
 have hmM:=(KV (hasN l) M 1 m1 hmt).2 he
 obtain⟨m2,hm2⟩:∃m,m=(mayS (hasN l) M 1 m1).2:=⟨_,rfl⟩
 rw[<-hm2]at hchk L4 hmM hcnM
 simp only[XY,simprocAttr]
 rw[Jc];simp only[XY,simprocAttr,he]
 have r0':=kcell C4 r0 n0k
 rw[Jf,Jc];simp only[XY,simprocAttr,f1,f4,r0']
 refine Jb (sigsC C4.wf L4 (h3.imp (fun e x h=>h.imp fun r p e=>⟨p,keep C4 r e⟩) fun r p e=>⟨p,keep C4 r e⟩) (by omega) hmM) ?_
 rintro _ S5 ⟨c5,L5,rfl⟩
 have C5:Ch (fun r=>r=kr) S3 S5:=C4.trans c5 fun r w=> .inl w
 by_cases hs0:(sigsS (hasN l) none fs m2).1=0
 rotate_left
 ·simp only[XZ,simprocAttr,hs0]
  refine fin _ _ (keep C5) fun _=> ?_
  rw[hchk,if_pos hs0]
 rw[if_neg (fun h=>h hs0)]at hchk
 obtain⟨hp4,hpc,hms⟩:=Jbb (hasN l) none fs m2 hmM hs0
 obtain⟨m3,hm3⟩:∃m,m=(sigsS (hasN l) none fs m2).2:=⟨_,rfl⟩
 rw[<-hm3]at L5 hms
 simp only[XY,simprocAttr]
 rw[Jc];simp only[XY,simprocAttr,hs0]
 have r0':=kcell C5 r0 n0k
 have kst5:∀{S':St},Gr S5 S'->∀r,st.row r≠ .none->S'.row r=st.row r:=fun g r e=>by rw[g.same r (by rw[keep C5 r e];exact e),keep C5 r e]
 obtain⟨J2,hJ2⟩:∃J:Fr->St->Prop,∀fr S,J fr S<->(fr 1= .ptr (up 0 n) 0/\fr 4= .ptr kr 0/\Gr S5 S/\(l.any fun p=> !finS l p.2)=false):=⟨_,fun _ _=>Iff.rfl⟩
 refine JJ J2 ?_ ?_
 ·rw[Jc];simp only[XY,simprocAttr,f1,r0',l1]
  obtain⟨I,hI⟩:∃I:Nat->Fr->St->Prop,∀j fr S,I j fr S<->∃(i:Nat),j+i=l.length/\fr 1= .ptr (up 0 n) 0/\fr 4= .ptr kr 0/\fr 62=tv/\fr 63= .int .i64 l.length/\fr 64= .int .i64 i/\Gr S5 S/\(l.any fun p=> !finS l p.2)=((l.drop i).any fun p=> !finS l p.2):=⟨_,fun _ _ _=>Iff.rfl⟩
  refine Jq I l.length (by omega) ((hI _ _ _).2 ⟨0,by omega,by simp only[XZ,simprocAttr,f1],by simp only[XZ,simprocAttr,f4],by simp only[XZ,simprocAttr],by simp only[XZ,simprocAttr],by simp only[XZ,simprocAttr]<;>rfl,Gr.refl C5.wf,rfl⟩) ?_
  clear f1 f4
  intro j fr S hIj
  obtain⟨i,hj,f1,f4,f62,f63,f64,hg,hrec⟩:=(hI _ _ _).1 hIj
  by_cases hi:i<l.length
  ·have hi':(i:Int)<l.length:=by omega
   obtain⟨r,q,nv1,kv1,a1,a3,a4,hty,d1,d2,d3,d4⟩:=Jdf h2 (kst5 hg) hi
   rw[List.drop_eq_getElem_cons hi,List.any_cons]at hrec
   obtain⟨N,hN'⟩:∃N,N=l[i].1:=⟨_,rfl⟩
   obtain⟨T,hT⟩:∃T,T=l[i].2:=⟨_,rfl⟩
   rw[<-hT]at hty hrec
   rw[<-hN',<-hT]at a4
   have wS:=hg.wf
   obtain⟨nS,hnS⟩:∃n,S.nx=up 0 n:=⟨_,up0 _⟩
   have oq:=fun k=>nes (Js wS hnS a3 k)
   have hadd1:IntKind.i64.wrap ((i:Int)+1)=((i+1:Nat):Int):=by rw[Jp (by omega) (by omega)];rfl
   rw[Jc];simp only[XY,simprocAttr,f63,f64,hi']
   rw[Jf];simp only[XY,simprocAttr]
   rw[Jf];simp only[XY,simprocAttr]
   rw[Jc];simp only[XY,simprocAttr,f62,f64,a1,a4,hnS,oq,d1,d2,d3,d4]
   obtain⟨S6,hS6⟩:∃S1,S1=((S.new fun t=> .cells t [ofL [], .int .i64 0,ofL [], .snil, .snil]).wr (up 0 nS) S.t fun u=> .cells u [ofL N, .int .i64 T.kind,ofL T.name,nv1,kv1]):=⟨_,rfl⟩
   have g6:Gr S S6:=by rw[hS6];exact(Gr.refl wS).nw hnS (Ja _) (Ja _)
   obtain⟨t6,r6⟩:∃t,S6.row (up 0 nS)= .cells t [ofL N, .int .i64 T.kind,ofL T.name,nv1,kv1]:=⟨_,by rw[hS6];simp only[XZ,simprocAttr,hnS];rfl⟩
   rw[<-hS6]
   have G6:=hg.trans g6
   have r0S:=G6.cells r0'
   rw[Jc];simp only[XY,simprocAttr,f1,r0S,r6]
   refine Jb (finiteC (s:=s) G6.wf (hsch.imp fun r p e=>⟨p,kst5 G6 r e⟩) (hty.gr g6) (by rw[<-hll];omega) (by rw[<-hll];exact hnd)) ?_
   rw[<-hll]
   rintro _ S7 ⟨g7,rfl⟩
   cases hf:finS l T with
   | true=>
     rw[hf]at hrec
     simp only[XZ,simprocAttr,f64,hadd1]
     exact⟨l.length-(i+1),by omega,(hI _ _ _).2 ⟨i+1,by omega,by simp only[XZ,simprocAttr,f1],by simp only[XZ,simprocAttr,f4],by simp only[XZ,simprocAttr,f62],by simp only[XZ,simprocAttr,f63],by simp only[XZ,simprocAttr],G6.trans g7,by rw[hrec];rfl⟩⟩
   | false=>
     rw[hf]at hrec
     simp only[XZ,simprocAttr]
     refine fin _ _ (kst5 (G6.trans g7)) fun _=> ?_
     rw[hchk,hrec];rfl
  ·have hi':¬(i:Int)<l.length:=by omega
   rw[List.drop_eq_nil_of_le (by omega)]at hrec
   simp only[XZ,simprocAttr,f63,f64,hi']
   exact(hJ2 _ _).2 ⟨by simp only[XZ,simprocAttr,f1],by simp only[XZ,simprocAttr,f4],hg,hrec⟩
 clear f1 f4
 intro fr S hJf
 obtain⟨f1,f4,hg,hany⟩:=(hJ2 _ _).1 hJf
 rw[hany]at hchk
 have hchk:checkS s=if optssS l (everyS s)then 17 else 0:=hchk
 have r0S:=hg.cells r0'
 rw[Jf,Jc];simp only[XY,simprocAttr,f1,r0S,cs1,cs2,cs3,cs4,cv1.1,cv1.2,cv2.1,cv2.2]
 refine Jb (everyC (P:=P) (Q:=fun r=>P r\/S.row r= .none) hg.wf (hsch.imp fun r p e=>⟨p,kst5 hg r e⟩) (by rw[<-hll];omega) (by rw[<-hfs];omega) (fun f hf=>by have:=hp4 f (by rw[hfs];exact hf);omega) (fun r p=> .inl p) fun r p=> .inr p) ?_
 rintro ev S6 ⟨g6,hevl⟩
 have kS:S.row kr≠ .none:=by rw[hg.same kr L5.krne];exact L5.krne
 have LS:LookAt (fun r=>P r\/S.row r= .none) S kr rm l m3:=by
  have:=L5.gr hg
  exact⟨this.map.imp rfl fun r p _=>⟨.inl p,rfl⟩,this.cell,fun r p=>by rcases p with p|p;exact this.sep r p;exact fun e=>kS (by rw[<-e];exact p),this.ne⟩
 have hcnt:∀t∈everyS s,cntT t<1000000:=fun t ht=>by
  rw[hev]at ht
  rcases List.mem_append.1 ht with ht|ht
  ·rcases List.mem_append.1 ht with ht|ht
   ·have:=Jde ht;omega
   ·rw[List.mem_singleton.1 ht];omega
  ·unfold sgTys at ht
   obtain⟨x,hx,htx⟩:=List.mem_flatten.1 ht
   obtain⟨f,hf,rfl⟩:=List.mem_map.1 hx
   have h5:=Jde htx
   have h6:=hpc f hf
   omega
 have hlenE:(everyS s).length<1000000:=by
  have hk:=Jb2 fs fun f hf=>by have:=hp4 f hf;omega
  rw[hev]
  simp only[List.length_append,List.length_map,List.length_singleton]
  omega
 simp only[XY,simprocAttr,f4]
 refine Jb (Q1 (fa:=[.ptr kr 0]) (fb:=[]) (optsS l) g6.wf hevl hlenE fun i hi S' E' g' hE'=>optsC _ _ (Nat.lt_succ_self _) _ S' kr rm l m3 E' g'.wf (LS.gr (g6.trans g')) hE' (by omega) (hcnt _ (List.getElem_mem hi))) ?_
 rintro _ S7 ⟨g7,rfl⟩
 rw[Y5]at hchk
 have GF:=kst5 (hg.trans (g6.trans g7))
 cases ho:(everyS s).any (optsS l)with
 | true=>
   simp only[XZ,simprocAttr]
   refine fin _ _ GF fun _=> ?_
   rw[hchk,ho];rfl
 | false=>
   simp only[XZ,simprocAttr]
   refine fin _ _ GF fun _=> ?_
   rw[hchk,ho];rfl
theorem checkC {P:Pt->Prop}{st:St}{e1:List V}{s:Sch}(hw:WF st)(h:SchC P st e1 s):
  Does (tabT tabD) kF [.agg e1] st fun v' st'=>Gr st st'/\v'= .int .i64 (checkS s):=
 checkP (P:=fun r=>P r/\st.row r≠ .none) hw (h.imp fun r p e=>⟨⟨p,e⟩,rfl⟩) fun r p=>p.2
set_option maxHeartbeats 8000000 in
theorem newC {P:Pt->Prop}{st:St}{e1:List V}{s:Sch}(hw:WF st)(h:SchC P st e1 s):
  Does (tabT tabD) Jav [.agg e1] st fun v S=>Gr st S/\NewX st v S (newS s):=by
 refine Jw tabM JcM rfl hw fun K fin=> ?_
 obtain⟨n,hn0⟩:∃n,st.nx=up 0 n:=⟨_,up0 _⟩
 have hnew:=Jf8 s
 have hsch:=h
 obtain⟨c,tv,sv,rfl,h1,h2,h3⟩:=h
 obtain⟨M,hM⟩:∃M,M=s.main:=⟨_,rfl⟩
 obtain⟨l,hll⟩:∃l,l=s.types:=⟨_,rfl⟩
 obtain⟨fs,hfs⟩:∃l,l=s.sigs:=⟨_,rfl⟩
 rw[<-hM]at h1
 rw[<-hll]at h2
 rw[<-hfs]at h3
 rw[<-hll,<-hM,<-hfs]at hnew
 have hM0:=h1
 obtain⟨nv,kv,es,rfl,x1,x2,x3,x4⟩:=h1.inv
 have l1:=h2.len
 have l2:=h3.len
 have cs1:=x1.cells
 have cs2:=x1.sc
 have cs3:=x2.cells
 have cs4:=x2.sc
 have cv1:=h2.sc
 have cv2:=h3.sc
 simp only[Yh,XY,simprocAttr]
 rw[Jc];simp only[XY,simprocAttr,hn0,cs1,cs2,cs3,cs4,cv1.1,cv1.2,cv2.1,cv2.2]
 obtain⟨S0,hS0⟩:∃S0,S0=(st.new fun t=> .cells t [.int .i64 M.kind,ofL M.name,nv,kv,tv,sv]):=⟨_,rfl⟩
 have g0:Gr st S0:=by rw[hS0];exact Gr.new hw (Ja _)
 obtain⟨t0,r0⟩:∃t,S0.row (up 0 n)= .cells t [.int .i64 M.kind,ofL M.name,nv,kv,tv,sv]:=⟨_,by rw[hS0];simp only[XZ,simprocAttr,hn0];rfl⟩
 rw[<-hS0]
 clear hS0
 rw[Jf,Jc];simp only[XY,simprocAttr,r0,cs1,cs2,cs3,cs4,cv1.1,cv1.2,cv2.1,cv2.2]
 refine Jb (checkC (P:=P) g0.wf (hsch.imp fun r p e=>⟨p,g0.same r e⟩)) ?_
 rintro _ S1 ⟨g1,rfl⟩
 have G1:=g0.trans g1
 by_cases hc:checkS s=0
 rotate_left
 ·simp only[XZ,simprocAttr,hc]
  refine fin _ _ (fun r e=>G1.same r e) fun _=> ?_
  rw[hnew,if_pos hc];exact rfl
 rw[if_neg (fun h=>h hc)]at hnew
 obtain⟨hl12,hs12,_,_,_,hp4⟩:=Jkx hc
 rw[<-hll]at hl12
 rw[<-hfs]at hs12 hp4
 simp only[XY,simprocAttr]
 rw[Jc];simp only[XY,simprocAttr,hc]
 have w1:=g1.wf
 obtain⟨n1,hn1⟩:∃n,S1.nx=up 0 n:=⟨_,up0 _⟩
 rw[Jc];simp only[XY,simprocAttr,hn1,Ja2,Y1]
 obtain⟨S2,hS2⟩:∃S2,S2=((((S1.new fun t=> .mob t []).new fun t=> .mob t []).new fun t=> .mob t []).new fun t=> .cells t [.snil, .map (up 0 n1), .map (up 1 n1), .int .i64 0, .map (up 2 n1)]):=⟨_,rfl⟩
 have g2:Gr S1 S2:=by rw[hS2];exact(((Gr.new w1 (Kx _)).nn (Kx _)).nn (Kx _)).nn (Ja _)
 have hT:Tab (fun r=>r=up 0 n1\/r=up 1 n1\/r=up 2 n1\/r=up 3 n1) (fun _=>False) S2 (up 3 n1) emptyTb:=by
  refine⟨.snil,up 0 n1,up 1 n1,up 2 n1,[],[],⟨⟨_,by rw[hS2];simp only[XZ,simprocAttr,hn1];rfl⟩,⟨.inr (.inr (.inr rfl)), .inl rfl, .inr (.inl rfl), .inr (.inr (.inl rfl))⟩, ?_,fun r f=>f.elim,⟨?_, ?_, ?_⟩,⟨rfl, .inl ⟨rfl,rfl⟩⟩,fun e h=>absurd h (by simp),rfl,fun i h=>absurd h (by simp),fun n h=>absurd h (by simp[emptyTb]),by decide,⟨_,by rw[hS2];simp only[XZ,simprocAttr,hn1];rfl⟩,⟨_,by rw[hS2];simp only[XZ,simprocAttr,hn1];rfl⟩,⟨_,by rw[hS2];simp only[XZ,simprocAttr,hn1];rfl⟩,rfl,fun i h=>absurd h (by simp)⟩⟩
  ·intro r hr
   rcases hr with e|e|e|e
   all_goals rw[hS2,e];simp only[XZ,simprocAttr,hn1]
   all_goals exact fun e=>by cases e
  ·rw[kM];decide
  ·rw[kM];decide
  ·rw[kM];decide
 rw[<-hS2]
 obtain⟨W2,hW2⟩:∃W:Pt->Prop,W=fun r=>r=up 0 n1\/r=up 1 n1\/r=up 2 n1\/r=up 3 n1:=⟨_,rfl⟩
 obtain⟨rt,hrt⟩:∃p,p=up 3 n1:=⟨_,rfl⟩
 rw[<-hW2,<-hrt]at hT
 rw[<-hrt]
 have T2:TabX S2 W2 rt emptyTb:=⟨g2.wf,_,hT⟩
 have K2:Kept S1 (fun _=>False) S2 W2:=fun r e _=>⟨g2.same r e,fun w=>by
  rw[hW2]at w
  rcases w with w|w|w|w<;>exact e (by rw[w];exact nx0 w1 hn1 _)⟩
 have K02:Kept S0 (fun _=>False) S2 W2:=fun r e n=>by
  obtain⟨a,b⟩:=K2 r (by rw[g1.same r e];exact e) n
  exact⟨by rw[a,g1.same r e],b⟩
 clear hS2 hW2 hrt hT
 have kst:∀{S:St} {W:Pt->Prop},Kept S0 (fun _=>False) S W->∀r,st.row r≠ .none->S.row r=st.row r:=fun k r e=>by
  rw[(k r (by rw[g0.same r e];exact e) fun h=>h).1,g0.same r e]
 have kty:∀{S:St} {W:Pt->Prop} {e:List V} {t:Ty},Kept S0 (fun _=>False) S W->TyC P st e t->TyC (fun r=>¬W r) S e t:=fun k h=>h.imp fun r p e=>⟨(k r (by rw[g0.same r e];exact e) fun h=>h).2,kst k r e⟩
 have kcell:∀{S:St} {W:Pt->Prop},Kept S0 (fun _=>False) S W->S.row (up 0 n)= .cells t0 [.int .i64 M.kind,ofL M.name,nv,kv,tv,sv]:=fun k=>k.row r0 fun h=>h
 obtain⟨J1,hJ1⟩:∃J:Fr->St->Prop,∀fr S,J fr S<->(∃W,fr 1= .ptr (up 0 n) 0/\fr 5= .ptr rt 0/\TabX S W rt (addDefs l emptyTb).1/\Kept S0 (fun _=>False) S W/\(addDefs l emptyTb).2=0):=⟨_,fun _ _=>Iff.rfl⟩
 refine JJ J1 ?_ ?_
 ·rw[Jc];simp only[XY,simprocAttr,kcell K02,l1]
  obtain⟨I,hI⟩:∃I:Nat->Fr->St->Prop,∀j fr S,I j fr S<->∃(i:Nat) (W:Pt->Prop) (tb:Tb),j+i=l.length/\fr 1= .ptr (up 0 n) 0/\fr 5= .ptr rt 0/\fr 30=tv/\fr 31= .int .i64 l.length/\fr 32= .int .i64 i/\TabX S W rt tb/\Kept S0 (fun _=>False) S W/\addDefs l emptyTb=addDefs (l.drop i) tb:=⟨_,fun _ _ _=>Iff.rfl⟩
  refine Jq I l.length (by omega) ((hI _ _ _).2 ⟨0,W2,emptyTb,by omega,by simp only[XZ,simprocAttr],by simp only[XZ,simprocAttr],by simp only[XZ,simprocAttr],by simp only[XZ,simprocAttr],by simp only[XZ,simprocAttr]<;>rfl,T2,K02,rfl⟩) ?_
  intro j fr S hIj
  obtain⟨i,W,tb,hj,f1,f5,f30,f31,f32,hT,hK,hrec⟩:=(hI _ _ _).1 hIj
  by_cases hi:i<l.length
  ·have hi':(i:Int)<l.length:=by omega
   obtain⟨r,q,nv1,kv1,a1,a3,a4,hty,d1,d2,d3,d4⟩:=JcC h2 (kst hK) hi
   obtain⟨N,hN'⟩:∃N,N=l[i].1:=⟨_,rfl⟩
   obtain⟨T,hT'⟩:∃T,T=l[i].2:=⟨_,rfl⟩
   have hd:l.drop i=(N,T)::l.drop (i+1):=by rw[List.drop_eq_getElem_cons hi,hN',hT']
   rw[hd,Jbc]at hrec
   rw[<-hT']at hty
   rw[<-hN',<-hT']at a4
   have wS:=hT.1
   obtain⟨nS,hnS⟩:∃n,S.nx=up 0 n:=⟨_,up0 _⟩
   have oq:=fun k=>nes (Js wS hnS a3 k)
   have hadd1:IntKind.i64.wrap ((i:Int)+1)=((i+1:Nat):Int):=by rw[Jp (by omega) (by omega)];rfl
   rw[Jc];simp only[XY,simprocAttr,f31,f32,hi']
   rw[Jf];simp only[XY,simprocAttr]
   rw[Jf];simp only[XY,simprocAttr]
   rw[Jc];simp only[XY,simprocAttr,f30,f32,a1,a4,hnS,oq,d1,d2,d3,d4]
   obtain⟨S3,hS3⟩:∃S1,S1=((S.new fun t=> .cells t [ofL [], .int .i64 0,ofL [], .snil, .snil]).wr (up 0 nS) S.t fun u=> .cells u [ofL N, .int .i64 T.kind,ofL T.name,nv1,kv1]):=⟨_,rfl⟩
   have g3:Gr S S3:=by rw[hS3];exact(Gr.refl wS).nw hnS (Ja _) (Ja _)
   obtain⟨t3,r3⟩:∃t,S3.row (up 0 nS)= .cells t [ofL N, .int .i64 T.kind,ofL T.name,nv1,kv1]:=⟨_,by rw[hS3];simp only[XZ,simprocAttr,hnS];rfl⟩
   have q3:¬W (up 0 nS):=hT.own (nx0 wS hnS 0)
   rw[<-hS3]
   have K3:=hK.trans (Kept.gr g3 W)
   have T3:=hT.gr g3
   rw[Jc];simp only[XY,simprocAttr,f5,r3]
   refine Jb (addX T3 (kty K3 hty)) ?_
   rintro _ S4 ⟨W4,T4,K4,rfl⟩
   have KK:=K3.trans K4
   have r4:=K4.row r3 q3
   simp only[XY,simprocAttr]
   by_cases he:(addT T 400 tb).2.2.1=0
   ·rw[if_neg (fun h=>h he)]at hrec
    obtain⟨tt,lv,ra,rn,rs,rc,tm,ms,hup,T5,K5⟩:=T4.setNamed N (addT T 400 tb).2.1
    have hup:=hup S4 rfl
    rw[Jf,Jc];simp only[XY,simprocAttr,he]
    simp only[XZ,simprocAttr,f5,rc,r4,hup,Jk,f32,hadd1]
    exact⟨l.length-(i+1),by omega,(hI _ _ _).2 ⟨i+1,W4,_,by omega,by simp only[XZ,simprocAttr,f1],by simp only[XZ,simprocAttr,f5],by simp only[XZ,simprocAttr,f30],by simp only[XZ,simprocAttr,f31],by simp only[XZ,simprocAttr],T5,KK.trans K5,hrec⟩⟩
   ·rw[if_pos he]at hrec
    simp only[XZ,simprocAttr,he]
    refine fin _ _ (kst KK) fun _=> ?_
    rw[hnew,hrec,if_pos he];exact rfl
  ·have hi':¬(i:Int)<l.length:=by omega
   rw[List.drop_eq_nil_of_le (by omega),addDefs]at hrec
   simp only[XZ,simprocAttr,f31,f32,hi']
   exact(hJ1 _ _).2 ⟨W,by simp only[XZ,simprocAttr,f1],by simp only[XZ,simprocAttr,f5],by rw[hrec];exact hT,hK,by rw[hrec]⟩
 intro fr S hJf
 obtain⟨W,f1,f5,hT,hK,hz⟩:=(hJ1 _ _).1 hJf
 rw[if_neg (fun h=>h hz)]at hnew
 obtain⟨tbA,htbA⟩:∃t,t=(addDefs l emptyTb).1:=⟨_,rfl⟩
 rw[<-htbA]at hT hnew
 rw[Jc];simp only[XY,simprocAttr,f1,f5,kcell hK,cs1,cs2,cs3,cs4]
 refine Jb (addX hT (kty hK hM0)) ?_
 rintro _ S3 ⟨W3,T3,K3,rfl⟩
 have KK:=hK.trans K3
 simp only[XY,simprocAttr]
 by_cases he:(addT M 400 tbA).2.2.1=0
 rotate_left
 ·rw[if_pos he]at hnew
  simp only[XZ,simprocAttr,he]
  refine fin _ _ (kst KK) fun _=> ?_
  rw[hnew];exact rfl
 rw[if_neg (fun h=>h he)]at hnew
 rw[Jf,Jc];simp only[XY,simprocAttr,he]
 obtain⟨tm,lv,ra,rn,rs,rc,T4,K4⟩:=T3.setMain (addT M 400 tbA).2.1
 rw[Jc];simp only[XY,simprocAttr,f5,rc]
 obtain⟨S4,hS4⟩:∃S4,S4=(S3.wr rt tm fun u=> .cells u [lv, .map ra, .map rn, .int .i64 ((addT M 400 tbA).2.1:Nat), .map rs]):=⟨_,rfl⟩
 rw[<-hS4]at T4 K4⊢
 clear hS4
 have K04:=KK.trans K4
 obtain⟨tbB,htbB⟩:∃t:Tb,t={(addT M 400 tbA).1 with main:=(addT M 400 tbA).2.1}:=⟨_,rfl⟩
 rw[<-htbB]at T4 hnew
 obtain⟨J2,hJ2⟩:∃J:Fr->St->Prop,∀fr S,J fr S<->(∃W,fr 5= .ptr rt 0/\TabX S W rt (addSigs fs tbB).1/\Kept S0 (fun _=>False) S W/\(addSigs fs tbB).2=0):=⟨_,fun _ _=>Iff.rfl⟩
 refine JJ J2 ?_ ?_
 ·rw[Jc];simp only[XY,simprocAttr,f1,kcell K04,l2]
  obtain⟨I,hI⟩:∃I:Nat->Fr->St->Prop,∀j fr S,I j fr S<->∃(i:Nat) (W:Pt->Prop) (tb:Tb),j+i=fs.length/\fr 5= .ptr rt 0/\fr 69=sv/\fr 70= .int .i64 fs.length/\fr 71= .int .i64 i/\TabX S W rt tb/\Kept S0 (fun _=>False) S W/\addSigs fs tbB=addSigs (fs.drop i) tb:=⟨_,fun _ _ _=>Iff.rfl⟩
  refine Jq I fs.length (by omega) ((hI _ _ _).2 ⟨0,W3,tbB,by omega,by simp only[XZ,simprocAttr,f5],by simp only[XZ,simprocAttr],by simp only[XZ,simprocAttr],by simp only[XZ,simprocAttr]<;>rfl,T4,K04,rfl⟩) ?_
  clear f1 f5
  intro j fr S hIj
  obtain⟨i,W,tb,hj,f5,f69,f70,f71,hT,hK,hrec⟩:=(hI _ _ _).1 hIj
  by_cases hi:i<fs.length
  ·have hi':(i:Int)<fs.length:=by omega
   obtain⟨r,q,pv,nv1,kv1,a1,a3,a4,hps,hres,⟨d5,d6⟩,d1,d2,d3,d4⟩:=Jfx h3 (kst hK) hi
   obtain⟨f,hf⟩:∃f,f=fs[i]:=⟨_,rfl⟩
   have hd:fs.drop i=f::fs.drop (i+1):=by rw[List.drop_eq_getElem_cons hi,hf]
   have hf4:=hp4 f (by rw[hf];exact List.getElem_mem hi)
   rw[hd,Jbe]at hrec
   rw[<-hf]at a4 hps hres
   have lp:lenLV pv=some (.int .i64 f.params.length, .no):=(Jf1.1 hps).len
   have wS:=hT.1
   obtain⟨nS,hnS⟩:∃n,S.nx=up 0 n:=⟨_,up0 _⟩
   have oq:=fun k=>nes (Js wS hnS a3 k)
   have hadd1:IntKind.i64.wrap ((i:Int)+1)=((i+1:Nat):Int):=by rw[Jp (by omega) (by omega)];rfl
   obtain⟨c,hcl⟩:∃c,c=f.params.length+1:=⟨_,rfl⟩
   have haddp:IntKind.i64.wrap ((f.params.length:Int)+1)=(c:Int):=by rw[Jp (by omega) (by omega),hcl];rfl
   rw[Jc];simp only[XY,simprocAttr,f70,f71,hi']
   rw[Jf];simp only[XY,simprocAttr]
   rw[Jf];simp only[XY,simprocAttr]
   rw[Jc];simp only[XY,simprocAttr,f69,f71,a1,a4,hnS,oq,d1,d2,d3,d4,d5,d6]
   obtain⟨S5,hS5⟩:∃S1,S1=((S.new fun t=> .cells t [ofL [], .snil, .int .i64 0,ofL [], .snil, .snil]).wr (up 0 nS) S.t fun u=> .cells u [ofL f.name,pv, .int .i64 f.result.kind,ofL f.result.name,nv1,kv1]):=⟨_,rfl⟩
   have g5:Gr S S5:=by rw[hS5];exact(Gr.refl wS).nw hnS (Ja _) (Ja _)
   obtain⟨t5,r5⟩:∃t,S5.row (up 0 nS)= .cells t [ofL f.name,pv, .int .i64 f.result.kind,ofL f.result.name,nv1,kv1]:=⟨_,by rw[hS5];simp only[XZ,simprocAttr,hnS];rfl⟩
   have q5:¬W (up 0 nS):=hT.own (nx0 wS hnS 0)
   rw[<-hS5]
   have K5:=hK.trans (Kept.gr g5 W)
   have T5:=hT.gr g5
   have w5:=g5.wf
   obtain⟨n5,hn5⟩:∃n,S5.nx=up 0 n:=⟨_,up0 _⟩
   have hmk:=Jky (st:=S5) (c:=c) (by omega)
   rw[hn5]at hmk
   rw[Jc];simp only[XY,simprocAttr,r5,lp,haddp,hmk]
   obtain⟨rl,hrl⟩:∃p,p=up 0 n5:=⟨_,rfl⟩
   have ql:S5.row rl= .none:=by rw[hrl];exact nx0 w5 hn5 0
   obtain⟨S6,hS6⟩:∃S6,S6=(S5.new fun t=> .cells t (List.replicate c (.int .i64 0))):=⟨_,rfl⟩
   have g6:Gr S5 S6:=by rw[hS6];exact Gr.new w5 (Ja _)
   obtain⟨t6,r6⟩:∃t,S6.row rl= .cells t (List.replicate c (.int .i64 0)):=⟨_,by rw[hS6,hrl];simp only[XZ,simprocAttr,hn5];rfl⟩
   rw[<-hS6,<-hrl]
   have n5l:up 0 nS≠rl:=fun e=>by rw[e,ql]at r5;cases r5
   clear hS6
   have K6:=K5.trans (Kept.gr g6 W)
   have T6:=T5.z g6 ql
   have r56:=g6.cells r5
   have qlW:¬W rl:=T5.own ql
   have stl:st.row rl= .none:=by
    cases hh:st.row rl with
    |none=>rfl
    | _=>
      have:=kst K5 rl (by rw[hh];exact fun e=>by cases e)
      rw[ql,hh]at this;cases this
   have w6:=g6.wf
   obtain⟨ep,p1,p2,p3⟩:=hps
   have hK6ty:∀{e t},TyC P st e t->TyC (fun r=>¬(W r\/r=rl)) S6 e t:=fun h=>h.imp fun r p e=>by
    have e0:S0.row r≠ .none:=by rw[g0.same r e];exact e
    exact⟨fun w=>by rcases w with w|w;exact(K6 r e0 fun h=>h).2 w;exact e (by rw[w];exact stl),kst K6 r e⟩
   have p1S:SlAt (fun r=>¬(W r\/r=rl)) S6 pv 4 ep:=p1.imp fun r p e=>by
    have e0:S0.row r≠ .none:=by rw[g0.same r e];exact e
    exact⟨fun w=>by rcases w with w|w;exact(K6 r e0 fun h=>h).2 w;exact e (by rw[w];exact stl),kst K6 r e⟩
   have hep:okC ep:=fun e he=>by
    obtain⟨j,hj,rfl⟩:=List.mem_iff_getElem.1 he
    exact(p3 j hj (by omega)).ok
   obtain⟨ts,hts⟩:∃ts,ts=f.params++[f.result]:=⟨_,rfl⟩
   have htl:ts.length=c:=by rw[hts,hcl];simp
   rw[<-hts]at hrec
   obtain⟨J3,hJ3⟩:∃J:Fr->St->Prop,∀fr S,J fr S<->(∃W' t,fr 5= .ptr rt 0/\fr 13= .ptr (up 0 nS) 0/\fr 14= .slx rl 0 c 1 c/\fr 69=sv/\fr 70= .int .i64 fs.length/\fr 71= .int .i64 i/\TabX S W' rt (addList ts tb).1/\Kept S6 (fun r=>W r\/r=rl) S (fun r=>W' r\/r=rl)/\S.row rl= .cells t ((addList ts tb).2.1.map fun n:Nat=>V.int .i64 (n:Int))/\¬W' rl/\(addList ts tb).2.1.length=c/\(addList ts tb).2.2=0):=⟨_,fun _ _=>Iff.rfl⟩
   refine JJ J3 ?_ ?_
   ·rw[Jc];simp only[XY,simprocAttr,r56]
    refine Jn (JcJ (JB w6 S6.t) (p1S.low _) hep (by omega)) ?_
    rintro cv S7 g7 hcv
    have hcv:SlF S6 S7 cv 4 ep:=hcv
    have r57:=g7.cells r56
    have w7:=g7.wf
    obtain⟨n7,hn7⟩:∃n,S7.nx=up 0 n:=⟨_,up0 _⟩
    simp only[XY,simprocAttr,r57,hn7,d1,d2,d3,d4]
    have gn:Gr S7 (S7.new fun t=> .cells t [.int .i64 f.result.kind,ofL f.result.name,nv1,kv1]):=Gr.new w7 (Ja _)
    have hres6:=hK6ty hres
    have hcvT:TysF (fun r=>¬(W r\/r=rl)) S6 S7 cv f.params:=⟨ep,hcv,p2,fun i a b=>hK6ty (p3 i a b)⟩
    refine YP (ts':=[f.result]) (g7.trans gn) (hcvT.gr gn) (Jap hn7 hres.four) rfl (fun i a b=>by
     have:i=0:=by simpa using a
     subst this;exact hres6) (by simp) (by simp;omega) ?_
    intro S8 v8 g8 h8 _ _
    rw[<-hts]at h8
    have hv8:LstAt (TyC (fun r=>¬(W r\/r=rl)) S8) (fun r=>¬(W r\/r=rl)) S8 v8 4 ts:=h8.lst g8 (fun r p=>p) fun r e w=>by
     rcases w with w|w
     ·exact T6.x.own e w
     ·rw[w,r6]at e;cases e
    have l8:=hv8.len
    have rl8:=g8.cells r6
    have T8:=T6.gr g8
    simp only[XY,simprocAttr,l8,htl,Jk]
    obtain⟨I3,hI3⟩:∃I:Nat->Fr->St->Prop,∀j fr S,I j fr S<->∃(k:Nat) (W':Pt->Prop) (tb':Tb) (t:Nat) (ids:List Nat),j+k=c/\fr 5= .ptr rt 0/\fr 13= .ptr (up 0 nS) 0/\fr 14= .slx rl 0 k 1 c/\fr 69=sv/\fr 70= .int .i64 fs.length/\fr 71= .int .i64 i/\fr 86=v8/\fr 87= .int .i64 c/\fr 88= .int .i64 k/\TabZ S W' (fun r=>r=rl) rt tb'/\Kept S8 (fun r=>W r\/r=rl) S (fun r=>W' r\/r=rl)/\S.row rl= .cells t ((ids.map fun n:Nat=>V.int .i64 (n:Int))++List.replicate (c-k) (.int .i64 0))/\¬W' rl/\ids.length=k/\addList ts tb=((addList (ts.drop k) tb').1,ids++(addList (ts.drop k) tb').2.1,(addList (ts.drop k) tb').2.2):=⟨_,fun _ _ _=>Iff.rfl⟩
    refine Jq I3 c (by omega) ((hI3 _ _ _).2 ⟨0,W,tb,_,[],by omega,by simp only[XZ,simprocAttr,f5],by simp only[XZ,simprocAttr],by simp only[XZ,simprocAttr],by simp only[XZ,simprocAttr,f69],by simp only[XZ,simprocAttr,f70],by simp only[XZ,simprocAttr,f71],by simp only[XZ,simprocAttr],by simp only[XZ,simprocAttr],by simp only[XZ,simprocAttr]<;>rfl,T8,Kept.refl _ _,rl8,qlW,rfl,by simp⟩) ?_
    clear f5 f69 f70 f71
    intro j3 fr Sa hIa
    obtain⟨k,Wa,ta,ua,ids,hjk,f5,f13,f14,f69,f70,f71,f86,f87,f88,hTa,hKa,hra,hWa,hids,hreca⟩:=(hI3 _ _ _).1 hIa
    by_cases hk:k<c
    ·have hk':(k:Int)<c:=by omega
     have haddk:IntKind.i64.wrap ((k:Int)+1)=((k+1:Nat):Int):=by rw[Jp (by omega) (by omega)];rfl
     have hkts:k<ts.length:=by omega
     obtain⟨r',q',e',b1,b2,b3,b4,b5,b6,b7⟩:=hv8.elem hkts
     have b3a:=(hKa r' b3 b2).1
     rw[<-b3a]at b4
     have b3':Sa.row r'≠ .none:=by rw[b3a];exact b3
     have b5':TyC (fun r=>¬(Wa r\/r=rl)) Sa e' ts[k]:=hKa.ty b5
     obtain⟨nv2,kv2,es2,rfl,y1,y2,y3,y4⟩:=b5.inv
     have c1:=y1.cells
     have c2:=y1.sc
     have c3:=y2.cells
     have c4:=y2.sc
     have wA:=hTa.1
     obtain⟨nA,hnA⟩:∃n,Sa.nx=up 0 n:=⟨_,up0 _⟩
     have oq:=fun k=>nes (Js wA hnA b3' k)
     rw[List.drop_eq_getElem_cons hkts,Jbd]at hreca
     obtain⟨T,hTt⟩:∃T,T=ts[k]:=⟨_,rfl⟩
     rw[<-hTt]at hreca b4 b5'
     rw[Jc];simp only[XY,simprocAttr,f87,f88,hk']
     rw[Jf];simp only[XY,simprocAttr]
     rw[Jf];simp only[XY,simprocAttr]
     rw[Jc];simp only[XY,simprocAttr,f86,f88,b1,b4,hnA,oq,c1,c2,c3,c4]
     obtain⟨Sb,hSb⟩:∃S1,S1=((Sa.new fun t=> .cells t [.int .i64 0,ofL [], .snil, .snil]).wr (up 0 nA) Sa.t fun u=> .cells u [.int .i64 T.kind,ofL T.name,nv2,kv2]):=⟨_,rfl⟩
     have gb:Gr Sa Sb:=by rw[hSb];exact(Gr.refl wA).nw hnA (Ja _) (Ja _)
     obtain⟨tb2,rb⟩:∃t,Sb.row (up 0 nA)= .cells t [.int .i64 T.kind,ofL T.name,nv2,kv2]:=⟨_,by rw[hSb];simp only[XZ,simprocAttr,hnA];rfl⟩
     rw[<-hSb]
     have hTb:=hTa.gr gb
     have hrb:=gb.cells hra
     rw[Jc];simp only[XY,simprocAttr,f5,rb]
     refine Jb (addZ hTb (fun r e=>by rw[e,hrb];exact fun e=>by cases e) ((b5'.gr gb).imp fun r p _=>⟨fun w=>p (.inl w),rfl⟩)) ?_
     rintro _ Sc ⟨Wc,Tc,Kc,rfl⟩
     have KK:=hKa.trans (((Kept.gr gb Wa).trans Kc).plus fun r=>r=rl)
     have hrc:=Kc.row hrb hWa
     have hWc:¬Wc rl:=Kc.out (Je hrb) hWa
     simp only[XY,simprocAttr]
     by_cases he:(addT T 400 ta).2.2.1=0
     ·rw[if_neg (fun h=>h he)]at hreca
      rw[Jf,Jc];simp only[XY,simprocAttr,he]
      have wc:=Tc.1
      obtain⟨nc,hnc⟩:∃n,Sc.nx=up 0 n:=⟨_,up0 _⟩
      have gd:Gr Sc (Sc.new fun t=> .cells t [.int .i64 ((addT T 400 ta).2.1:Nat)]):=Gr.new wc (Ja _)
      have happ:=Jmd (st:=Sc.new fun t=> .cells t [.int .i64 ((addT T 400 ta).2.1:Nat)]) (r:=rl) (q:=up 0 nc) (i:=k) (c:=c) (gd.cells hrc) (by simp;omega) (by rw[<-hnc];exact JD _ _) rfl (by omega) (by omega)
      have hspl:splice ((ids.map fun n:Nat=>V.int .i64 (n:Int))++List.replicate (c-k) (.int .i64 0)) k [V.int .i64 ((addT T 400 ta).2.1:Nat)]=((ids++[(addT T 400 ta).2.1]).map fun n:Nat=>V.int .i64 (n:Int))++List.replicate (c-(k+1)) (.int .i64 0):=by
       have hl:(ids.map fun n:Nat=>V.int .i64 (n:Int)).length=k:=by simp[hids]
       have hck:c-k=(c-(k+1))+1:=by omega
       unfold splice
       rw[List.take_append_of_le_length (by omega),<-hl,List.take_length,List.drop_append,hl,hck,List.replicate_succ]
       simp
       omega
      rw[hspl]at happ
      simp only[XZ,simprocAttr,f14,hnc,happ,f88,haddk]
      have hKd:=KK.trans (((Kept.gr gd Wc).plus fun r=>r=rl).trans (Kept.wr (S:=Sc.new fun t=> .cells t [.int .i64 ((addT T 400 ta).2.1:Nat)]) (W:=fun r=>Wc r\/r=rl) (t:=ua) (f:=fun u=> .cells u (((ids++[(addT T 400 ta).2.1]).map fun n:Nat=>V.int .i64 (n:Int))++List.replicate (c-(k+1)) (.int .i64 0))) (p:=rl) (.inr rfl)))
      have hrd:=gd.cells hrc
      exact⟨c-(k+1),by omega,(hI3 _ _ _).2 ⟨k+1,Wc,_,_,ids++[(addT T 400 ta).2.1],by omega,by simp only[XZ,simprocAttr,f5],by simp only[XZ,simprocAttr,f13],by simp only[XZ,simprocAttr],by simp only[XZ,simprocAttr,f69],by simp only[XZ,simprocAttr,f70],by simp only[XZ,simprocAttr,f71],by simp only[XZ,simprocAttr,f86],by simp only[XZ,simprocAttr,f87],by simp only[XZ,simprocAttr],(Tc.gr gd).wr rfl hWc (Je hrd) (by rw[hrd];rfl) (Ja _),hKd,Jl _ _ _ _,hWc,by simp[hids],by rw[hreca];simp⟩⟩
     ·rw[if_pos he]at hreca
      simp only[XZ,simprocAttr,he]
      refine fin _ _ (fun r e=> ?_) fun _=> ?_
      ·have e0:S0.row r≠ .none:=by rw[g0.same r e];exact e
       have k6:=K6 r e0 fun h=>h
       have ne:r≠rl:=fun h=>e (by rw[h];exact stl)
       have k8:=KK r (by rw[g8.same r (by rw[k6.1];exact e0),k6.1];exact e0) (fun w=>by rcases w with w|w;exact k6.2 w;exact ne w)
       rw[k8.1,g8.same r (by rw[k6.1];exact e0),k6.1,g0.same r e]
      ·have h1:(addList ts tb).2.2=(addT T 400 ta).2.2.1:=by rw[hreca]
       rw[hnew,hrec,if_pos (by rw[if_pos (by rw[h1];exact he)];simp only;rw[h1];exact he),if_pos (by rw[h1];exact he)]
       show _=V.tup [.pnil, .int .i64 (addList ts tb).2.2]
       rw[h1]
    ·have hk':¬(k:Int)<c:=by omega
     have hkc:k=c:=by omega
     subst hkc
     rw[List.drop_eq_nil_of_le (by omega),addList]at hreca
     simp only[XZ,simprocAttr,f87,f88,hk']
     have e1:(addList ts tb).1=ta:=by rw[hreca]
     have e2:(addList ts tb).2.1=ids:=by rw[hreca];simp
     have e3:(addList ts tb).2.2=0:=by rw[hreca]
     rw[Nat.sub_self]at hra
     exact(hJ3 _ _).2 ⟨Wa,ua,by simp only[XZ,simprocAttr,f5],by simp only[XZ,simprocAttr,f13],by simp only[XZ,simprocAttr,f14],by simp only[XZ,simprocAttr,f69],by simp only[XZ,simprocAttr,f70],by simp only[XZ,simprocAttr,f71],by rw[e1];exact hTa.x,(Kept.gr g8 _).trans hKa,by rw[e2];simpa using hra,hWa,by rw[e2];exact hids,e3⟩
   clear f5 f69 f70 f71
   intro fr Sa hJa
   obtain⟨Wa,ua,f5,f13,f14,f69,f70,f71,hTa,hKa,hra,hWa,hids,he0⟩:=(hJ3 _ _).1 hJa
   rw[if_neg (fun h=>h he0)]at hrec
   have hsl:SlAt (fun r=>¬Wa r) Sa (.slx rl 0 c 1 c) 1 (ints (addList ts tb).2.1):=by
    have hi:(ints (addList ts tb).2.1).length=c:=by rw[<-hids];unfold ints;simp
    have:=SlAt.freshx (P:=fun r=>¬Wa r) (st:=Sa) (r:=rl) (t:=ua) (z:=1) (es:=ints (addList ts tb).2.1) (by rw[hra,JbP]) hWa (fun e he=>by unfold ints at he;obtain⟨x,_,rfl⟩:=List.mem_map.1 he;rfl)
    rw[hi]at this
    exact this
   obtain⟨tt,lv2,ra2,rn2,rs2,rc2,tm2,ms2,hup,Tz,Kz⟩:=hTa.setSigs f.name hsl
   have hup:=hup Sa rfl
   have rna:Sa.row (up 0 nS)= .cells t5 [ofL f.name,pv, .int .i64 f.result.kind,ofL f.result.name,nv1,kv1]:=hKa.row r56 fun w=>by rcases w with w|w;exact q5 w;exact n5l w
   simp only[XZ,simprocAttr,f5,f13,f14,rc2,rna,hup,Jk,f71,hadd1]
   have K0a:Kept S0 (fun _=>False) Sa Wa:=fun r e n=>by
    have k6:=K6 r e n
    have ne:r≠rl:=fun h=>by
     have:=g6.same r (by rw[(K5 r e n).1];exact e)
     rw[h,ql,r6]at this;cases this
    have k8:=hKa r (by rw[k6.1];exact e) (fun w=>by rcases w with w|w;exact k6.2 w;exact ne w)
    exact⟨by rw[k8.1,k6.1],fun w=>k8.2 (.inl w)⟩
   exact⟨fs.length-(i+1),by omega,(hI _ _ _).2 ⟨i+1,Wa,_,by omega,by simp only[XZ,simprocAttr,f5],by simp only[XZ,simprocAttr,f69],by simp only[XZ,simprocAttr,f70],by simp only[XZ,simprocAttr],Tz,K0a.trans Kz,hrec⟩⟩
  ·have hi':¬(i:Int)<fs.length:=by omega
   rw[List.drop_eq_nil_of_le (by omega),addSigs]at hrec
   simp only[XZ,simprocAttr,f70,f71,hi']
   exact(hJ2 _ _).2 ⟨W,by simp only[XZ,simprocAttr,f5],by rw[hrec];exact hT,hK,by rw[hrec]⟩
 clear f1 f5
 intro fr S hJf
 obtain⟨W,f5,hT,hK,hz⟩:=(hJ2 _ _).1 hJf
 rw[if_neg (fun h=>h hz)]at hnew
 simp only[XZ,simprocAttr,f5]
 refine fin _ _ (kst hK) fun _=> ?_
 rw[hnew]
 exact⟨rt,W,rfl,hT,fun r e _=>⟨kst hK r e,(hK r (by rw[g0.same r e];exact e) fun h=>h).2⟩⟩
theorem withinC (a n:Int)(st:St)(h0:0<n)(h1:n<1000000):Does (tabT tabD) Jaw [.int .i64 a, .int .i64 n] st fun v st'=>v= .int .i64 (a%n)/\st=st':=by
 refine Jv qE rfl ?_
 have hn:n≠0:=by omega
 have e1:=Int.emod_nonneg a hn
 have e2:=Int.emod_lt_of_pos a h0
 rcases tmodC a h0 with⟨h3,h4⟩|⟨h3,h4⟩
 ·simp only[Ki,XZ,simprocAttr,hn,h3]
  rw[h4]
 ·have hw:IntKind.i64.wrap (a.tmod n+n)=a%n:=by rw[h4,Jp (by omega) (by omega)]
  simp only[Ki,XZ,simprocAttr,hn,h3,hw]
theorem Jef (a n:Int)(st:St)(h0:0<n)(h1:n<4611686018427387904):Does (tabT tabD) Jay [.int .i64 a, .int .i64 n] st fun v st'=>v= .int .i64 (a%n)/\st=st':=by
 refine Jv qF rfl ?_
 have hn:n≠0:=by omega
 have e1:=Int.emod_nonneg a hn
 have e2:=Int.emod_lt_of_pos a h0
 rcases tmodC a h0 with⟨h3,h4⟩|⟨h3,h4⟩
 ·simp only[Kh,XZ,simprocAttr,hn,h3]
  rw[h4]
 ·have hw:IntKind.i64.wrap (a.tmod n+n)=a%n:=by rw[h4,Jp (by omega) (by omega)]
  simp only[Kh,XZ,simprocAttr,hn,h3,hw]
theorem nameC (z:Int)(st:St)(hw:WF st):Does (tabT tabD) Jb7 [.int .i64 z] st fun v st'=>Gr st st'/\v=ofL (nameS z):=by
 refine Jv Jbp rfl ?_
 obtain⟨q,hq⟩:∃q,st.nx=q:=⟨_,rfl⟩
 simp only[Qb,XZ,simprocAttr,hq]
 refine Jb (Jef z 7 _ (by decide) (by decide)) ?_
 rintro _ _ ⟨rfl,rfl⟩
 have e1:=Int.emod_nonneg z (show(7:Int)≠0 by decide)
 have e2:=Int.emod_lt_of_pos z (show(0:Int)<7 by decide)
 obtain⟨m,hm⟩:∃m:Nat,z%7=m:=⟨(z%7).toNat,by omega⟩
 have hs:nameS z=nms7.getD m []:=by unfold nameS;rw[hm];rfl
 rw[hm]at e1 e2⊢
 rw[hs]
 clear hs hm
 have hg:∀l,Gr st (st.new fun u=> .cells u l):=fun l=>Gr.new hw (Ja _)
 have hr:(st.new fun u=>Row.cells u [ofL [97],ofL [98],ofL [99],ofL [110,97,109,101],ofL [110],ofL [73,110,116],ofL [116,121,112,101]]).row q= .cells st.t [ofL [97],ofL [98],ofL [99],ofL [110,97,109,101],ofL [110],ofL [73,110,116],ofL [116,121,112,101]]:=by rw[<-hq];exact JD _ _
 have c:m=0\/m=1\/m=2\/m=3\/m=4\/m=5\/m=6:=by omega
 rcases c with rfl|rfl|rfl|rfl|rfl|rfl|rfl
 all_goals simp only[XZ,simprocAttr,hr]
 all_goals first|exact⟨⟨by decide,by decide⟩,hg _,rfl⟩|exact⟨hg _,rfl⟩
theorem wrap64 (z:Int):In64 (IntKind.i64.wrap z):=by
 have h1:=Int.emod_nonneg z (show(18446744073709551616:Int)≠0 by decide)
 have h2:=Int.emod_lt_of_pos z (show(0:Int)<18446744073709551616 by decide)
 have e:IntKind.i64.wrap z=if(9223372036854775808:Int)<=z%18446744073709551616 then z%18446744073709551616-18446744073709551616 else z%18446744073709551616:=by
  simp[IntKind.wrap,IntKind.bits,IntKind.signed]
 unfold In64
 rw[e]
 split<;>omega
set_option maxHeartbeats 1000000 in
theorem kidC {P:Pt->Prop}{st:St}{e:List V}{r:Rw}(hw:WF st)(h:RwC P st e r)(i:Nat)(hi:i<1000):Does (tabT tabD) JcT [.agg e, .int .i64 i] st fun v st'=>Gr st st'/\∃e',v= .agg e'/\RwC P st' e' (kidS r i):=by
 refine Jv Jb6 rfl ?_
 obtain⟨nv,kv,es,rfl,hk,hn,hz,h1,h2,h3,⟨hl1,hl2⟩,h4⟩:=h.inv
 obtain⟨n0,hn0⟩:∃n,st.nx=up 0 n:=⟨_,up0 _⟩
 have c1:=h1.cells
 have s1:=h1.sc
 have c2:=h2.cells
 have s2:=h2.sc
 have len2:=h2.len
 simp only[Qq,XY,simprocAttr]
 rw[Jc];simp only[XY,simprocAttr,hn0,c1,s1,c2,s2]
 have rel:∀f g:Nat->Row,Gr st ((st.new f).new g)->True:=fun _ _ _=>trivial
 have gg:Gr st ((st.new fun t=> .cells t [.int .i64 r.kind, .int .i64 r.n,nv,kv]).new fun t=> .cells t [.int .i64 0, .int .i64 0, .snil, .snil]):=((Gr.refl hw).nn (Ja _)).nn (Ja _)
 by_cases h0:r.kids.length=0
 ·rw[h3,h0]at len2
  rw[Jf,Jc];simp only[XZ,simprocAttr,hn0,len2,Int.natCast_zero]
  have gw:=gg.wr (p:=up 1 n0) (f:=fun u=> .cells u [.int .i64 (IntKind.i64.wrap (r.n+i)), .int .i64 r.kind, .snil, .snil]) (nx0 hw hn0 1) (by simp only[XZ,simprocAttr,hn0]) (by simp only[XZ,simprocAttr,hn0];rfl) (Ja _)
  refine⟨gw,_,rfl, ?_⟩
  rw[kidS,if_pos h0]
  exact .mk (es:=[]) (wrap64 _) hk (fun z hz=>absurd hz (by simp)) (SlAt.nil _ _ _) (SlAt.nil _ _ _) rfl ⟨by decide,by decide⟩ fun i h=>absurd h (by simp)
 ·have h0':(es.length:Int)≠0:=by omega
  rw[Jf,Jc];simp only[XY,simprocAttr,hn0,len2,h0']
  have hj:i%es.length<es.length:=Nat.mod_lt _ (by omega)
  have hmod:(i:Int).tmod (es.length:Int)=((i%es.length:Nat):Int):=rfl
  obtain⟨q,o,a1,a2,a3,a4,a5⟩:=h2.elem hj
  have hkid:=h4 _ hj (by omega)
  obtain⟨nv',kv',es',he,hk',hn',hz',b1,b2,b3,b4,b5⟩:=hkid.inv
  rw[he]at a4
  have c3:=b1.cells
  have s3:=b1.sc
  have c4:=b2.cells
  have s4:=b2.sc
  have oq:=fun k=>nes (Js hw hn0 a3 k)
  simp only[XZ,simprocAttr,hn0,len2,h0',hmod,a1,a4,c3,s3,c4,s4,oq]
  have gw:=gg.wr (p:=up 1 n0) (f:=fun u=> .cells u [.int .i64 r.kids[i%es.length].kind, .int .i64 r.kids[i%es.length].n,nv',kv']) (nx0 hw hn0 1) (by simp only[XZ,simprocAttr,hn0]) (by simp only[XZ,simprocAttr,hn0];rfl) (Ja _)
  refine⟨gw,_,rfl, ?_⟩
  have e:∀j,j=i%r.kids.length->∀hj':j<r.kids.length,kidS r i=r.kids[j]:=by
   rintro j rfl hj'
   rw[kidS,if_neg h0]
   simp only[List.getD_eq_getElem?_getD,List.getElem?_eq_getElem hj',Option.getD_some]
  rw[e (i%es.length) (by rw[h3]) (by omega)]
  have:=hkid.gr gw
  rw[he]at this
  exact this
set_option maxHeartbeats 1000000 in
theorem fewC {P:Pt->Prop}{st0:St}{e:List V}{r:Rw}(h:RwC P st0 e r):∀(st:St),Gr st0 st->∀most:Int,-4611686018427387904<most->most<4611686018427387904->Does (tabT tabD) JcQ [.agg e, .int .i64 most] st fun v st'=>Gr st st'/\∃m,v= .int .i64 m/\0<=m/\(m<=most\/m=0):=by
 induction h with
 | @mk rk rn zs ks nv kv es hk hn hz h1 h2 h3 hl h4 ih=>
 intro st g0 most hm1 hm2
 have hw:=g0.wf
 refine Jv Jb3 rfl ?_
 obtain⟨n0,hn0⟩:∃n,st.nx=up 0 n:=⟨_,up0 _⟩
 have c1:=h1.cells
 have s1:=h1.sc
 have c2:=h2.cells
 have s2:=h2.sc
 have len1:=h1.len
 have len2:=h2.len
 rw[Qg]at len1
 simp only[Qp,XY,simprocAttr]
 rw[Jc];simp only[XY,simprocAttr,hn0,c1,s1,c2,s2]
 have gb:Gr st (st.new fun t=> .cells t [.int .i64 rk, .int .i64 rn,nv,kv]):=Gr.new hw (Ja _)
 by_cases h0:most<=0
 ·rw[Jf,Jc];simp only[XZ,simprocAttr,h0]
  exact⟨gb,0,rfl,by omega, .inr rfl⟩
 by_cases ha:(10:Int)<es.length
 ·rw[Jf,Jc];simp only[XZ,simprocAttr,h0,hn0,len2,ha]
  exact⟨gb,0,rfl,by omega, .inr rfl⟩
 by_cases hb:(20:Int)<zs.length
 ·rw[Jf,Jc];simp only[XZ,simprocAttr,h0,hn0,len2,len1,ha,hb]
  exact⟨gb,0,rfl,by omega, .inr rfl⟩
 rw[Jf,Jc];simp only[XY,simprocAttr,h0,hn0,len2,len1,ha,hb]
 have hsub:IntKind.i64.wrap (most-1)=most-1:=Jp (by omega) (by omega)
 rw[Jc];simp only[XY,simprocAttr,hsub]
 obtain⟨J,hJ⟩:∃J:Fr->St->Prop,∀fr S,J fr S<->(Gr st S/\∃m,fr 1= .int .i64 m/\0<=m/\m<=most):=⟨_,fun _ _=>Iff.rfl⟩
 refine JJ J ?_ ?_
 ·rw[Jc];simp only[XY,simprocAttr]
  obtain⟨L,hL⟩:∃L:Nat->Fr->St->Prop,∀j fr S,L j fr S<->∃(i:Nat) (m t:Int),j+i=es.length/\Gr st S/\fr 1= .int .i64 m/\0<=m/\m<=most/\fr 2= .ptr (up 0 n0) 0/\fr 5= .int .i64 i/\S.row (up 0 n0)= .cells st.t [.int .i64 rk, .int .i64 rn,nv,kv]:=⟨_,fun _ _ _=>Iff.rfl⟩
  refine Jq L es.length (by omega) ((hL _ _ _).2 ⟨0,most-1,0,by omega,gb,by simp only[XZ,simprocAttr],by omega,by omega,by simp only[XZ,simprocAttr],by simp only[XZ,simprocAttr]<;>rfl,by rw[<-hn0];exact JD _ _⟩) ?_
  intro j fr S hLj
  obtain⟨i,m,_,hj,hg,f1,hm3,hm4,f2,f5,rb⟩:=(hL _ _ _).1 hLj
  by_cases hi:i<es.length
  ·have hi':(i:Int)<es.length:=by omega
   by_cases hm0:0<m
   ·obtain⟨q,o,a1,a2,a3,a4,a5⟩:=(h2.gr (g0.trans hg)).elem hi
    have hadd1:IntKind.i64.wrap ((i:Int)+1)=((i+1:Nat):Int):=by rw[Jp (by omega) (by omega)];rfl
    simp only[XZ,simprocAttr,f1,f2,f5,rb,len2,hi',hm0,a1,a4]
    refine Jb (ih i hi (by omega) S (g0.trans hg) m (by omega) (by omega)) ?_
    rintro _ S' ⟨g',m',rfl,b1,b2⟩
    simp only[XZ,simprocAttr,f1,f2,f5,hadd1]
    exact⟨es.length-(i+1),by omega,(hL _ _ _).2 ⟨i+1,m',0,by omega,hg.trans g',by simp only[XZ,simprocAttr],b1,by omega,by simp only[XZ,simprocAttr,f2],by simp only[XZ,simprocAttr],g'.cells rb⟩⟩
   ·simp only[XZ,simprocAttr,f1,f2,f5,rb,len2,hi',hm0]
    exact(hJ _ _).2 ⟨hg,m,by simp only[XZ,simprocAttr,f1],hm3,hm4⟩
  ·have hi':¬(i:Int)<es.length:=by omega
   simp only[XZ,simprocAttr,f1,f2,f5,rb,len2,hi']
   exact(hJ _ _).2 ⟨hg,m,by simp only[XZ,simprocAttr,f1],hm3,hm4⟩
 intro fr S hJf
 obtain⟨hg,m,f1,hm3,hm4⟩:=(hJ _ _).1 hJf
 simp only[XZ,simprocAttr,f1]
 exact⟨hg,m,rfl,hm3, .inl hm4⟩
theorem Jj9 {α β:Type}{R:α->β->Prop}{x:α}{y:β}(hxy:R x y):∀(k:Nat) {es:List α} {ks:List β},es.length=ks.length->(∀i (h:i<es.length) (h':i<ks.length),R es[i] ks[i])->∀i (h:i<(es.take k++x::es.drop k).length) (h':i<(ks.take k++y::ks.drop k).length),R (es.take k++x::es.drop k)[i] (ks.take k++y::ks.drop k)[i]
 | 0,es,ks,hl,h,i,h1,h2=>by
   simp only[List.take_zero,List.nil_append,List.drop_zero]
   cases i with
   |zero=>exact hxy
   |succ i=>exact h i (by simpa using h1) (by simpa using h2)
 | k+1,[],[],hl,h,i,h1,h2=>by
   cases i with
   |zero=>exact hxy
   |succ i=>simp at h1
 | k+1,e::es,c::ks,hl,h,i,h1,h2=>by
   cases i with
   |zero=>exact h 0 (by simp) (by simp)
   |succ i=>exact Jj9 hxy k (by simpa using hl) (fun j a b=>h (j+1) (by simpa using a) (by simpa using b)) i (by simpa using h1) (by simpa using h2)
theorem Y9 {fr:Fr}{p:List Nat×List Nat}{l:List (List Nat×List Nat)}(h1:JN fr [p]=true)(h2:JN fr l=true):JN fr (p::l)=true:=by
 simp only[JN,List.all_cons,List.all_nil,Bool.and_true]at h1 h2⊢
 rw[h1,Bool.true_and];exact h2
set_option maxHeartbeats 4000000 in
theorem putC {P:Pt->Prop}{st:St}{t x:Ty}{te xe:List V}(n:Str)(hw:WF st)(ht:TyC P st te t)(hx:TyC P st xe x)(hlen:t.names.length<=8)(hk:t.kids.length=t.names.length)(hP:∀r,st.row r= .none->P r):
  Does (tabT tabD) JcU [.agg te,ofL n, .agg xe] st fun v st'=>Gr st st'/\∃e',v= .agg e'/\TyC P st' e' (putS t n x):=by
 refine Jv Jb8 rfl ?_
 obtain⟨n0,hn0⟩:∃n,st.nx=up 0 n:=⟨_,up0 _⟩
 have htt:=ht
 have hxx:=hx
 cases ht with
 | @mk tk tn ns ks nv kv es h1 h2 h3 h4=>
 cases hx with
 | @mk xk xn xns xks xnv xkv xes x1 x2 x3 x4=>
 simp only[Ty.names,Ty.kids]at hlen hk
 have c1:=h1.cells
 have s1:=h1.sc
 have c2:=h2.cells
 have s2:=h2.sc
 have c3:=x1.cells
 have s3:=x1.sc
 have c4:=x2.cells
 have s4:=x2.sc
 have len1:=h1.len
 rw[JL]at len1
 obtain⟨b1,hb1⟩:∃b,b=up 0 n0:=⟨_,rfl⟩
 obtain⟨b2,hb2⟩:∃b,b=up 1 n0:=⟨_,rfl⟩
 obtain⟨b3,hb3⟩:∃b,b=up 2 n0:=⟨_,rfl⟩
 obtain⟨I,hI⟩:∃I:Fr->St->Prop,∀fr S,I fr S<->(fr 1=ofL n/\fr 3= .ptr b1 0/\fr 5= .ptr b2 0/\fr 6= .ptr b3 0/\Gr st S/\(∃t,S.row b1= .cells t [.int .i64 tk,ofL tn,nv,kv])/\(∃t,S.row b2= .cells t [.int .i64 xk,ofL xn,xnv,xkv])/\(∃t,S.row b3= .cells t [.int .i64 0,ofL [], .snil, .snil])):=⟨_,fun _ _=>Iff.rfl⟩
 have u01:up 0 n0≠up 1 n0:=by simp only[XZ,simprocAttr]
 have u02:up 0 n0≠up 2 n0:=by simp only[XZ,simprocAttr]
 have u12:up 1 n0≠up 2 n0:=by simp only[XZ,simprocAttr]
 simp only[Qr,XY,simprocAttr]
 refine Q8 I ?_ ?_
 ·simp only[XZ,simprocAttr,hn0,c1,s1,c2,s2,c3,s3,c4,s4]
  refine(hI _ _).2 ⟨by simp only[XZ,simprocAttr],by simp only[XZ,simprocAttr,hb1],by simp only[XZ,simprocAttr,hb2],by simp only[XZ,simprocAttr,hb3],(((Gr.refl hw).nn (Ja _)).nn (Ja _)).nn (Ja _),⟨_,by rw[hb1];simp only[XZ,simprocAttr,hn0];rfl⟩,⟨_,by rw[hb2];simp only[XZ,simprocAttr,hn0];rfl⟩,⟨_,by rw[hb3];simp only[XZ,simprocAttr,hn0];rfl⟩⟩
 intro fr S1 hIf
 obtain⟨f1,f3,f5,f6,g1,⟨t1,r1⟩,⟨t2,r2⟩,⟨t3,r3⟩⟩:=(hI _ _).1 hIf
 obtain⟨k,hkp⟩:∃k,k=placeS n ns:=⟨_,rfl⟩
 have hkl:k<=ns.length:=by rw[hkp];exact qC _ _
 have l1:(strs ns).length=ns.length:=JL _
 have elem:∀i (h:i<ns.length),∃q o,iaddrSV 1 nv (.int .i64 i)=some (.ptr q o, .no)/\ld1 (S1.row q) o=some (ofL ns[i], .no):=fun i h=>by
  obtain⟨q,o,a1,a2,a3,a4,a5⟩:=(h1.gr g1).elem (i:=i) (by omega)
  refine⟨q,o,a1, ?_⟩
  have e:(strs ns)[i]=[ofL ns[i]]:=by simp[strs]
  have:=a5 0 (by rw[e];simp)
  simp only[e]at this
  exact this
 rw[Jc];simp only[XY,simprocAttr]
 obtain⟨J,hJ⟩:∃J:Fr->St->Prop,∀fr S,J fr S<->(S1=S/\fr 1=ofL n/\fr 3= .ptr b1 0/\fr 5= .ptr b2 0/\fr 6= .ptr b3 0/\fr 7= .int .i64 k):=⟨_,fun _ _=>Iff.rfl⟩
 refine JJ J ?_ ?_
 ·simp only[XY,simprocAttr]
  obtain⟨L,hL⟩:∃L:Nat->Fr->St->Prop,∀j fr S,L j fr S<->∃i:Nat,j+i=k/\S1=S/\fr 1=ofL n/\fr 3= .ptr b1 0/\fr 5= .ptr b2 0/\fr 6= .ptr b3 0/\fr 7= .int .i64 i:=⟨_,fun _ _ _=>Iff.rfl⟩
  refine Jq L k (by omega) ((hL _ _ _).2 ⟨0,by omega,rfl,by simp only[XZ,simprocAttr,f1],by simp only[XZ,simprocAttr,f3],by simp only[XZ,simprocAttr,f5],by simp only[XZ,simprocAttr,f6],by simp only[XZ,simprocAttr]<;>rfl⟩) ?_
  clear f1 f3 f5 f6
  intro j fr S hLj
  obtain⟨i,hj,rfl,f1,f3,f5,f6,f7⟩:=(hL _ _ _).1 hLj
  by_cases hi:i<ns.length
  ·have hi':(i:Int)<ns.length:=by omega
   obtain⟨q,o,a1,a2⟩:=elem i hi
   by_cases hik:i<k
   ·have hlt:Op.bytesLess ns[i] n=true:=JbS n ns i hi (by omega)
    have hadd1:IntKind.i64.wrap ((i:Int)+1)=((i+1:Nat):Int):=by rw[Jp (by omega) (by omega)];rfl
    simp only[XZ,simprocAttr,f1,f3,f5,f6,f7,r1,len1,hi',a1,a2,hlt,hadd1]
    exact⟨k-(i+1),by omega,(hL _ _ _).2 ⟨i+1,by omega,rfl,by simp only[XZ,simprocAttr,f1],by simp only[XZ,simprocAttr,f3],by simp only[XZ,simprocAttr,f5],by simp only[XZ,simprocAttr,f6],by simp only[XZ,simprocAttr]⟩⟩
   ·have hik:i=k:=by omega
    subst hik
    have hlt:Op.bytesLess ns[i] n=false:=by
     have:=Jfm n ns (by omega)
     simp only[<-hkp]at this
     exact this
    simp only[XZ,simprocAttr,f1,f3,f5,f6,f7,r1,len1,hi',a1,a2,hlt]
    exact(hJ _ _).2 ⟨rfl,by simp only[XZ,simprocAttr,f1],by simp only[XZ,simprocAttr,f3],by simp only[XZ,simprocAttr,f5],by simp only[XZ,simprocAttr,f6],by simp only[XZ,simprocAttr,f7]⟩
  ·have hi':¬(i:Int)<ns.length:=by omega
   have hik:i=k:=by omega
   subst hik
   simp only[XZ,simprocAttr,f1,f3,f5,f6,f7,r1,len1,hi']
   exact(hJ _ _).2 ⟨rfl,by simp only[XZ,simprocAttr,f1],by simp only[XZ,simprocAttr,f3],by simp only[XZ,simprocAttr,f5],by simp only[XZ,simprocAttr,f6],by simp only[XZ,simprocAttr,f7]⟩
 clear f1 f3 f5 f6
 intro fr S hJf
 obtain⟨rfl,f1,f3,f5,f6,f7⟩:=(hJ _ _).1 hJf
 have n3:st.row b3= .none:=by rw[hb3];exact nx0 hw hn0 2
 have n1:st.row b1= .none:=by rw[hb1];exact nx0 hw hn0 0
 by_cases hsame:ns[k]? =some n
 ·have hi:k<ns.length:=by
   rcases Nat.lt_or_ge k ns.length with h|h
   ·exact h
   ·rw[List.getElem?_eq_none h]at hsame;cases hsame
  have hi':(k:Int)<ns.length:=by omega
  obtain⟨q,o,a1,a2⟩:=elem k hi
  have hnk:ns[k]=n:=by rw[List.getElem?_eq_getElem hi]at hsame;injection hsame
  rw[hnk]at a2
  rw[Jf,Jc];simp only[XZ,simprocAttr,f1,f3,f5,f6,f7,r1,r3,len1,hi',a1,a2,c1,s1,c2,s2]
  have gw:=g1.wr (f:=fun u=> .cells u [.int .i64 tk,ofL tn,nv,kv]) n3 (Je r3) (by rw[r3]) (Ja _)
  refine⟨gw,_,rfl, ?_⟩
  have e:putS (.mk tk tn ns ks) n (.mk xk xn xns xks)= .mk tk tn ns ks:=by
   rw[putS]
   show(if ns[placeS n ns]? =some n then _ else _)=_
   rw[<-hkp,if_pos hsame]
  rw[e]
  exact htt.gr gw
 ·skip
  obtain⟨M,hM⟩:∃M:Fr->St->Prop,∀fr S,M fr S<->(S1=S/\fr 1=ofL n/\fr 3= .ptr b1 0/\fr 5= .ptr b2 0/\fr 6= .ptr b3 0/\fr 7= .int .i64 k):=⟨_,fun _ _=>Iff.rfl⟩
  refine JJ M ?_ ?_
  ·by_cases hi:k<ns.length
   ·have hi':(k:Int)<ns.length:=by omega
    obtain⟨q,o,a1,a2⟩:=elem k hi
    have hne:(ns[k]=n)=False:=eq_false fun e=>hsame (by rw[List.getElem?_eq_getElem hi];exact congrArg some e)
    simp only[XZ,simprocAttr,f1,f3,f5,f6,f7,r1,len1,hi',a1,a2,Q9,hne]
    exact(hM _ _).2 ⟨rfl,by simp only[XZ,simprocAttr,f1],by simp only[XZ,simprocAttr,f3],by simp only[XZ,simprocAttr,f5],by simp only[XZ,simprocAttr,f6],by simp only[XZ,simprocAttr,f7]⟩
   ·have hi':¬(k:Int)<ns.length:=by omega
    simp only[XZ,simprocAttr,f1,f3,f5,f6,f7,r1,len1,hi']
    exact(hM _ _).2 ⟨rfl,by simp only[XZ,simprocAttr,f1],by simp only[XZ,simprocAttr,f3],by simp only[XZ,simprocAttr,f5],by simp only[XZ,simprocAttr,f6],by simp only[XZ,simprocAttr,f7]⟩
  clear f1 f3 f5 f6 f7
  intro fr S hMf
  obtain⟨rfl,f1,f3,f5,f6,f7⟩:=(hM _ _).1 hMf
  have w1:=g1.wf
  have hkl':k<=(strs ns).length:=by omega
  have hkl2:k<=es.length:=by omega
  obtain⟨va,hva,sa,_⟩:=JiD (h1.gr g1) (k:=k) hkl'
  obtain⟨vb,hvb,sb,_⟩:=Jl0 (h1.gr g1) (k:=k) hkl'
  obtain⟨vc,hvc,sc,_⟩:=JiD (h2.gr g1) (k:=k) hkl2
  obtain⟨vd,hvd,sd,_⟩:=Jl0 (h2.gr g1) (k:=k) hkl2
  have hva':∀S',cutLV S' 1 nv none (some (.int .i64 (k:Int))) none=some (va, .no):=fun _=>hva
  have hvb':∀S',cutLV S' 1 nv (some (.int .i64 (k:Int))) none none=some (vb, .no):=fun _=>hvb
  have hvc':∀S',cutLV S' 4 kv none (some (.int .i64 (k:Int))) none=some (vc, .no):=fun _=>hvc
  have hvd':∀S',cutLV S' 4 kv (some (.int .i64 (k:Int))) none none=some (vd, .no):=fun _=>hvd
  obtain⟨m1,hm1⟩:∃n,S1.nx=up 0 n:=⟨_,up0 _⟩
  have ob1:=fun j=>nes (Js w1 hm1 (Je r1) j)
  have ob2:=fun j=>nes (Js w1 hm1 (Je r2) j)
  have ob3:=fun j=>nes (Js w1 hm1 (Je r3) j)
  have okt:∀(z:Nat) (l:List (List V)) (q:Nat),okC l->okC (l.take q):=fun _ l q h e he=>h e (List.mem_of_mem_take he)
  have okd:∀(z:Nat) (l:List (List V)) (q:Nat),okC l->okC (l.drop q):=fun _ l q h e he=>h e (List.mem_of_mem_drop he)
  have gn:∀S:St,WF S->∀l,Gr S (S.new fun t=> .cells t l):=fun S w l=>Gr.new w (Ja _)
  have hes:okC es:=fun e he=>by
   obtain⟨i,hi,rfl⟩:=List.getElem_of_mem he
   exact(h4 i hi (by omega)).ok
  rw[Jc];simp only[XY,simprocAttr,f3,f7,r1,hm1,ob1,hva']
  have ga:=gn S1 w1 []
  have hq0:SlF S1 (S1.new fun t=> .cells t []) (.slx (up 0 m1) 0 0 1 0) 1 []:=⟨by simp, .inr ⟨up 0 m1,S1.t,nx0 w1 hm1 0,by simp only[XZ,simprocAttr,hm1];rfl, .inr rfl⟩⟩
  refine JjV (S0:=S1) ga hq0 (sa.gr ga) (okt 1 _ _ (jn ns)) (by rw[List.length_take];omega) (by rw[List.length_take];simp;omega) ?_
  intro S2 v2 g2 h2' _
  rw[List.nil_append]at h2'
  simp only[XY,simprocAttr]
  have b1at:S2.row b1= .cells t1 [.int .i64 tk,ofL tn,nv,kv]:=g2.cells r1
  obtain⟨m2,hm2⟩:∃n,S2.nx=up 0 n:=⟨_,up0 _⟩
  have w2:=g2.wf
  have ob1:=fun j=>nes (Js w2 hm2 (Je b1at) j)
  rw[Jc];simp only[XY,simprocAttr,f3,f7,b1at,hm2,ob1,hvc']
  have gb:=gn S2 w2 []
  have hq1:SlF S1 (S2.new fun t=> .cells t []) (.slx (up 0 m2) 0 0 4 0) 4 []:=⟨by simp, .inr ⟨up 0 m2,S2.t,by rw[<-hm2];exact g2.fresh,by simp only[XZ,simprocAttr,hm2];rfl, .inr rfl⟩⟩
  refine jr (S0:=S1) (g2.trans gb) hq1 ((sc.gr g2).gr gb) (okt 4 _ _ hes) (by rw[List.length_take];omega) (by rw[List.length_take];simp;omega) ?_
  intro S3 v3 g3 h3' row3 keep3
  rw[List.nil_append]at h3'
  have v2ex:∀{r},rowOf v2=some r->S2.row r≠ .none:=fun hr=>h2'.some hr
  have h23x:∀r,rowOf v3=some r->S2.row r= .none:=fun r hr=>by
   rcases row3 with e|e
   ·rw[e]at hr;injection hr with hr;rw[<-hr];exact nx0 w2 hm2 0
   ·rw[e]at hr;injection hr with hr;rw[<-hr]
    have:=nx0 w2 hm2 1
    simpa only[XZ,simprocAttr,hm2]using this
  have h23:SlF S1 S3 v2 1 ((strs ns).take k):=(h2'.gr gb).keep fun r hr=>keep3 r ((h2'.gr gb).some hr) (fun e=>by
   injection e with e
   exact Js w2 hm2 (v2ex hr) 0 e.symm)
  have x32:∀r,rowOf v3=some r->rowOf v2≠some r:=fun r a b=>v2ex b (h23x r a)
  simp only[XY,simprocAttr]
  have b1at:=g3.cells r1
  have b2at:=g3.cells r2
  rw[Jc]
  simp only[XY,simprocAttr,f1,f3,f5,f7,b1at,b2at,hvb',hvd',c3,s3,c4,s4]
  have w3:=g3.wf
  have gc:=gn S3 w3 [ofL n]
  have ba:S1.row b1≠ .none:=Je r1
  have bb:S1.row b2≠ .none:=Je r2
  refine YO (S0:=S1) (g3.trans gc) (h23.gr gc) (YI rfl) (fun e he=>by rw[List.mem_singleton.1 he];rfl) (by simp) (by simp) (by rw[List.length_take];simp;omega) ?_
  intro S4 v4 g4 h4' row4 keep4
  have v4n:∀r,rowOf v4=some r->S3.row r= .none:=fun r hr=>by
   rw[row4]at hr;injection hr with hr;rw[<-hr]
   exact Ch.fresh (Ch.of (fun _=>False) gc) (KQ gc.wf)
  have h34:SlF S1 S4 v3 4 (es.take k):=(h3'.gr gc).keep fun r hr=>keep4 r ((h3'.gr gc).some hr) fun e=>x32 r hr e
  have b1at:=g4.cells r1
  simp only[XY,simprocAttr,f1,f3,f5,f7,b1at,hvb']
  refine jr (S0:=S1) g4 h4' (sb.gr g4) (okd 1 _ _ (jn ns)) (by rw[List.length_drop];omega) (by rw[List.length_drop,List.length_append,List.length_take];simp;omega) ?_
  intro S5 v5 g5 h5' row5 keep5
  have h35:SlF S1 S5 v3 4 (es.take k):=h34.keep fun r hr=>keep5 r (h34.some hr) fun e=>h3'.some hr (v4n r e)
  have b2at:=g5.cells r2
  simp only[XY,simprocAttr,f1,f3,f5,f7,b2at,c3,s3,c4,s4]
  have w5:=g5.wf
  have gd:=gn S5 w5 [.int .i64 xk,ofL xn,xnv,xkv]
  have hxok:allSc [V.int .i64 xk,ofL xn,xnv,xkv]=true:=hxx.ok
  refine YO (S0:=S1) (g5.trans gd) (h35.gr gd) (YI rfl) (fun e he=>by rw[List.mem_singleton.1 he];exact hxok) (by simp) (by simp) (by rw[List.length_take];simp;omega) ?_
  intro S6 v6 g6 h6' row6 keep6
  have v6n:∀r,rowOf v6=some r->S5.row r= .none:=fun r hr=>by
   rw[row6]at hr;injection hr with hr;rw[<-hr]
   exact Ch.fresh (Ch.of (fun _=>False) gd) (KQ gd.wf)
  have x53:∀r,rowOf v5=some r->rowOf v3≠some r:=fun r a b=>by
   rcases row5 with e|e
   ·rw[e]at a;exact h3'.some b (v4n r a)
   ·rw[e]at a;injection a with a;rw[<-a]at b;exact h34.some b (KQ g4.wf)
  have h56:SlF S1 S6 v5 1 ((strs ns).take k++[[ofL n]]++(strs ns).drop k):=(h5'.gr gd).keep fun r hr=>keep6 r ((h5'.gr gd).some hr) (x53 r hr)
  have b1at:=g6.cells r1
  simp only[XY,simprocAttr,f1,f3,f5,f7,b1at,hvd']
  refine jr (S0:=S1) g6 h6' (sd.gr g6) (okd 4 _ _ hes) (by rw[List.length_drop];omega) (by rw[List.length_drop,List.length_append,List.length_take];simp;omega) ?_
  intro S7 v7 g7 h7' row7 keep7
  have h57:SlF S1 S7 v5 1 ((strs ns).take k++[[ofL n]]++(strs ns).drop k):=h56.keep fun r hr=>keep7 r (h56.some hr) fun e=>h5'.some hr (v6n r e)
  have b1at:=g7.cells r1
  have c5:=h57.at.cells
  have s5:=h57.at.sc
  have c6:=h7'.at.cells
  have s6:=h7'.at.sc
  simp only[XY,simprocAttr,f1,f3,f5,f7,b1at,c5,s5,c6,s6]
  have a2:=QX h2' ba
  have a2':=QX h2' bb
  have a4:=QX h4' ba
  have a4':=QX h4' bb
  have a3:=QX h3' ba
  refine⟨Y9 (Kr (v:=v2) (w:= .ptr b1 2) (q:=b1) (by simp only[XZ,simprocAttr]) (by simp only[XZ,simprocAttr]) rfl a2)<|Y9 (Kr (v:=v2) (w:= .ptr b2 0) (q:=b2) (by simp only[XZ,simprocAttr]) (by simp only[XZ,simprocAttr,f5]) rfl a2')<|Y9 (Kr (v:=v2) (w:= .ptr b1 3) (q:=b1) (by simp only[XZ,simprocAttr]) (by simp only[XZ,simprocAttr]) rfl a2)<|Y9 (Kr (v:=v4) (w:= .ptr b2 0) (q:=b2) (by simp only[XZ,simprocAttr]) (by simp only[XZ,simprocAttr,f5]) rfl a4')<|Y9 (Kr (v:=v4) (w:= .ptr b1 3) (q:=b1) (by simp only[XZ,simprocAttr]) (by simp only[XZ,simprocAttr]) rfl a4) (Kr (v:=v3) (w:= .ptr b1 3) (q:=b1) (by simp only[XZ,simprocAttr]) (by simp only[XZ,simprocAttr]) rfl a3), ?_⟩
  have ga7:Gr st (S7.wr b1 t1 fun u=> .cells u [.int .i64 tk,ofL tn,v5,kv]):=(g1.trans g7).wr n1 (Je b1at) (by rw[b1at];rfl) (Ja _)
  have rb:(S7.wr b1 t1 fun u=>Row.cells u [V.int .i64 tk,ofL tn,v5,kv]).row b1= .cells S7.t [.int .i64 tk,ofL tn,v5,kv]:=Jl _ _ _ _
  obtain⟨S8,hS8⟩:∃S8,S8=((S7.wr b1 t1 fun u=>Row.cells u [V.int .i64 tk,ofL tn,v5,kv]).wr b1 S7.t fun u=>Row.cells u [V.int .i64 tk,ofL tn,v5,v7]):=⟨_,rfl⟩
  have g8:Gr st S8:=by rw[hS8];exact ga7.wr n1 (Je rb) (by rw[rb];rfl) (Ja _)
  have nb:∀p,p≠b1->S8.row p=S7.row p:=fun p hp=>by rw[hS8,Jm _ _ _ hp,Jm _ _ _ hp]
  have rb1:∃t,S8.row b1= .cells t [.int .i64 tk,ofL tn,v5,v7]:=⟨_,by rw[hS8];exact Jl _ _ _ _⟩
  rw[<-hS8]
  clear hS8 ga7 rb
  obtain⟨t8,rb1⟩:=rb1
  have b31:b3≠b1:=by rw[hb1,hb3];exact fun e=>u02 e.symm
  have rb3:S8.row b3= .cells t3 [.int .i64 0,ofL [], .snil, .snil]:=by rw[nb b3 b31];exact g7.cells r3
  rw[Jc];simp only[XZ,simprocAttr,f3,f6,rb1,rb3,c5,s5,c6,s6]
  have g9:Gr st (S8.wr b3 t3 fun u=> .cells u [.int .i64 tk,ofL tn,v5,v7]):=g8.wr n3 (Je rb3) (by rw[rb3];rfl) (Ja _)
  refine⟨g9,_,rfl, ?_⟩
  have e:putS (.mk tk tn ns ks) n (.mk xk xn xns xks)= .mk tk tn (ns.take k++n::ns.drop k) (ks.take k++(.mk xk xn xns xks)::ks.drop k):=by
   rw[putS]
   show(if ns[placeS n ns]? =some n then _ else _)=_
   rw[<-hkp,if_neg hsame,hkp]
   rfl
  rw[e]
  have nv5:∀r,rowOf v5=some r->r≠b1/\r≠b3:=fun r hr=>⟨fun e=>QX h57 ba (by rw[<-e];exact hr),fun e=>QX h57 (Je r3) (by rw[<-e];exact hr)⟩
  have nv7:∀r,rowOf v7=some r->r≠b1/\r≠b3:=fun r hr=>⟨fun e=>QX h7' ba (by rw[<-e];exact hr),fun e=>QX h7' (Je r3) (by rw[<-e];exact hr)⟩
  have k5:=h57.keep (st':=(S8.wr b3 t3 fun u=> .cells u [.int .i64 tk,ofL tn,v5,v7])) fun r hr=>by rw[Jm _ _ _ (nv5 r hr).2,nb r (nv5 r hr).1]
  have k7:=h7'.keep (st':=(S8.wr b3 t3 fun u=> .cells u [.int .i64 tk,ofL tn,v5,v7])) fun r hr=>by rw[Jm _ _ _ (nv7 r hr).2,nb r (nv7 r hr).1]
  have hPS:∀r,S1.row r= .none->P r:=fun r h=>hP r (Ch.fresh (Ch.of (fun _=>False) g1) h)
  have hstr:(strs ns).take k++[[ofL n]]++(strs ns).drop k=strs (ns.take k++n::ns.drop k):=by simp[strs]
  rw[hstr]at k5
  have hkid:es.take k++[[.int .i64 xk,ofL xn,xnv,xkv]]++es.drop k=es.take k++[.int .i64 xk,ofL xn,xnv,xkv]::es.drop k:=by simp
  rw[hkid]at k7
  refine .mk (es:=es.take k++[.int .i64 xk,ofL xn,xnv,xkv]::es.drop k) (k5.at.imp fun r p _=>⟨hPS r p,rfl⟩) (k7.at.imp fun r p _=>⟨hPS r p,rfl⟩) (by simp;omega) ?_
  exact Jj9 (R:=TyC P (S8.wr b3 t3 fun u=> .cells u [.int .i64 tk,ofL tn,v5,v7])) (hxx.gr g9) k h3 fun i a b=>(h4 i a b).gr g9
def TreeAt (nms:List Str)(d:Nat):Prop:=∀{P Q:Pt->Prop} {st:St} {e:List V} {r:Rw} {nv:V},WF st->RwC P st e r->SlAt Q st nv 1 (strs nms)->
 Does (tabT tabD) Jb4 [.agg e, .int .i64 d,nv] st fun v st'=>Gr st st'/\∃e',v= .agg e'/\TyC (fun r=>st.row r= .none) st' e' (treeS nms d r)
theorem JkF (nms:List Str)(d:Nat)(r:Rw):kindR nms d r=1\/kindR nms d r=2\/kindR nms d r=3\/kindR nms d r=4\/kindR nms d r=5\/kindR nms d r=6\/kindR nms d r=7\/kindR nms d r=8\/kindR nms d r=9:=by
 have e1:=Int.emod_nonneg r.kind (show(9:Int)≠0 by decide)
 have e2:=Int.emod_lt_of_pos r.kind (show(0:Int)<9 by decide)
 unfold kindR
 split
 ·omega
 ·omega
theorem Jh5 {t x:Ty}{n:Str}{i:Nat}(h1:t.kids.length=t.names.length)(h2:t.names.length<=i):(putS t n x).kids.length=(putS t n x).names.length/\(putS t n x).names.length<=i+1:=by
 unfold putS
 split
 ·exact⟨h1,by omega⟩
 ·have:=qC n t.names
  simp[Ty.kids,Ty.names]at*
  omega
set_option maxHeartbeats 4000000 in
theorem Jh6 (nms:List Str)(hnm:nms.length<1000)(d:Nat)(hd:d<1000)(ih:d≠0->TreeAt nms d):TreeAt nms (d+1):=by
 intro P Q st e r nv hw h hn
 refine Jv Jbo rfl ?_
 have hr:=h
 obtain⟨rnv,rkv,es,rfl,hk,hnn,hz,h1,h2,h3,⟨hl1,hl2⟩,h4⟩:=h.inv
 obtain⟨n0,hn0⟩:∃n,st.nx=up 0 n:=⟨_,up0 _⟩
 obtain⟨b,hb⟩:∃b,b=up 0 n0:=⟨_,rfl⟩
 obtain⟨b2,hb2⟩:∃b,b=up 1 n0:=⟨_,rfl⟩
 have c1:=h1.cells
 have s1:=h1.sc
 have c2:=h2.cells
 have s2:=h2.sc
 have lenN:=hn.len
 rw[JL]at lenN
 have e1:=Int.emod_nonneg r.kind (show(9:Int)≠0 by decide)
 have e2:=Int.emod_lt_of_pos r.kind (show(0:Int)<9 by decide)
 simp only[Qa,XY,simprocAttr]
 rw[Jc];simp only[XY,simprocAttr,hn0,c1,s1,c2,s2]
 have hd1:(((d+1:Nat):Int))=(d:Int)+1:=by omega
 obtain⟨S0,hS0⟩:∃S0,S0=((st.new fun t=> .cells t [.int .i64 r.kind, .int .i64 r.n,rnv,rkv]).new fun t=> .cells t [.int .i64 0,ofL [], .snil, .snil]):=⟨_,rfl⟩
 have g0:Gr st S0:=by rw[hS0];exact((Gr.refl hw).nn (Ja _)).nn (Ja _)
 have r1:S0.row b= .cells st.t [.int .i64 r.kind, .int .i64 r.n,rnv,rkv]:=by rw[hS0,hb];simp only[XZ,simprocAttr,hn0]
 have r2:∃t,S0.row b2= .cells t [.int .i64 0,ofL [], .snil, .snil]:=⟨_,by rw[hS0,hb2];simp only[XZ,simprocAttr,hn0];rfl⟩
 rw[<-hb,<-hb2,<-hS0]
 have w0:=g0.wf
 have nb1:st.row b= .none:=by rw[hb];exact nx0 hw hn0 0
 have nb2:st.row b2= .none:=by rw[hb2];exact nx0 hw hn0 1
 have b12:b≠b2:=by
  rw[hb,hb2]
  simp only[XZ,simprocAttr]
 clear hS0
 obtain⟨t2,r2⟩:=r2
 obtain⟨K,hK⟩:∃K,K=1+r.kind%9:=⟨_,rfl⟩
 have hKw:IntKind.i64.wrap (1+r.kind%9)=K:=by rw[hK];exact Jp (by omega) (by omega)
 rw[Jc];simp only[XY,simprocAttr,r1]
 refine Jb (Jef r.kind 9 _ (by decide) (by decide)) ?_
 rintro _ _ ⟨rfl,rfl⟩
 simp only[XY,simprocAttr,hKw]
 obtain⟨k,hkk⟩:∃k,k=kindR nms (d+1) r:=⟨_,rfl⟩
 obtain⟨B,hB⟩:∃B:Fr->Prop,∀fr,B fr<->(fr 1= .int .i64 ((d+1:Nat):Int)/\fr 2=nv/\fr 3= .ptr b 0/\fr 6= .ptr b2 0/\fr 7= .int .i64 k):=⟨_,fun _=>Iff.rfl⟩
 obtain⟨I,hI⟩:∃I:Fr->St->Prop,∀fr S,I fr S<->(S0=S/\B fr):=⟨_,fun _ _=>Iff.rfl⟩
 have hkd:k=if(K=9/\nms=[])\/(d+1<=1/\4<=K/\K<=8)then 2 else K:=by rw[hkk,hK];rfl
 refine JJ I ?_ ?_
 ·by_cases k9:K=9
  ·by_cases hnn0:nms=[]
   ·have hk2:k=2:=by rw[hkd,if_pos (.inl ⟨k9,hnn0⟩)]
    rw[hnn0]at lenN
    simp only[XZ,simprocAttr,k9,lenN,Int.natCast_zero]
    exact(hI _ _).2 ⟨rfl,(hB _).2 (by simp only[XZ,simprocAttr,hk2,and_self])⟩
   ·have hk2:k=9:=by rw[hkd,if_neg (by rintro(⟨_,h⟩|⟨_,_,h⟩);exact hnn0 h;omega),k9]
    have hl0:((nms.length:Nat):Int)≠0:=fun e=>hnn0 (List.length_eq_zero_iff.1 (by omega))
    by_cases h1d:((d+1:Nat):Int)<=1
    ·simp only[XZ,simprocAttr,k9,lenN,hl0,h1d]
     exact(hI _ _).2 ⟨rfl,(hB _).2 (by simp only[XZ,simprocAttr,hk2,and_self])⟩
    ·simp only[XZ,simprocAttr,k9,lenN,hl0,h1d]
     exact(hI _ _).2 ⟨rfl,(hB _).2 (by simp only[XZ,simprocAttr,hk2,and_self])⟩
  ·by_cases h1d:((d+1:Nat):Int)<=1
   ·by_cases k4:4<=K
    ·have k8:K<=8:=by omega
     have hk2:k=2:=by rw[hkd,if_pos (.inr ⟨by omega,k4,k8⟩)]
     simp only[XZ,simprocAttr,k9,h1d,k4,k8]
     exact(hI _ _).2 ⟨rfl,(hB _).2 (by simp only[XZ,simprocAttr,hk2,and_self])⟩
    ·have hk2:k=K:=by rw[hkd,if_neg (by rintro(⟨h,_⟩|⟨_,h,_⟩);exact k9 h;exact k4 h)]
     simp only[XZ,simprocAttr,k9,h1d,k4]
     exact(hI _ _).2 ⟨rfl,(hB _).2 (by simp only[XZ,simprocAttr,hk2,and_self])⟩
   ·have hk2:k=K:=by rw[hkd,if_neg (by rintro(⟨h,_⟩|⟨h,_⟩);exact k9 h;omega)]
    simp only[XZ,simprocAttr,k9,h1d]
    exact(hI _ _).2 ⟨rfl,(hB _).2 (by simp only[XZ,simprocAttr,hk2,and_self])⟩
 intro fr S hIf
 obtain⟨rfl,hBf⟩:=(hI _ _).1 hIf
 obtain⟨f1,f2,f3,f6,f7⟩:=(hB _).1 hBf
 obtain⟨m0,hm0⟩:∃n,S0.nx=up 0 n:=⟨_,up0 _⟩
 obtain⟨bt,hbt⟩:∃b,b=up 0 m0:=⟨_,rfl⟩
 rw[Jc];simp only[XY,simprocAttr,f7,hm0]
 rw[<-hbt]
 have nbt0:S0.row bt= .none:=by rw[hbt];exact nx0 w0 hm0 0
 have nbt:st.row bt= .none:=Ch.fresh (Ch.of (fun _=>False) g0) nbt0
 obtain⟨S1,hS1⟩:∃S1,S1=((S0.new fun t=> .cells t [.int .i64 0,ofL [], .snil, .snil]).wr bt S0.t fun u=> .cells u [.int .i64 k,ofL [], .snil, .snil]):=⟨_,rfl⟩
 have g01:Gr S0 S1:=by rw[hS1,hbt];exact(Gr.refl w0).nw hm0 (Ja _) (Ja _)
 have rt:S1.row bt= .cells S0.t.succ [.int .i64 k,ofL [], .snil, .snil]:=by rw[hS1];exact Jl _ _ _ _
 rw[<-hS1]
 clear hS1
 have g1:Gr st S1:=g0.trans g01
 have b2t:b2≠bt:=fun e=>by rw[e,nbt0]at r2;cases r2
 have bbt:b≠bt:=fun e=>by rw[e,nbt0]at r1;cases r1
 have r1:=g01.cells r1
 have r2:=g01.cells r2
 obtain⟨J,hJ⟩:∃J:Fr->St->Prop,∀fr S,J fr S<->(∃T te t,treeS nms (d+1) r=T/\fr 6= .ptr b2 0/\fr 8= .ptr bt 0/\Gr st S/\S.row bt= .cells t te/\S.row b2= .cells t2 [.int .i64 0,ofL [], .snil, .snil]/\TyC (fun r=>S1.row r= .none) S te T):=⟨_,fun _ _=>Iff.rfl⟩
 have hmem:=JkF nms (d+1) r
 rw[<-hkk]at hmem
 have flat:∀(P:Pt->Prop) (S:St) (k:Int) (n:Str),TyC P S [.int .i64 k,ofL n, .snil, .snil] (.mk k n [] []):=fun P S k n=> .mk (es:=[]) (SlAt.nil _ _ _) (SlAt.nil _ _ _) rfl fun i h=>absurd h (by simp)
 have hd0:4<=k->k<=8->d≠0:=fun a b e=>by
  subst e
  by_cases c:(K=9/\nms=[])\/(0+1<=1/\4<=K/\K<=8)
  ·rw[if_pos c]at hkd;omega
  ·rw[if_neg c]at hkd;exact c (.inr ⟨by omega,by omega,by omega⟩)
 have hsubd:IntKind.i64.wrap (((d+1:Nat):Int)-1)=(d:Int):=by rw[Jp (by omega) (by omega)];omega
 have st1:∀r,S1.row r= .none->st.row r= .none:=fun r h=>Ch.fresh (Ch.of (fun _=>False) g1) h
 refine JJ J ?_ ?_
 ·rcases hmem with rfl|rfl|rfl|rfl|rfl|rfl|rfl|rfl|rfl
  ·simp only[XZ,simprocAttr,f7]
   exact(hJ _ _).2 ⟨_,_,_,by rw[treeS];simp only[<-hkk];rfl,by simp only[XZ,simprocAttr,f6],by simp only[XZ,simprocAttr],g1,rt,r2,flat _ _ _ _⟩
  ·simp only[XZ,simprocAttr,f7]
   exact(hJ _ _).2 ⟨_,_,_,by rw[treeS];simp only[<-hkk];rfl,by simp only[XZ,simprocAttr,f6],by simp only[XZ,simprocAttr],g1,rt,r2,flat _ _ _ _⟩
  ·simp only[XZ,simprocAttr,f7]
   exact(hJ _ _).2 ⟨_,_,_,by rw[treeS];simp only[<-hkk];rfl,by simp only[XZ,simprocAttr,f6],by simp only[XZ,simprocAttr],g1,rt,r2,flat _ _ _ _⟩
  ·have hd0':=hd0 (by decide) (by decide)
   simp only[XZ,simprocAttr,f1,f2,f3,f7,r1,c1,s1,c2,s2]
   refine Jb (kidC g1.wf (hr.gr g1) 0 (by decide)) ?_
   rintro _ S2 ⟨g2,ke,rfl,hke⟩
   simp only[XZ,simprocAttr,f1,f2,hsubd]
   refine Jb (ih hd0' g2.wf hke (hn.gr (g1.trans g2))) ?_
   rintro _ S3 ⟨g3,ce,rfl,hce⟩
   obtain⟨cnv,ckv,ces,rfl,y1,y3,y4,y5⟩:=hce.inv
   have d1:=y1.cells
   have d2:=y1.sc
   have d3:=y3.cells
   have d4:=y3.sc
   have rt3:=g3.cells (g2.cells rt)
   obtain⟨m3,hm3⟩:∃n,S3.nx=up 0 n:=⟨_,up0 _⟩
   have ot:=fun j=>nes (Js g3.wf hm3 (Je rt3) j)
   simp only[XZ,simprocAttr,f7,hm3,ot,rt3,d1,d2,d3,d4]
   obtain⟨S4,hS4⟩:∃S4,S4=((S3.new fun t=> .cells t [.int .i64 (treeS nms d (kidS r 0)).kind,ofL (treeS nms d (kidS r 0)).name,cnv,ckv]).wr bt S0.t.succ fun u=> .cells u [.int .i64 4,ofL [], .snil, .slx (up 0 m3) 0 1 4 1]):=⟨_,rfl⟩
   rw[<-hS4]
   have gN:Gr S3 (S3.new fun t=> .cells t [.int .i64 (treeS nms d (kidS r 0)).kind,ofL (treeS nms d (kidS r 0)).name,cnv,ckv]):=Gr.new g3.wf (Ja _)
   have g13:Gr st S3:=g1.trans (g2.trans g3)
   have g4:Gr st S4:=by rw[hS4];exact(g13.trans gN).wr nbt (Je (gN.cells rt3)) (by rw[gN.cells rt3];rfl) (Ja _)
   have qt:up 0 m3≠bt:=fun e=>by have:=nx0 g3.wf hm3 0;rw[e,rt3]at this;cases this
   have rq:S4.row (up 0 m3)= .cells S3.t [.int .i64 (treeS nms d (kidS r 0)).kind,ofL (treeS nms d (kidS r 0)).name,cnv,ckv]:=by rw[hS4,Jm _ _ _ qt,<-hm3];exact JD _ _
   have rb4:S4.row b2= .cells t2 [.int .i64 0,ofL [], .snil, .snil]:=by rw[hS4,Jm _ _ _ b2t];exact gN.cells (g3.cells (g2.cells r2))
   have rt4:∃t,S4.row bt= .cells t [.int .i64 4,ofL [], .snil, .slx (up 0 m3) 0 1 4 1]:=⟨_,by rw[hS4];exact Jl _ _ _ _⟩
   obtain⟨t4,rt4⟩:=rt4
   have q1:S1.row (up 0 m3)= .none:=Ch.fresh (Ch.of (fun _=>False) (g2.trans g3)) (nx0 g3.wf hm3 0)
   have hce4:TyC (fun r=>S1.row r= .none) S4 [.int .i64 (treeS nms d (kidS r 0)).kind,ofL (treeS nms d (kidS r 0)).name,cnv,ckv] (treeS nms d (kidS r 0)):=hce.imp fun r p e=>⟨Ch.fresh (Ch.of (fun _=>False) g2) p,by
    rw[hS4,Jm _ _ _ fun k=>by rw[k,g2.cells rt]at p;cases p]
    exact gN.same r e⟩
   have hall:TyC (fun r=>S1.row r= .none) S4 [.int .i64 4,ofL [], .snil, .slx (up 0 m3) 0 1 4 1] (.mk 4 [] [] [treeS nms d (kidS r 0)]):=
    .mk (es:=[[.int .i64 (treeS nms d (kidS r 0)).kind,ofL (treeS nms d (kidS r 0)).name,cnv,ckv]]) (SlAt.nil _ _ _) ⟨fun e he=>by rw[List.mem_singleton.1 he];rfl, .inr ⟨up 0 m3,0,q1, .inr ⟨1,Nat.le_refl 1,rfl⟩,_, .inl ⟨_,rq⟩,by simp,by simp⟩⟩ rfl fun i h h'=>by
     have:i=0:=by simp at h;omega
     subst this
     exact hce4
   clear hS4
   exact(hJ _ _).2 ⟨_,_,_,by rw[treeS];simp only[<-hkk];rfl,by simp only[XZ,simprocAttr,f6],by simp only[XZ,simprocAttr],g4,rt4,rb4,hall⟩
  ·have hd0':=hd0 (by decide) (by decide)
   simp only[XZ,simprocAttr,f1,f2,f3,f7,r1,c1,s1,c2,s2]
   refine Jb (kidC g1.wf (hr.gr g1) 0 (by decide)) ?_
   rintro _ S2 ⟨g2,ke,rfl,hke⟩
   simp only[XZ,simprocAttr,f1,f2,hsubd]
   refine Jb (ih hd0' g2.wf hke (hn.gr (g1.trans g2))) ?_
   rintro _ S3 ⟨g3,ce,rfl,hce⟩
   obtain⟨cnv,ckv,ces,rfl,y1,y3,y4,y5⟩:=hce.inv
   have d1:=y1.cells
   have d2:=y1.sc
   have d3:=y3.cells
   have d4:=y3.sc
   have rt3:=g3.cells (g2.cells rt)
   obtain⟨m3,hm3⟩:∃n,S3.nx=up 0 n:=⟨_,up0 _⟩
   have ot:=fun j=>nes (Js g3.wf hm3 (Je rt3) j)
   simp only[XZ,simprocAttr,f7,hm3,ot,rt3,d1,d2,d3,d4]
   obtain⟨S4,hS4⟩:∃S4,S4=((S3.new fun t=> .cells t [.int .i64 (treeS nms d (kidS r 0)).kind,ofL (treeS nms d (kidS r 0)).name,cnv,ckv]).wr bt S0.t.succ fun u=> .cells u [.int .i64 5,ofL [], .snil, .slx (up 0 m3) 0 1 4 1]):=⟨_,rfl⟩
   rw[<-hS4]
   have gN:Gr S3 (S3.new fun t=> .cells t [.int .i64 (treeS nms d (kidS r 0)).kind,ofL (treeS nms d (kidS r 0)).name,cnv,ckv]):=Gr.new g3.wf (Ja _)
   have g13:Gr st S3:=g1.trans (g2.trans g3)
   have g4:Gr st S4:=by rw[hS4];exact(g13.trans gN).wr nbt (Je (gN.cells rt3)) (by rw[gN.cells rt3];rfl) (Ja _)
   have qt:up 0 m3≠bt:=fun e=>by have:=nx0 g3.wf hm3 0;rw[e,rt3]at this;cases this
   have rq:S4.row (up 0 m3)= .cells S3.t [.int .i64 (treeS nms d (kidS r 0)).kind,ofL (treeS nms d (kidS r 0)).name,cnv,ckv]:=by rw[hS4,Jm _ _ _ qt,<-hm3];exact JD _ _
   have rb4:S4.row b2= .cells t2 [.int .i64 0,ofL [], .snil, .snil]:=by rw[hS4,Jm _ _ _ b2t];exact gN.cells (g3.cells (g2.cells r2))
   have rt4:∃t,S4.row bt= .cells t [.int .i64 5,ofL [], .snil, .slx (up 0 m3) 0 1 4 1]:=⟨_,by rw[hS4];exact Jl _ _ _ _⟩
   obtain⟨t4,rt4⟩:=rt4
   have q1:S1.row (up 0 m3)= .none:=Ch.fresh (Ch.of (fun _=>False) (g2.trans g3)) (nx0 g3.wf hm3 0)
   have hce4:TyC (fun r=>S1.row r= .none) S4 [.int .i64 (treeS nms d (kidS r 0)).kind,ofL (treeS nms d (kidS r 0)).name,cnv,ckv] (treeS nms d (kidS r 0)):=hce.imp fun r p e=>⟨Ch.fresh (Ch.of (fun _=>False) g2) p,by
    rw[hS4,Jm _ _ _ fun k=>by rw[k,g2.cells rt]at p;cases p]
    exact gN.same r e⟩
   have hall:TyC (fun r=>S1.row r= .none) S4 [.int .i64 5,ofL [], .snil, .slx (up 0 m3) 0 1 4 1] (.mk 5 [] [] [treeS nms d (kidS r 0)]):=
    .mk (es:=[[.int .i64 (treeS nms d (kidS r 0)).kind,ofL (treeS nms d (kidS r 0)).name,cnv,ckv]]) (SlAt.nil _ _ _) ⟨fun e he=>by rw[List.mem_singleton.1 he];rfl, .inr ⟨up 0 m3,0,q1, .inr ⟨1,Nat.le_refl 1,rfl⟩,_, .inl ⟨_,rq⟩,by simp,by simp⟩⟩ rfl fun i h h'=>by
     have:i=0:=by simp at h;omega
     subst this
     exact hce4
   clear hS4
   exact(hJ _ _).2 ⟨_,_,_,by rw[treeS];simp only[<-hkk];rfl,by simp only[XZ,simprocAttr,f6],by simp only[XZ,simprocAttr],g4,rt4,rb4,hall⟩
  ·have hd0':=hd0 (by decide) (by decide)
   simp only[XZ,simprocAttr,f1,f2,f3,f7,r1,c1,s1,c2,s2]
   refine Jb (kidC g1.wf (hr.gr g1) 0 (by decide)) ?_
   rintro _ S2 ⟨g2,ke,rfl,hke⟩
   simp only[XZ,simprocAttr,f1,f2,hsubd]
   refine Jb (ih hd0' g2.wf hke (hn.gr (g1.trans g2))) ?_
   rintro _ S3 ⟨g3,ce,rfl,hce⟩
   obtain⟨cnv,ckv,ces,rfl,y1,y3,y4,y5⟩:=hce.inv
   have d1:=y1.cells
   have d2:=y1.sc
   have d3:=y3.cells
   have d4:=y3.sc
   have rt3:=g3.cells (g2.cells rt)
   obtain⟨m3,hm3⟩:∃n,S3.nx=up 0 n:=⟨_,up0 _⟩
   have ot:=fun j=>nes (Js g3.wf hm3 (Je rt3) j)
   simp only[XZ,simprocAttr,f7,hm3,ot,rt3,d1,d2,d3,d4]
   obtain⟨S4,hS4⟩:∃S4,S4=((S3.new fun t=> .cells t [.int .i64 (treeS nms d (kidS r 0)).kind,ofL (treeS nms d (kidS r 0)).name,cnv,ckv]).wr bt S0.t.succ fun u=> .cells u [.int .i64 6,ofL [], .snil, .slx (up 0 m3) 0 1 4 1]):=⟨_,rfl⟩
   rw[<-hS4]
   have gN:Gr S3 (S3.new fun t=> .cells t [.int .i64 (treeS nms d (kidS r 0)).kind,ofL (treeS nms d (kidS r 0)).name,cnv,ckv]):=Gr.new g3.wf (Ja _)
   have g13:Gr st S3:=g1.trans (g2.trans g3)
   have g4:Gr st S4:=by rw[hS4];exact(g13.trans gN).wr nbt (Je (gN.cells rt3)) (by rw[gN.cells rt3];rfl) (Ja _)
   have qt:up 0 m3≠bt:=fun e=>by have:=nx0 g3.wf hm3 0;rw[e,rt3]at this;cases this
   have rq:S4.row (up 0 m3)= .cells S3.t [.int .i64 (treeS nms d (kidS r 0)).kind,ofL (treeS nms d (kidS r 0)).name,cnv,ckv]:=by rw[hS4,Jm _ _ _ qt,<-hm3];exact JD _ _
   have rb4:S4.row b2= .cells t2 [.int .i64 0,ofL [], .snil, .snil]:=by rw[hS4,Jm _ _ _ b2t];exact gN.cells (g3.cells (g2.cells r2))
   have rt4:∃t,S4.row bt= .cells t [.int .i64 6,ofL [], .snil, .slx (up 0 m3) 0 1 4 1]:=⟨_,by rw[hS4];exact Jl _ _ _ _⟩
   obtain⟨t4,rt4⟩:=rt4
   have q1:S1.row (up 0 m3)= .none:=Ch.fresh (Ch.of (fun _=>False) (g2.trans g3)) (nx0 g3.wf hm3 0)
   have hce4:TyC (fun r=>S1.row r= .none) S4 [.int .i64 (treeS nms d (kidS r 0)).kind,ofL (treeS nms d (kidS r 0)).name,cnv,ckv] (treeS nms d (kidS r 0)):=hce.imp fun r p e=>⟨Ch.fresh (Ch.of (fun _=>False) g2) p,by
    rw[hS4,Jm _ _ _ fun k=>by rw[k,g2.cells rt]at p;cases p]
    exact gN.same r e⟩
   have hall:TyC (fun r=>S1.row r= .none) S4 [.int .i64 6,ofL [], .snil, .slx (up 0 m3) 0 1 4 1] (.mk 6 [] [] [treeS nms d (kidS r 0)]):=
    .mk (es:=[[.int .i64 (treeS nms d (kidS r 0)).kind,ofL (treeS nms d (kidS r 0)).name,cnv,ckv]]) (SlAt.nil _ _ _) ⟨fun e he=>by rw[List.mem_singleton.1 he];rfl, .inr ⟨up 0 m3,0,q1, .inr ⟨1,Nat.le_refl 1,rfl⟩,_, .inl ⟨_,rq⟩,by simp,by simp⟩⟩ rfl fun i h h'=>by
     have:i=0:=by simp at h;omega
     subst this
     exact hce4
   clear hS4
   first|refine⟨by decide, ?_⟩|skip
   have htree:treeS nms (d+1) r=if(6:Int)=6/\(treeS nms d (kidS r 0)).kind=6 then treeS nms d (kidS r 0)else .mk 6 [] [] [treeS nms d (kidS r 0)]:=by rw[treeS];simp only[<-hkk];rfl
   by_cases h6:(treeS nms d (kidS r 0)).kind=6
   ·rw[if_pos ⟨rfl,h6⟩]at htree
    have hdec:decide ((treeS nms d (kidS r 0)).kind=6)=true:=decide_eq_true h6
    rw[hdec]
    simp only[XZ,simprocAttr,f6,rt4,rq,rb4,d1,d2,d3,d4]
    first|refine⟨by decide,g4.wr nb2 (Je rb4) (by first|(rw[rb4];done)|(rw[rb4];rfl)) (Ja _),_,rfl, ?_⟩|refine⟨g4.wr nb2 (Je rb4) (by first|(rw[rb4];done)|(rw[rb4];rfl)) (Ja _),_,rfl, ?_⟩
    rw[htree]
    exact hce4.imp fun r p _=>⟨st1 r p,Jm _ _ _ fun e=>by rw[e]at p;rw[p]at r2;cases r2⟩
   ·rw[if_neg fun e=>h6 e.2]at htree
    have hdec:decide ((treeS nms d (kidS r 0)).kind=6)=false:=decide_eq_false h6
    rw[hdec]
    simp only[XZ,simprocAttr]
    exact(hJ _ _).2 ⟨_,_,_,htree,by simp only[XZ,simprocAttr,f6],by simp only[XZ,simprocAttr],g4,rt4,rb4,hall⟩
  ·have hd0':=hd0 (by decide) (by decide)
   have lenR:=h1.len
   rw[Qg]at lenR
   obtain⟨cnt,hcnt⟩:∃c,c=countR 7 r:=⟨_,rfl⟩
   have hcv:cnt=max (min r.names.length 4) 0:=by rw[hcnt];rfl
   obtain⟨Ti,hTi⟩:∃Ti:Nat->Ty,Ti=fun i=>(List.range i).foldl (fun t i=>putS t (nameAt r i) (treeS nms d (kidS r i))) (.mk 7 [] [] []):=⟨_,rfl⟩
   have hT0:Ti 0= .mk 7 [] [] []:=by rw[hTi];rfl
   have hTs:∀i,Ti (i+1)=putS (Ti i) (nameAt r i) (treeS nms d (kidS r i)):=fun i=>by rw[hTi];simp only[List.range_succ,List.foldl_append];rfl
   have hTl:∀i,(Ti i).kids.length=(Ti i).names.length/\(Ti i).names.length<=i:=fun i=>by
    induction i with
    |zero=>rw[hT0];exact⟨rfl,Nat.le_refl _⟩
    |succ i ihi=>rw[hTs];exact Jh5 ihi.1 ihi.2
   have htree:treeS nms (d+1) r=Ti cnt:=by rw[treeS,hTi,hcnt];simp only[<-hkk];rfl
   obtain⟨L,hL⟩:∃L:Nat->Fr->St->Prop,∀j fr S,L j fr S<->∃(i:Nat) (te:List V) (t:Nat),j+i=cnt/\B fr/\fr 8= .ptr bt 0/\fr 9= .int .i64 i/\Gr st S/\(∀r,S.row r= .none->S1.row r= .none)/\S.row b= .cells st.t [.int .i64 r.kind, .int .i64 r.n,rnv,rkv]/\S.row b2= .cells t2 [.int .i64 0,ofL [], .snil, .snil]/\S.row bt= .cells t te/\TyC (fun r=>S1.row r= .none) S te (Ti i):=⟨_,fun _ _ _=>Iff.rfl⟩
   simp only[XZ,simprocAttr,f7]
   refine Jq L cnt (by omega) ((hL _ _ _).2 ⟨0,_,_,by omega,(hB _).2 (by simp only[XZ,simprocAttr,f1,f2,f3,f6,f7,and_self]),by simp only[XZ,simprocAttr],by simp only[XZ,simprocAttr]<;>rfl,g1,fun r h=>h,r1,r2,rt,by rw[hT0];exact flat _ _ _ _⟩) ?_
   clear f1 f2 f3 f6 f7 hBf
   intro j fr S hLj
   obtain⟨i,te,t,hj,hBf,f8,f9,hg,hfresh,q1,q2,q3,hte⟩:=(hL _ _ _).1 hLj
   obtain⟨f1,f2,f3,f6,f7⟩:=(hB _).1 hBf
   have hadd1:IntKind.i64.wrap ((i:Int)+1)=((i+1:Nat):Int):=by rw[Jp (by omega) (by omega)];rfl
   have done:∀{fr:Fr},i=cnt->fr 6= .ptr b2 0->fr 8= .ptr bt 0->J fr S:=fun e a c=>(hJ _ _).2 ⟨Ti cnt,te,t,htree,a,c,hg,q3,q2,by rw[<-e];exact hte⟩
   have hte0:=hte
   obtain⟨tnv,tkv,tes,rfl,y1,y3,y4,y5⟩:=hte.inv
   have d1:=y1.cells
   have d2:=y1.sc
   have d3:=y3.cells
   have d4:=y3.sc
   by_cases hA:i<r.names.length
   ·have hA':(i:Int)<r.names.length:=by omega
    by_cases h4i:i<4
    ·have h4':(i:Int)<4:=by omega
     obtain⟨zq,zo,z1,z2,z3,z4,z5⟩:=(h1.gr hg).elem (i:=i) (by rw[Qg];exact hA)
     have zl:(cellsI r.names)[i]'(by rw[Qg];exact hA)=[.int .i64 r.names[i]]:=by simp[cellsI]
     have z6:ld1 (S.row zq) zo=some (.int .i64 r.names[i], .no):=by
      have:=z5 0 (by rw[zl];simp)
      simp only[zl]at this
      exact this
     simp only[XZ,simprocAttr,f1,f2,f3,f6,f7,f8,f9,q1,lenR,hA',h4',z1,z6]
     refine Jb (nameC _ _ hg.wf) ?_
     rintro _ S2 ⟨g2,rfl⟩
     have hnm:nameS r.names[i]=nameAt r i:=by unfold nameAt;rw[List.getElem?_eq_getElem hA]
     rw[hnm]
     have q1':=q1
     have q2':=q2
     have q3':=q3
     have q1:=g2.cells q1
     have q2:=g2.cells q2
     have q3:=g2.cells q3
     simp only[XZ,simprocAttr,f1,f2,f3,f6,f7,f8,f9,q1,q3,c1,s1,c2,s2,d1,d2,d3,d4]
     refine Jn (kidC (JB g2.wf S2.t) (((hr.gr hg).gr g2).imp fun r p _=>⟨p,rfl⟩) i (by omega)) ?_
     rintro _ S3 g3 ⟨ke,rfl,hke⟩
     simp only[XZ,simprocAttr,f1,f2,f3,f6,f7,f8,f9,hsubd]
     refine Jn (ih hd0' (JB g3.wf S3.t) (hke.imp fun r p _=>⟨p,rfl⟩) ((((hn.gr hg).gr g2).gr g3).imp fun r p _=>⟨p,rfl⟩)) ?_
     rintro _ S4 g4 ⟨ce,rfl,hce⟩
     simp only[XZ,simprocAttr,f1,f2,f3,f6,f7,f8,f9]
     have gA:Gr S S4:=g2.trans (g3.trans g4)
     have fr4:∀r,S4.row r= .none->S1.row r= .none:=fun r h=>hfresh r (Ch.fresh (Ch.of (fun _=>False) gA) h)
     have fr3:∀r,S3.row r= .none->S1.row r= .none:=fun r h=>hfresh r (Ch.fresh (Ch.of (fun _=>False) (g2.trans g3)) h)
     refine Jn (putC (P:=fun r=>S1.row r= .none) (t:=Ti i) (x:=treeS nms d (kidS r i)) (nameAt r i) (JB g4.wf S4.t) ((hte0.gr gA).imp fun r p _=>⟨p,rfl⟩) (hce.imp fun r p _=>⟨fr3 r p,rfl⟩) (by have:=(hTl i).2;omega) (hTl i).1 fr4) ?_
     rintro _ S5 g5 ⟨e5,rfl,he5⟩
     have he5':TyC (fun r=>S1.row r= .none) S5 e5 (Ti (i+1)):=by rw[hTs];exact he5.imp fun r p _=>⟨p,rfl⟩
     have he6:=he5'
     obtain⟨xnv,xkv,xes,rfl,x1,x3,x4,x5⟩:=he5'.inv
     have m1:=x1.cells
     have m2:=x1.sc
     have m3:=x3.cells
     have m4:=x3.sc
     have gB:Gr S S5:=gA.trans g5
     have q1:=gB.cells q1'
     have q2:=gB.cells q2'
     have q3:=gB.cells q3'
     simp only[XZ,simprocAttr,f1,f2,f3,f6,f7,f8,f9,q3,m1,m2,m3,m4,hadd1,Jk]
     have bne:b≠bt:=bbt
     have g6:=(hg.trans gB).wr (f:=fun u=> .cells u [.int .i64 (Ti (i+1)).kind,ofL (Ti (i+1)).name,xnv,xkv]) nbt (Je q3) (by first|(rw[q3];done)|(rw[q3];rfl)) (Ja _)
     refine⟨cnt-(i+1),by omega,(hL _ _ _).2 ⟨i+1,_,_,by omega,(hB _).2 (by simp only[XZ,simprocAttr,f1,f2,f3,f6,f7,and_self]),by simp only[XZ,simprocAttr,f8],by simp only[XZ,simprocAttr],g6,fun r h=> ?_,by rw[Jm _ _ _ bne];exact q1,by rw[Jm _ _ _ b2t];exact q2,Jl _ _ _ _,he6.imp fun r p _=>⟨p,Jm _ _ _ fun e=>by rw[e]at p;rw[p]at rt;cases rt⟩⟩⟩
     refine hfresh r (Ch.fresh (Ch.of (fun _=>False) gB) ?_)
     by_cases e:r=bt
     ·rw[e,Jl]at h;cases h
     ·rwa [Jm _ _ _ e]at h
    ·have h4':¬(i:Int)<4:=by omega
     have hi0:¬(i:Int)=0:=by omega
     simp only[XZ,simprocAttr,f1,f2,f3,f6,f7,f8,f9,q1,lenR,hA',h4',hi0]
     exact done (by omega) (by simp only[XZ,simprocAttr,f6]) (by simp only[XZ,simprocAttr,f8])
   ·have hA':¬(i:Int)<r.names.length:=by omega
    by_cases hi0:i=0
    ·have hi0':((i:Int)=0)=True:=eq_true (by omega)
     by_cases hone:0=1
     ·first
      |exact absurd hone (by decide)
      | simp only[XZ,simprocAttr,f1,f2,f3,f6,f7,f8,f9,q1,q3,lenR,hA',hi0',c1,s1,c2,s2,d1,d2,d3,d4]
        have g2:Gr S S:=Gr.refl hg.wf
        have hnm:([117]:Str)=nameAt r i:=by unfold nameAt;rw[List.getElem?_eq_none (by omega)]
        rw[hnm]
        have q1':=q1
        have q2':=q2
        have q3':=q3
        refine Jn (kidC (JB g2.wf S.t) (((hr.gr hg).gr g2).imp fun r p _=>⟨p,rfl⟩) i (by omega)) ?_
        rintro _ S3 g3 ⟨ke,rfl,hke⟩
        simp only[XZ,simprocAttr,f1,f2,f3,f6,f7,f8,f9,hsubd]
        refine Jn (ih hd0' (JB g3.wf S3.t) (hke.imp fun r p _=>⟨p,rfl⟩) ((((hn.gr hg).gr g2).gr g3).imp fun r p _=>⟨p,rfl⟩)) ?_
        rintro _ S4 g4 ⟨ce,rfl,hce⟩
        simp only[XZ,simprocAttr,f1,f2,f3,f6,f7,f8,f9]
        have gA:Gr S S4:=g2.trans (g3.trans g4)
        have fr4:∀r,S4.row r= .none->S1.row r= .none:=fun r h=>hfresh r (Ch.fresh (Ch.of (fun _=>False) gA) h)
        have fr3:∀r,S3.row r= .none->S1.row r= .none:=fun r h=>hfresh r (Ch.fresh (Ch.of (fun _=>False) (g2.trans g3)) h)
        refine Jn (putC (P:=fun r=>S1.row r= .none) (t:=Ti i) (x:=treeS nms d (kidS r i)) (nameAt r i) (JB g4.wf S4.t) ((hte0.gr gA).imp fun r p _=>⟨p,rfl⟩) (hce.imp fun r p _=>⟨fr3 r p,rfl⟩) (by have:=(hTl i).2;omega) (hTl i).1 fr4) ?_
        rintro _ S5 g5 ⟨e5,rfl,he5⟩
        have he5':TyC (fun r=>S1.row r= .none) S5 e5 (Ti (i+1)):=by rw[hTs];exact he5.imp fun r p _=>⟨p,rfl⟩
        have he6:=he5'
        obtain⟨xnv,xkv,xes,rfl,x1,x3,x4,x5⟩:=he5'.inv
        have m1:=x1.cells
        have m2:=x1.sc
        have m3:=x3.cells
        have m4:=x3.sc
        have gB:Gr S S5:=gA.trans g5
        have q1:=gB.cells q1'
        have q2:=gB.cells q2'
        have q3:=gB.cells q3'
        simp only[XZ,simprocAttr,f1,f2,f3,f6,f7,f8,f9,q3,m1,m2,m3,m4,hadd1,Jk]
        have bne:b≠bt:=bbt
        have g6:=(hg.trans gB).wr (f:=fun u=> .cells u [.int .i64 (Ti (i+1)).kind,ofL (Ti (i+1)).name,xnv,xkv]) nbt (Je q3) (by first|(rw[q3];done)|(rw[q3];rfl)) (Ja _)
        refine⟨cnt-(i+1),by omega,(hL _ _ _).2 ⟨i+1,_,_,by omega,(hB _).2 (by simp only[XZ,simprocAttr,f1,f2,f3,f6,f7,and_self]),by simp only[XZ,simprocAttr,f8],by simp only[XZ,simprocAttr],g6,fun r h=> ?_,by rw[Jm _ _ _ bne];exact q1,by rw[Jm _ _ _ b2t];exact q2,Jl _ _ _ _,he6.imp fun r p _=>⟨p,Jm _ _ _ fun e=>by rw[e]at p;rw[p]at rt;cases rt⟩⟩⟩
        refine hfresh r (Ch.fresh (Ch.of (fun _=>False) gB) ?_)
        by_cases e:r=bt
        ·rw[e,Jl]at h;cases h
        ·rwa [Jm _ _ _ e]at h
     ·first
      |exact absurd rfl hone
      | simp only[XZ,simprocAttr,f1,f2,f3,f6,f7,f8,f9,q1,lenR,hA',hi0']
        exact done (by omega) (by simp only[XZ,simprocAttr,f6]) (by simp only[XZ,simprocAttr,f8])
    ·have hi0':¬(i:Int)=0:=by omega
     simp only[XZ,simprocAttr,f1,f2,f3,f6,f7,f8,f9,q1,lenR,hA',hi0']
     exact done (by omega) (by simp only[XZ,simprocAttr,f6]) (by simp only[XZ,simprocAttr,f8])
  ·have hd0':=hd0 (by decide) (by decide)
   have lenR:=h1.len
   rw[Qg]at lenR
   obtain⟨cnt,hcnt⟩:∃c,c=countR 8 r:=⟨_,rfl⟩
   have hcv:cnt=max (min r.names.length 4) 1:=by rw[hcnt];rfl
   obtain⟨Ti,hTi⟩:∃Ti:Nat->Ty,Ti=fun i=>(List.range i).foldl (fun t i=>putS t (nameAt r i) (treeS nms d (kidS r i))) (.mk 8 [] [] []):=⟨_,rfl⟩
   have hT0:Ti 0= .mk 8 [] [] []:=by rw[hTi];rfl
   have hTs:∀i,Ti (i+1)=putS (Ti i) (nameAt r i) (treeS nms d (kidS r i)):=fun i=>by rw[hTi];simp only[List.range_succ,List.foldl_append];rfl
   have hTl:∀i,(Ti i).kids.length=(Ti i).names.length/\(Ti i).names.length<=i:=fun i=>by
    induction i with
    |zero=>rw[hT0];exact⟨rfl,Nat.le_refl _⟩
    |succ i ihi=>rw[hTs];exact Jh5 ihi.1 ihi.2
   have htree:treeS nms (d+1) r=Ti cnt:=by rw[treeS,hTi,hcnt];simp only[<-hkk];rfl
   obtain⟨L,hL⟩:∃L:Nat->Fr->St->Prop,∀j fr S,L j fr S<->∃(i:Nat) (te:List V) (t:Nat),j+i=cnt/\B fr/\fr 8= .ptr bt 0/\fr 9= .int .i64 i/\Gr st S/\(∀r,S.row r= .none->S1.row r= .none)/\S.row b= .cells st.t [.int .i64 r.kind, .int .i64 r.n,rnv,rkv]/\S.row b2= .cells t2 [.int .i64 0,ofL [], .snil, .snil]/\S.row bt= .cells t te/\TyC (fun r=>S1.row r= .none) S te (Ti i):=⟨_,fun _ _ _=>Iff.rfl⟩
   simp only[XZ,simprocAttr,f7]
   refine Jq L cnt (by omega) ((hL _ _ _).2 ⟨0,_,_,by omega,(hB _).2 (by simp only[XZ,simprocAttr,f1,f2,f3,f6,f7,and_self]),by simp only[XZ,simprocAttr],by simp only[XZ,simprocAttr]<;>rfl,g1,fun r h=>h,r1,r2,rt,by rw[hT0];exact flat _ _ _ _⟩) ?_
   clear f1 f2 f3 f6 f7 hBf
   intro j fr S hLj
   obtain⟨i,te,t,hj,hBf,f8,f9,hg,hfresh,q1,q2,q3,hte⟩:=(hL _ _ _).1 hLj
   obtain⟨f1,f2,f3,f6,f7⟩:=(hB _).1 hBf
   have hadd1:IntKind.i64.wrap ((i:Int)+1)=((i+1:Nat):Int):=by rw[Jp (by omega) (by omega)];rfl
   have done:∀{fr:Fr},i=cnt->fr 6= .ptr b2 0->fr 8= .ptr bt 0->J fr S:=fun e a c=>(hJ _ _).2 ⟨Ti cnt,te,t,htree,a,c,hg,q3,q2,by rw[<-e];exact hte⟩
   have hte0:=hte
   obtain⟨tnv,tkv,tes,rfl,y1,y3,y4,y5⟩:=hte.inv
   have d1:=y1.cells
   have d2:=y1.sc
   have d3:=y3.cells
   have d4:=y3.sc
   by_cases hA:i<r.names.length
   ·have hA':(i:Int)<r.names.length:=by omega
    by_cases h4i:i<4
    ·have h4':(i:Int)<4:=by omega
     obtain⟨zq,zo,z1,z2,z3,z4,z5⟩:=(h1.gr hg).elem (i:=i) (by rw[Qg];exact hA)
     have zl:(cellsI r.names)[i]'(by rw[Qg];exact hA)=[.int .i64 r.names[i]]:=by simp[cellsI]
     have z6:ld1 (S.row zq) zo=some (.int .i64 r.names[i], .no):=by
      have:=z5 0 (by rw[zl];simp)
      simp only[zl]at this
      exact this
     simp only[XZ,simprocAttr,f1,f2,f3,f6,f7,f8,f9,q1,lenR,hA',h4',z1,z6]
     refine Jb (nameC _ _ hg.wf) ?_
     rintro _ S2 ⟨g2,rfl⟩
     have hnm:nameS r.names[i]=nameAt r i:=by unfold nameAt;rw[List.getElem?_eq_getElem hA]
     rw[hnm]
     have q1':=q1
     have q2':=q2
     have q3':=q3
     have q1:=g2.cells q1
     have q2:=g2.cells q2
     have q3:=g2.cells q3
     simp only[XZ,simprocAttr,f1,f2,f3,f6,f7,f8,f9,q1,q3,c1,s1,c2,s2,d1,d2,d3,d4]
     refine Jn (kidC (JB g2.wf S2.t) (((hr.gr hg).gr g2).imp fun r p _=>⟨p,rfl⟩) i (by omega)) ?_
     rintro _ S3 g3 ⟨ke,rfl,hke⟩
     simp only[XZ,simprocAttr,f1,f2,f3,f6,f7,f8,f9,hsubd]
     refine Jn (ih hd0' (JB g3.wf S3.t) (hke.imp fun r p _=>⟨p,rfl⟩) ((((hn.gr hg).gr g2).gr g3).imp fun r p _=>⟨p,rfl⟩)) ?_
     rintro _ S4 g4 ⟨ce,rfl,hce⟩
     simp only[XZ,simprocAttr,f1,f2,f3,f6,f7,f8,f9]
     have gA:Gr S S4:=g2.trans (g3.trans g4)
     have fr4:∀r,S4.row r= .none->S1.row r= .none:=fun r h=>hfresh r (Ch.fresh (Ch.of (fun _=>False) gA) h)
     have fr3:∀r,S3.row r= .none->S1.row r= .none:=fun r h=>hfresh r (Ch.fresh (Ch.of (fun _=>False) (g2.trans g3)) h)
     refine Jn (putC (P:=fun r=>S1.row r= .none) (t:=Ti i) (x:=treeS nms d (kidS r i)) (nameAt r i) (JB g4.wf S4.t) ((hte0.gr gA).imp fun r p _=>⟨p,rfl⟩) (hce.imp fun r p _=>⟨fr3 r p,rfl⟩) (by have:=(hTl i).2;omega) (hTl i).1 fr4) ?_
     rintro _ S5 g5 ⟨e5,rfl,he5⟩
     have he5':TyC (fun r=>S1.row r= .none) S5 e5 (Ti (i+1)):=by rw[hTs];exact he5.imp fun r p _=>⟨p,rfl⟩
     have he6:=he5'
     obtain⟨xnv,xkv,xes,rfl,x1,x3,x4,x5⟩:=he5'.inv
     have m1:=x1.cells
     have m2:=x1.sc
     have m3:=x3.cells
     have m4:=x3.sc
     have gB:Gr S S5:=gA.trans g5
     have q1:=gB.cells q1'
     have q2:=gB.cells q2'
     have q3:=gB.cells q3'
     simp only[XZ,simprocAttr,f1,f2,f3,f6,f7,f8,f9,q3,m1,m2,m3,m4,hadd1,Jk]
     have bne:b≠bt:=bbt
     have g6:=(hg.trans gB).wr (f:=fun u=> .cells u [.int .i64 (Ti (i+1)).kind,ofL (Ti (i+1)).name,xnv,xkv]) nbt (Je q3) (by first|(rw[q3];done)|(rw[q3];rfl)) (Ja _)
     refine⟨cnt-(i+1),by omega,(hL _ _ _).2 ⟨i+1,_,_,by omega,(hB _).2 (by simp only[XZ,simprocAttr,f1,f2,f3,f6,f7,and_self]),by simp only[XZ,simprocAttr,f8],by simp only[XZ,simprocAttr],g6,fun r h=> ?_,by rw[Jm _ _ _ bne];exact q1,by rw[Jm _ _ _ b2t];exact q2,Jl _ _ _ _,he6.imp fun r p _=>⟨p,Jm _ _ _ fun e=>by rw[e]at p;rw[p]at rt;cases rt⟩⟩⟩
     refine hfresh r (Ch.fresh (Ch.of (fun _=>False) gB) ?_)
     by_cases e:r=bt
     ·rw[e,Jl]at h;cases h
     ·rwa [Jm _ _ _ e]at h
    ·have h4':¬(i:Int)<4:=by omega
     have hi0:¬(i:Int)=0:=by omega
     simp only[XZ,simprocAttr,f1,f2,f3,f6,f7,f8,f9,q1,lenR,hA',h4',hi0]
     exact done (by omega) (by simp only[XZ,simprocAttr,f6]) (by simp only[XZ,simprocAttr,f8])
   ·have hA':¬(i:Int)<r.names.length:=by omega
    by_cases hi0:i=0
    ·have hi0':((i:Int)=0)=True:=eq_true (by omega)
     by_cases hone:1=1
     ·first
      |exact absurd hone (by decide)
      | simp only[XZ,simprocAttr,f1,f2,f3,f6,f7,f8,f9,q1,q3,lenR,hA',hi0',c1,s1,c2,s2,d1,d2,d3,d4]
        have g2:Gr S S:=Gr.refl hg.wf
        have hnm:([117]:Str)=nameAt r i:=by unfold nameAt;rw[List.getElem?_eq_none (by omega)]
        rw[hnm]
        have q1':=q1
        have q2':=q2
        have q3':=q3
        refine Jn (kidC (JB g2.wf S.t) (((hr.gr hg).gr g2).imp fun r p _=>⟨p,rfl⟩) i (by omega)) ?_
        rintro _ S3 g3 ⟨ke,rfl,hke⟩
        simp only[XZ,simprocAttr,f1,f2,f3,f6,f7,f8,f9,hsubd]
        refine Jn (ih hd0' (JB g3.wf S3.t) (hke.imp fun r p _=>⟨p,rfl⟩) ((((hn.gr hg).gr g2).gr g3).imp fun r p _=>⟨p,rfl⟩)) ?_
        rintro _ S4 g4 ⟨ce,rfl,hce⟩
        simp only[XZ,simprocAttr,f1,f2,f3,f6,f7,f8,f9]
        have gA:Gr S S4:=g2.trans (g3.trans g4)
        have fr4:∀r,S4.row r= .none->S1.row r= .none:=fun r h=>hfresh r (Ch.fresh (Ch.of (fun _=>False) gA) h)
        have fr3:∀r,S3.row r= .none->S1.row r= .none:=fun r h=>hfresh r (Ch.fresh (Ch.of (fun _=>False) (g2.trans g3)) h)
        refine Jn (putC (P:=fun r=>S1.row r= .none) (t:=Ti i) (x:=treeS nms d (kidS r i)) (nameAt r i) (JB g4.wf S4.t) ((hte0.gr gA).imp fun r p _=>⟨p,rfl⟩) (hce.imp fun r p _=>⟨fr3 r p,rfl⟩) (by have:=(hTl i).2;omega) (hTl i).1 fr4) ?_
        rintro _ S5 g5 ⟨e5,rfl,he5⟩
        have he5':TyC (fun r=>S1.row r= .none) S5 e5 (Ti (i+1)):=by rw[hTs];exact he5.imp fun r p _=>⟨p,rfl⟩
        have he6:=he5'
        obtain⟨xnv,xkv,xes,rfl,x1,x3,x4,x5⟩:=he5'.inv
        have m1:=x1.cells
        have m2:=x1.sc
        have m3:=x3.cells
        have m4:=x3.sc
        have gB:Gr S S5:=gA.trans g5
        have q1:=gB.cells q1'
        have q2:=gB.cells q2'
        have q3:=gB.cells q3'
        simp only[XZ,simprocAttr,f1,f2,f3,f6,f7,f8,f9,q3,m1,m2,m3,m4,hadd1,Jk]
        have bne:b≠bt:=bbt
        have g6:=(hg.trans gB).wr (f:=fun u=> .cells u [.int .i64 (Ti (i+1)).kind,ofL (Ti (i+1)).name,xnv,xkv]) nbt (Je q3) (by first|(rw[q3];done)|(rw[q3];rfl)) (Ja _)
        refine⟨cnt-(i+1),by omega,(hL _ _ _).2 ⟨i+1,_,_,by omega,(hB _).2 (by simp only[XZ,simprocAttr,f1,f2,f3,f6,f7,and_self]),by simp only[XZ,simprocAttr,f8],by simp only[XZ,simprocAttr],g6,fun r h=> ?_,by rw[Jm _ _ _ bne];exact q1,by rw[Jm _ _ _ b2t];exact q2,Jl _ _ _ _,he6.imp fun r p _=>⟨p,Jm _ _ _ fun e=>by rw[e]at p;rw[p]at rt;cases rt⟩⟩⟩
        refine hfresh r (Ch.fresh (Ch.of (fun _=>False) gB) ?_)
        by_cases e:r=bt
        ·rw[e,Jl]at h;cases h
        ·rwa [Jm _ _ _ e]at h
     ·first
      |exact absurd rfl hone
      | simp only[XZ,simprocAttr,f1,f2,f3,f6,f7,f8,f9,q1,lenR,hA',hi0']
        exact done (by omega) (by simp only[XZ,simprocAttr,f6]) (by simp only[XZ,simprocAttr,f8])
    ·have hi0':¬(i:Int)=0:=by omega
     simp only[XZ,simprocAttr,f1,f2,f3,f6,f7,f8,f9,q1,lenR,hA',hi0']
     exact done (by omega) (by simp only[XZ,simprocAttr,f6]) (by simp only[XZ,simprocAttr,f8])
  ·have hne:nms≠[]:=fun e=>by
    rw[hkd]at hkk
    by_cases c:(K=9/\nms=[])\/(d+1<=1/\4<=K/\K<=8)
    ·rw[if_pos c]at hkd;cases hkd
    ·rw[if_neg c]at hkd;exact c (.inl ⟨hkd.symm,e⟩)
   have hpos:=List.length_pos_iff.2 hne
   simp only[XZ,simprocAttr,f1,f2,f3,f7,r1,lenN]
   refine Jb (Jef r.n nms.length _ (by omega) (by omega)) ?_
   rintro _ _ ⟨rfl,rfl⟩
   have q1:=Int.emod_nonneg r.n (show((nms.length:Nat):Int)≠0 by omega)
   have q2:=Int.emod_lt_of_pos r.n (show(0:Int)<((nms.length:Nat):Int) by omega)
   obtain⟨i,hi⟩:∃i:Nat,r.n%nms.length=i:=⟨(r.n%nms.length).toNat,by omega⟩
   rw[hi]at q1 q2
   have hil:i<nms.length:=by omega
   obtain⟨q,o,a1,a2,a3,a4,a5⟩:=(hn.gr g1).elem (i:=i) (by rw[JL];exact hil)
   have el:(strs nms)[i]'(by rw[JL];exact hil)=[ofL nms[i]]:=by simp[strs]
   have a6:ld1 (S1.row q) o=some (ofL nms[i], .no):=by
    have:=a5 0 (by rw[el];simp)
    simp only[el]at this
    exact this
   rw[hi]
   simp only[XZ,simprocAttr,f2,a1,a6,rt]
   refine(hJ _ _).2 ⟨_,_,_, ?_,by simp only[XZ,simprocAttr,f6],by simp only[XZ,simprocAttr],g1.wr nbt (Je rt) (by rw[rt];rfl) (Ja _),Jl _ _ _ _,by rw[Jm _ _ _ b2t];exact r2,flat _ _ _ _⟩
   rw[treeS]
   simp only[<-hkk,if_true]
   rw[hi]
   simp[List.getD_eq_getElem?_getD,hil]
 intro fr S hJf
 obtain⟨T,te,t,hT,f6,f8,gS,rS,rS2,hTy⟩:=(hJ _ _).1 hJf
 have hTy2:=hTy
 obtain⟨nv',kv',es',rfl,t1,t3,t4,t5⟩:=hTy.inv
 have c3:=t1.cells
 have s3:=t1.sc
 have c4:=t3.cells
 have s4:=t3.sc
 rw[Jc];simp only[XZ,simprocAttr,f6,f8,rS,rS2,c3,s3,c4,s4]
 have gw:=gS.wr (f:=fun u=> .cells u [.int .i64 T.kind,ofL T.name,nv',kv']) nb2 (Je rS2) (by first|(rw[rS2];done)|(rw[rS2];rfl)) (Ja _)
 refine⟨gw,_,rfl, ?_⟩
 rw[hT]
 exact hTy2.imp fun r p _=>⟨st1 r p,Jm _ _ _ fun e=>by rw[e]at p;rw[p]at r2;cases r2⟩
theorem treeC (nms:List Str)(hnm:nms.length<1000):∀d:Nat,d<1000->TreeAt nms (d+1)
 |0,h=>Jh6 nms hnm 0 h fun e=>absurd rfl e
 |d+1,h=>Jh6 nms hnm (d+1) h fun _=>treeC nms hnm d (by omega)
end Go.Proofs.Ytcahllomeaimeaa
