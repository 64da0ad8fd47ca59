/- A type added to a table. Nodes of a table, opened. A type opened. Two texts, parsed; th -/
import Derived.Test.YtgmmjcgkklgeeaaGreatQ2
set_option maxHeartbeats 4000000
set_option linter.unusedVariables false
set_option linter.unusedSimpArgs false
set_option linter.unusedSectionVars false
set_option maxRecDepth 100000
namespace Go.Proofs.YtgmmjcgkklgeeaaGreat
open Eva Go.RowKit
def JpP (W F:Pt->Prop)(st st':St)(rt lp:Pt)(tb':Tb)(left':Int):Prop:=
 Ch (fun r=>W r\/r=lp) st st'/\(∃W' F':Pt->Prop,(∀r,W r->W' r)/\(∀r,W' r->W r\/st.row r= .none)/\(∀r,F' r->F r\/st.row r= .none)/\Tab W' F' st' rt tb')/\∃t,st'.row lp= .cells t [.int .i64 left']
theorem JpQ (x:Tb×List Nat×Int×Int):pre [] x=x:=by simp[pre]
structure AddI (W F:Pt->Prop) (st:St) (rt lp:Pt) (n:Pt) (k:Int) (nm:Str) (nv kv:V) (ks:List Ty) (left:Int) (tb:Tb) (j:Nat) (fr:Fr) (S:St) (i:Nat) (Wi Fi:Pt->Prop) (tbi:Tb) (lefti:Int) (ids:List Nat) (kvi:V) (tli tp:Nat):Prop where
 hj:j+i=ks.length
 f0:fr 0= .ptr rt 0
 f2:fr 2= .ptr lp 0
 f8:fr 8= .ptr (up 1 n) 0
 f42:fr 42=kv
 f43:fr 43= .int .i64 ks.length
 f44:fr 44= .int .i64 i
 ch:Ch (fun r=>W r\/r=lp) st S
 w1:∀r,W r->Wi r
 w2:∀r,Wi r->W r\/st.row r= .none
 w3:∀r,Fi r->F r\/st.row r= .none
 nw1:¬Wi (up 1 n)
 nw2:¬Wi lp
 nf1:¬Fi (up 1 n)
 nf2:¬Fi lp
 tab:Tab Wi Fi S rt tbi
 rlp:S.row lp= .cells tli [.int .i64 lefti]
 rn:S.row (up 1 n)= .cells tp [.int .i64 k,ofL nm,nv,kvi]
 ls:LsAt (fun r=>¬Wi r/\¬Fi r/\st.row r= .none/\r≠up 1 n) S lp kvi 1 ids.length (ids.map fun a:Nat=>V.int .i64 (a:Int))
 hids:ids.length=i
 l0:0<=lefti
 l1:lefti<=left
 rec_:Jw ks (left-1) tb=pre ids (Jw (ks.drop i) lefti tbi)
theorem add :∀(m:Nat) (ty:Ty),tsz ty<m->∀(W F P:Pt->Prop) (st:St) (rt lp:Pt) (tb:Tb) (e:List V) (left:Int) (tl:Nat),WF st->Tab W F st rt tb->TyC P st e ty->(∀r,P r->¬W r/\r≠lp)->st.row lp= .cells tl [.int .i64 left]->¬W lp->¬F lp->0<=left->left<1000000->
  Does (tabT tabD) 82 [.ptr rt 0, .agg e, .ptr lp 0] st fun v st'=>JpP W F st st' rt lp (addT ty left tb).1 (addT ty left tb).2.2.2/\v= .tup [.int .i64 ((addT ty left tb).2.1:Nat), .int .i64 (addT ty left tb).2.2.1]
 |0,_,h=>absurd h (by omega)
 | m+1, .mk k nm ns ks,hm=>by
   intro W F P st rt lp tb e left tl hw hT hx hP hlp hWl hFl h0 h1;have hadd:=K0 k nm ns ks left tb;refine(Does.mon tabM hw (Jy (Q:=fun v st'=>(∀r,st.row r≠ .none->¬(W r\/r=lp)->st'.row r=st.row r)/\(∃W' F':Pt->Prop,(∀r,W r->W' r)/\(∀r,W' r->W r\/st.row r= .none)/\(∀r,F' r->F r\/st.row r= .none)/\Tab W' F' st' rt (addT (.mk k nm ns ks) left tb).1)/\(∃t,st'.row lp= .cells t [.int .i64 (addT (.mk k nm ns ks) left tb).2.2.2])/\v= .tup [.int .i64 ((addT (.mk k nm ns ks) left tb).2.1:Nat), .int .i64 (addT (.mk k nm ns ks) left tb).2.2.1]) (aT Tryz.func82 rfl) rfl ?_)).mono fun v st' ⟨mn,a,b,c,d⟩=>⟨⟨⟨mn.mono,a⟩,b,c⟩,d⟩
   obtain⟨n,hn0⟩:=nxE st;have hold:=fun r (h:st.row r≠ .none)=>YJ hw hn0 h;obtain⟨nv,kv,es,rfl,x1,x2,x3,x4⟩:=hx.inv';have l1:=x1.len;have l2:=x2.len;rw[JW]at l1;rw[x3]at l2;have olp:=fun k=>nes (Jz hw hn0 (Jc hlp) k);have ort:=fun k=>nes (Jz hw hn0 (by obtain⟨_,_,_,_,_,_,h⟩:=hT;exact h.rt_ne) k);have rtlp:=nes (show rt≠lp from fun e=>hWl (by obtain⟨_,_,_,_,_,_,h⟩:=hT;rw[<-e];exact h.w.1));have hleft:IntKind.i64.wrap (left-1)=left-1:=Jo (by omega) (by omega);have e0:Gr st (st.new fun t=> .cells t [.int .i64 k,ofL nm,nv,kv]):=Gr.new hw (Ja _);by_cases c1:left-1<0\/8<ks.length\/8<ns.length
   ·rw[hadd,if_pos c1];have fin:∀S:St,(∀r,st.row r≠ .none->¬(r=lp)->S.row r=st.row r)->(S.row lp= .cells (st.t+1) [.int .i64 (left-1)])->(∀r,st.row r≠ .none->¬(W r\/r=lp)->S.row r=st.row r)/\(∃W' F':Pt->Prop,(∀r,W r->W' r)/\(∀r,W' r->W r\/st.row r= .none)/\(∀r,F' r->F r\/st.row r= .none)/\Tab W' F' S rt tb)/\(∃t,S.row lp= .cells t [.int .i64 (left-1)]):=fun S h1 h2=>
     ⟨fun r e n=>h1 r e fun k=>n (.inr k),⟨W,F,fun _ w=>w,fun _ w=> .inl w,fun _ w=> .inl w,hT.keep fun r w e=>h1 r e fun k=>by rw[k]at w;rcases w with w|w;exact hWl w;exact hFl w⟩,_,h2⟩
    have fin2:∀r,st.row r≠ .none->¬(r=lp)->((st.new fun t=> .cells t [.int .i64 k,ofL nm,nv,kv]).wr lp tl fun u=> .cells u [.int .i64 (left-1)]).row r=st.row r:=fun r e n=>by simp only[Jk,Kg,hn0,hold r e,n,if_false]
    have F:=fin _ fin2 (by rw[Jm];rfl);by_cases d1:left-1<0
    ·simp only[CT,Tryz.f82,XZ,Nat.reduceEqDiff,↓reduceIte,reduceCtorEq,Int.reduceToNat,Nat.reduceAdd,Nat.reduceMul,Int.reduceAdd,Int.reduceSub,Int.reduceLE,Int.reduceLT,Int.reduceNeg,Int.reduceMul,Int.reduceEq,Int.reduceNe,Nat.reduceLeDiff,Nat.reduceSub,hn0,x1.cells,x2.cells,x1.sc,x2.sc,l1,l2,olp,hlp,hleft,d1];exact⟨fun r e n=>by have:=F.1 r e n;simpa only[Jk,Kg,hn0]using this,F.2.1,⟨_,rfl⟩,rfl⟩
    by_cases d2:(8:Int)<ks.length
    ·simp only[CT,Tryz.f82,XZ,Nat.reduceEqDiff,↓reduceIte,reduceCtorEq,Int.reduceToNat,Nat.reduceAdd,Nat.reduceMul,Int.reduceAdd,Int.reduceSub,Int.reduceLE,Int.reduceLT,Int.reduceNeg,Int.reduceMul,Int.reduceEq,Int.reduceNe,Nat.reduceLeDiff,Nat.reduceSub,hn0,x1.cells,x2.cells,x1.sc,x2.sc,l1,l2,olp,hlp,hleft,d1,d2];exact⟨fun r e n=>by have:=F.1 r e n;simpa only[Jk,Kg,hn0]using this,F.2.1,⟨_,rfl⟩,rfl⟩
    have d3:(8:Int)<ns.length:=by rcases c1 with c|c|c<;>omega
    simp only[CT,Tryz.f82,XZ,Nat.reduceEqDiff,↓reduceIte,reduceCtorEq,Int.reduceToNat,Nat.reduceAdd,Nat.reduceMul,Int.reduceAdd,Int.reduceSub,Int.reduceLE,Int.reduceLT,Int.reduceNeg,Int.reduceMul,Int.reduceEq,Int.reduceNe,Nat.reduceLeDiff,Nat.reduceSub,hn0,x1.cells,x2.cells,x1.sc,x2.sc,l1,l2,olp,hlp,hleft,d1,d2,d3];exact⟨fun r e n=>by have:=F.1 r e n;simpa only[Jk,Kg,hn0]using this,F.2.1,⟨_,rfl⟩,rfl⟩
   ·have c2:¬left-1<0:=fun e=>c1 (.inl e);have c3:¬(8:Int)<ks.length:=fun e=>c1 (.inr (.inl (by omega)));have c4:¬(8:Int)<ns.length:=fun e=>c1 (.inr (.inr (by omega)));rw[hadd,if_neg c1];simp only[CT,Tryz.f82,XZ,Nat.reduceEqDiff,↓reduceIte,reduceCtorEq,Int.reduceToNat,Nat.reduceAdd,Nat.reduceMul,Int.reduceAdd,Int.reduceSub,Int.reduceLE,Int.reduceLT,Int.reduceNeg,Int.reduceMul,Int.reduceEq,Int.reduceNe,Nat.reduceLeDiff,Nat.reduceSub,hn0,x1.cells,x2.cells,x1.sc,x2.sc,l1,l2,olp,hlp,hleft,c2,c3,c4];have g1:Gr st ((st.new fun t=> .cells t [.int .i64 k,ofL nm,nv,kv])):=e0;refine Jn (fun j fr S=>∃i Wi Fi tbi lefti ids kvi tli tp,AddI W F st rt lp n k nm nv kv ks left tb j fr S i Wi Fi tbi lefti ids kvi tli tp) ks.length (by omega) ?_ ?_
    ·refine⟨0,W,fun r=>F r/\st.row r≠ .none,tb,left-1,[], .snil, ?ta, ?tb,⟨by omega, ?_, ?_, ?_, ?_, ?_, ?_, ?ch,fun _ w=>w,fun _ w=> .inl w,fun _ w=> .inl w.1, ?_,hWl, ?_,fun w=>hFl w.1, ?tab, ?rlp, ?rn,⟨rfl, .inl ⟨rfl,rfl⟩⟩,rfl,by omega,by omega,(JpQ _).symm⟩⟩
     case rlp=>simp only[XZ,Nat.reduceEqDiff,↓reduceIte,reduceCtorEq,Int.reduceToNat,Nat.reduceAdd,Nat.reduceMul,Int.reduceAdd,Int.reduceSub,Int.reduceLE,Int.reduceLT,Int.reduceNeg,Int.reduceMul,Int.reduceEq,Int.reduceNe,Nat.reduceLeDiff,Nat.reduceSub,hn0,olp];rfl
     case rn=>simp only[XZ,Nat.reduceEqDiff,↓reduceIte,reduceCtorEq,Int.reduceToNat,Nat.reduceAdd,Nat.reduceMul,Int.reduceAdd,Int.reduceSub,Int.reduceLE,Int.reduceLT,Int.reduceNeg,Int.reduceMul,Int.reduceEq,Int.reduceNe,Nat.reduceLeDiff,Nat.reduceSub,hn0,olp];rfl
     case ch=>exact(((Ch.of _ e0).wr (Jc (e0.cells hlp)) (by rw[e0.cells hlp];rfl) (.inl (.inr rfl)) (Ja _))).nw (by simp only[YX,YI,hn0,Yn]) (Ja _) (Ja _)
     case tab=>
      refine hT.live.keep fun r w e=> ?_;have e1:r≠lp:=fun k=>by rw[k]at w;rcases w with w|w;exact hWl w;exact hFl w.1
      simp only[XZ,Nat.reduceEqDiff,↓reduceIte,reduceCtorEq,Int.reduceToNat,Nat.reduceAdd,Nat.reduceMul,Int.reduceAdd,Int.reduceSub,Int.reduceLE,Int.reduceLT,Int.reduceNeg,Int.reduceMul,Int.reduceEq,Int.reduceNe,Nat.reduceLeDiff,Nat.reduceSub,hn0,hold r e,e1]
     all_goals try simp only[XZ,Nat.reduceEqDiff,↓reduceIte,reduceCtorEq,Int.reduceToNat,Nat.reduceAdd,Nat.reduceMul,Int.reduceAdd,Int.reduceSub,Int.reduceLE,Int.reduceLT,Int.reduceNeg,Int.reduceMul,Int.reduceEq,Int.reduceNe,Nat.reduceLeDiff,Nat.reduceSub,hn0,olp]
     ·rfl
     ·obtain⟨_,_,_,_,_,_,hT⟩:=hT;exact fun w=>hT.own _ w (nx0 hw hn0 1)
     ·exact fun w=>w.2 (nx0 hw hn0 1)
    ·rintro j fr S ⟨i,Wi,Fi,tbi,lefti,ids,kvi,tli,tp,h⟩;have wS:=h.ch.wf;obtain⟨nS,hnS⟩:=nxE S;by_cases hi:i<ks.length
     ·have hi':(i:Int)<ks.length:=by omega
      have hie:i<es.length:=by omega
      obtain⟨q,qo,a1,a2,a3,a4,a5⟩:=x2.elem hie;have hSr:∀r,P r->st.row r≠ .none->S.row r=st.row r:=fun r p e=>h.ch.same r e fun w=>by rcases w with w|w;exact(hP r p).1 w;exact(hP r p).2 w
      have a4':ldn (S.row q) qo 4=some (.agg es[i], .no):=by rw[hSr q a2 a3];exact a4
      have oq:=fun k=>nes (Jz wS hnS (by rw[hSr q a2 a3];exact a3) k);have hx4:=x4 i hie hi;obtain⟨E,hE⟩:∃E,E=es[i]:=⟨_,rfl⟩
      obtain⟨T,hT'⟩:∃T,T=ks[i]:=⟨_,rfl⟩
      rw[<-hE]at a4' hx4;rw[<-hT']at hx4;obtain⟨k',n',ns',ks'⟩:=T;obtain⟨nv',kv',es',rfl,y1,y2,y3,y4⟩:=hx4.inv';simp only[XZ,Nat.reduceEqDiff,↓reduceIte,reduceCtorEq,Int.reduceToNat,Nat.reduceAdd,Nat.reduceMul,Int.reduceAdd,Int.reduceSub,Int.reduceLE,Int.reduceLT,Int.reduceNeg,Int.reduceMul,Int.reduceEq,Int.reduceNe,Nat.reduceLeDiff,Nat.reduceSub,h.f0,h.f2,h.f8,h.f42,h.f43,h.f44,hi',a1,a4',hnS,oq,y1.cells,y2.cells,y1.sc,y2.sc];have gS:Gr S ((S.new fun t=> .cells t [.int .i64 0,ofL [], .snil, .snil]).wr (up 0 nS) S.t fun u=> .cells u [.int .i64 k',ofL n',nv',kv']):=(Gr.refl wS).nw hnS (Ja _) (Ja _);refine Jd (add m (.mk k' n' ns' ks') (by rw[hT'];have:=Ym (k:=k) (n:=nm) (ns:=ns) hi;omega) Wi Fi (fun r=>P r/\st.row r≠ .none) _ rt lp tbi _ lefti tli gS.wf (h.tab.gr gS) ((hx4.imp fun r p e=>⟨⟨p,e⟩,hSr r p e⟩).gr gS) (fun r p=>⟨fun w=>by rcases h.w2 r w with w|w;exact(hP r p.1).1 w;exact p.2 w,(hP r p.1).2⟩) (gS.cells h.rlp) h.nw2 h.nf2 h.l0 (by have:=h.l1;omega)) ?_;rintro _ S2 ⟨⟨c2,⟨W2,F2,b1,b2,b3,T2⟩,t2,lp2⟩,rfl⟩;have hrec:=h.rec_;rw[List.drop_eq_getElem_cons hi,<-hT']at hrec;have hlt:=jD (.mk k' n' ns' ks') lefti tbi h.l0;have hstep:=Jjw (ids:=ids) (t:= .mk k' n' ns' ks') (r:=ks.drop (i+1)) (left:=lefti) (tb:=tbi);have hstop:=Jjx (ids:=ids) (t:= .mk k' n' ns' ks') (r:=ks.drop (i+1)) (left:=lefti) (tb:=tbi);generalize addT (.mk k' n' ns' ks') lefti tbi=A at*;obtain⟨tb2,id2,er2,left2⟩:=A;simp only at*;have cS2:Ch (fun r=>W r\/r=lp) st S2:=(h.ch.gr gS).trans c2 fun r w=>by
       rcases w with w|w
       ·rcases h.w2 r w with w|w
        ·exact .inl (.inl w)
        ·exact .inr w
       ·exact .inl (.inr w)
      have hW2:∀r,W2 r->W r\/st.row r= .none:=fun r w=>by
       rcases b2 r w with w|w
       ·exact h.w2 r w
       ·exact .inr ((h.ch.gr gS).fresh w)
      have hF2:∀r,F2 r->F r\/st.row r= .none:=fun r w=>by
       rcases b3 r w with w|w
       ·exact h.w3 r w
       ·exact .inr ((h.ch.gr gS).fresh w)
      by_cases he:er2=0
      ·subst he;have hL2:=hrec.trans (hstep rfl);have S1n:∀r,S.row r≠ .none->((S.new fun t=> .cells t [.int .i64 0,ofL [], .snil, .snil]).wr (up 0 nS) S.t fun u=> .cells u [.int .i64 k',ofL n',nv',kv']).row r≠ .none:=fun r e=>by rw[gS.same r e];exact e
       have nW:∀r,S.row r≠ .none->¬Wi r->¬W2 r:=fun r e w w2=>by rcases b2 r w2 with k|k;exact w k;exact S1n r e k
       have nF:∀r,S.row r≠ .none->¬Fi r->¬F2 r:=fun r e w w2=>by rcases b3 r w2 with k|k;exact w k;exact S1n r e k
       have keep:∀r,S.row r≠ .none->¬Wi r->r≠lp->S2.row r=S.row r:=fun r e w n=>by
        rw[c2.same r (S1n r e) (fun x=>by rcases x with x|x;exact w x;exact n x),gS.same r e]
       have u1lp:up 1 n≠lp:=by have:=(olp 1).2;simpa using this
       have rn2:S2.row (up 1 n)= .cells tp [.int .i64 k,ofL nm,nv,kvi]:=by rw[keep _ (Jc h.rn) h.nw1 u1lp,h.rn]
       have hls:LsAt (fun r=>¬W2 r/\¬F2 r/\st.row r= .none/\r≠up 1 n) S2 lp kvi 1 ids.length (ids.map fun a:Nat=>V.int .i64 (a:Int)):=by
        refine⟨h.ls.1, ?_⟩;rcases h.ls.2 with l|⟨r,t,l1,l2,l3,l4⟩
        ·exact .inl l
        ·exact .inr ⟨r,t,l1,by rw[keep r (Jc l2) l3.1 l4,l2],⟨nW r (Jc l2) l3.1,nF r (Jc l2) l3.2.1,l3.2.2⟩,l4⟩
       have w2:=c2.wf;obtain⟨n2,hn2⟩:=nxE S2;have o2n:=fun k=>nes (Jz w2 hn2 (Jc rn2) k);have o2l:=fun k=>nes (Jz w2 hn2 (Jc lp2) k);simp only[XZ,Nat.reduceEqDiff,↓reduceIte,reduceCtorEq,Int.reduceToNat,Nat.reduceAdd,Nat.reduceMul,Int.reduceAdd,Int.reduceSub,Int.reduceLE,Int.reduceLT,Int.reduceNeg,Int.reduceMul,Int.reduceEq,Int.reduceNe,Nat.reduceLeDiff,Nat.reduceSub,h.f0,h.f2,h.f8,h.f42,h.f43,h.f44,rn2,hn2,o2n];refine JnD (rt:=lp) (hls.imp fun r t hr1 hr2 hr3=> ?_) (tq:= ?tq) (new:=[V.int IntKind.i64 id2]) ?hq rfl rfl (by have:=h.hids;omega) ?wf ?_
       ·have e1:=nes (Jz w2 hn2 (Jc hr3) 0);simp only[Kg,Jk,YX,hn2,e1,if_false]
       case hq=>simp only[Kg,Jk,YX,hn2,if_true];rfl
       case wf=>exact(Gr.new w2 (Ja _)).wf
       intro S5 t6 r5 n5 s5 x5 m5;simp only[YI,YX,hn2,Yn,Nat.reduceAdd,Nat.zero_add]at r5 n5;have f5:∀r,S2.row r≠ .none->rowOf kvi≠some r->S5.row r=S2.row r:=fun r a1 a2=>by
        rw[s5 r (by simp only[YI,YX,hn2,Yn];exact Jz w2 hn2 a1 1) a2];have e1:=nes (Jz w2 hn2 a1 0);simp only[Kg,hn2,e1,if_false]
       have rn5:S5.row (up 1 n)= .cells tp [.int .i64 k,ofL nm,nv,kvi]:=by rw[f5 _ (Jc rn2) (fun e=>(hls.row e).1.2.2.2 rfl),rn2]
       have rl5:S5.row lp= .cells t2 [.int .i64 left2]:=(f5 _ (Jc lp2) (fun e=>(hls.row e).2.1 rfl)).trans lp2;have hadd1:IntKind.i64.wrap ((i:Int)+1)=((i+1:Nat):Int):=by rw[Jo (by omega) (by omega)];rfl
       have o1l:=nes u1lp;have o5:=fun k=>nes (Jz w2 hn2 (Jc rn2) k);simp only[XZ,Nat.reduceEqDiff,↓reduceIte,reduceCtorEq,Int.reduceToNat,Nat.reduceAdd,Nat.reduceMul,Int.reduceAdd,Int.reduceSub,Int.reduceLE,Int.reduceLT,Int.reduceNeg,Int.reduceMul,Int.reduceEq,Int.reduceNe,Nat.reduceLeDiff,Nat.reduceSub,rn5,h.f0,h.f2,h.f8,h.f42,h.f43,h.f44,hn2,hadd1];have g5:Ch (fun r=>W r\/r=lp) st S5:=by
        refine cS2.trans (W':=fun r=>rowOf kvi=some r) ⟨(YV w2 (Ja [.int .i64 (id2:Int)])).trans m5,fun r e n=>f5 r e n⟩ fun r e=> .inr ((hls.row e).1.2.2.1)
       have ntop:st.row (up 1 n2)= .none:=cS2.fresh (nx0 w2 hn2 1);have w5W:∀r,S2.row r≠ .none->r≠up 1 n2:=fun r e=>Jz w2 hn2 e 1;have hW5:¬W2 (up 1 n2):=fun w=>by obtain⟨_,_,_,_,_,_,hT2⟩:=T2;exact hT2.own _ w (nx0 w2 hn2 1)
       refine⟨ks.length-(i+1),by have:=h.hj;omega,i+1,W2,fun r=>F2 r/\S2.row r≠ .none,tb2,left2,ids++[id2], .sl (up 1 n2) 0 (ids.length+1) 1,t2,S5.t,⟨by omega, ?_, ?_, ?_, ?_, ?_, ?_, ?ch,fun r w=>b1 r (h.w1 r w),hW2,fun r w=>hF2 r w.1,nW _ (Jc h.rn) h.nw1,nW _ (Jc h.rlp) h.nw2,fun w=>nF _ (Jc h.rn) h.nf1 w.1,fun w=>nF _ (Jc h.rlp) h.nf2 w.1, ?tab, ?rlp, ?rn, ?ls,by simp[h.hids],hlt.2.2 rfl,by have:=h.l1;omega,hL2⟩⟩
       case ch=>exact g5.wr (Jc rn5) (by rw[rn5];rfl) (.inr (nx0 hw hn0 1)) (Ja _)
       all_goals try simp only[XZ,Nat.reduceEqDiff,↓reduceIte,reduceCtorEq,Int.reduceToNat,Nat.reduceAdd,Nat.reduceMul,Int.reduceAdd,Int.reduceSub,Int.reduceLE,Int.reduceLT,Int.reduceNeg,Int.reduceMul,Int.reduceEq,Int.reduceNe,Nat.reduceLeDiff,Nat.reduceSub,h.f0,h.f2,h.f8,h.f42,h.f43,h.f44]
       case tab=>
        refine T2.live.keep fun r w e=> ?_;have e1:r≠up 1 n:=fun k=>by
         rcases w with w|w
         ·exact nW _ (Jc h.rn) h.nw1 (by rw[<-k];exact w)
         ·exact nF _ (Jc h.rn) h.nf1 (by rw[<-k];exact w.1)
        rw[Jk,if_neg e1];refine f5 r e fun k=> ?_;rcases w with w|w
        ·exact(hls.row k).1.1 w
        ·exact(hls.row k).1.2.1 w.1
       case rlp=>simp only[o1l,if_false];exact rl5
       case ls=>
        refine⟨by simp, .inr ⟨up 1 n2,t6,by simp, ?_,⟨hW5,fun w=>w.2 (nx0 w2 hn2 1),ntop, ?_⟩, ?_⟩⟩
        ·rw[Jk,if_neg (w5W _ (Jc rn2)).symm,r5];simp
        ·exact fun e=>(w5W _ (Jc rn2)) e.symm
        ·exact fun e=>(w5W _ (Jc lp2)) e.symm
      ·have hL2:=hrec.trans (hstop he);have he':¬er2=0:=he;simp only[XZ,Nat.reduceEqDiff,↓reduceIte,reduceCtorEq,Int.reduceToNat,Nat.reduceAdd,Nat.reduceMul,Int.reduceAdd,Int.reduceSub,Int.reduceLE,Int.reduceLT,Int.reduceNeg,Int.reduceMul,Int.reduceEq,Int.reduceNe,Nat.reduceLeDiff,Nat.reduceSub,he',h.f0,h.f2,h.f8];rw[hL2];simp only[he',ne_eq,not_false_eq_true,if_true];exact⟨cS2.same,⟨W2,F2,fun r w=>b1 r (h.w1 r w),hW2,hF2,T2⟩,⟨t2,lp2⟩,rfl⟩
     ·have hie:i=ks.length:=by have:=h.hj;omega
      have hi':¬(i:Int)<ks.length:=by omega
      have hrec:=h.rec_;rw[hie,List.drop_length,KJ]at hrec;have hrec:Jw ks (left-1) tb=(tbi,ids,0,lefti):=by rw[hrec];simp[pre]
      rw[hrec];simp only[XZ,Nat.reduceEqDiff,↓reduceIte,reduceCtorEq,Int.reduceToNat,Nat.reduceAdd,Nat.reduceMul,Int.reduceAdd,Int.reduceSub,Int.reduceLE,Int.reduceLT,Int.reduceNeg,Int.reduceMul,Int.reduceEq,Int.reduceNe,Nat.reduceLeDiff,Nat.reduceSub,h.f0,h.f2,h.f8,h.f42,h.f43,h.f44,hi',h.rn];have hSr:∀r,P r->st.row r≠ .none->S.row r=st.row r:=fun r p e=>h.ch.same r e fun w=>by rcases w with w|w;exact(hP r p).1 w;exact(hP r p).2 w
      have hks:SlAt (fun _=>True) S kvi 1 (ints ids):=(LsAt.sl (es:=ints ids) (by rw[Jcb];exact h.ls) (JnE _) (Yo _)).imp fun _ _ _=>⟨trivial,rfl⟩
      refine Jd (lay (nd:=⟨k,nm,ns,ids⟩) wS h.tab ⟨nv,kvi,rfl,x1.imp fun r p e=>⟨trivial,hSr r p e⟩,hks⟩ ⟨(by show ns.length<=8;omega),(by show ids.length<=8;have:=h.hids;omega)⟩) ?_;rintro _ S2 ⟨c2,⟨W2,F2,b1,b2,b3,T2⟩,rfl⟩;simp only[XZ,Nat.reduceEqDiff,↓reduceIte,reduceCtorEq,Int.reduceToNat,Nat.reduceAdd,Nat.reduceMul,Int.reduceAdd,Int.reduceSub,Int.reduceLE,Int.reduceLT,Int.reduceNeg,Int.reduceMul,Int.reduceEq,Int.reduceNe,Nat.reduceLeDiff,Nat.reduceSub];refine⟨fun r e n=> ?_,⟨W2,F2,fun r w=>b1 r (h.w1 r w),fun r w=> ?_,fun r w=> ?_,T2⟩,tli, ?_⟩
      ·have e2:=h.ch.same r e n;rw[c2.same r (by rw[e2];exact e) fun w=>by rcases h.w2 r w with w|w;exact n (.inl w);exact e w,e2]
      ·rcases b2 r w with w|w
       ·exact h.w2 r w
       ·exact .inr (h.ch.fresh w)
      ·rcases b3 r w with w|w
       ·exact h.w3 r w
       ·exact .inr (h.ch.fresh w)
      ·rw[c2.same lp (Jc h.rlp) h.nw2,h.rlp]
theorem lenC {W F:Pt->Prop}{st:St}{rt:Pt}{tb:Tb}(hT:Tab W F st rt tb):Does (tabT tabD) 29 [.ptr rt 0] st fun v st'=>v= .int .i64 tb.nodes.length/\st=st':=by
 refine Jy (aT Tryz.func29 rfl) rfl ?_;obtain⟨lv,ra,rn,rs,es,sv,hT⟩:=hT;obtain⟨t,c⟩:=hT.cell;simp only[CT,Tryz.f29,XZ,simprocAttr,c,hT.l.len]
theorem Jss {W F:Pt->Prop}{st:St}{rt:Pt}{tb:Tb}(hT:Tab W F st rt tb):Does (tabT tabD) 24 [.ptr rt 0] st fun v st'=>v= .int .i64 tb.main/\st=st':=by
 refine Jy (aT Tryz.func24 rfl) rfl ?_;obtain⟨lv,ra,rn,rs,es,sv,hT⟩:=hT;obtain⟨t,c⟩:=hT.cell;simp only[CT,Tryz.f24,XZ,simprocAttr,c]
theorem addTop {W F P:Pt->Prop}{st:St}{rt:Pt}{tb:Tb}{e:List V}{ty:Ty}(hw:WF st)(hT:Tab W F st rt tb)(hx:TyC P st e ty)(hP:∀r,P r->¬W r):
  Does (tabT tabD) 51 [.ptr rt 0, .agg e] st fun v st'=>Ch W st st'/\(∃W' F':Pt->Prop,(∀r,W r->W' r)/\(∀r,W' r->W r\/st.row r= .none)/\(∀r,F' r->F r\/st.row r= .none)/\Tab W' F' st' rt (addT ty 400 tb).1)/\v= .tup [.int .i64 ((addT ty 400 tb).2.1:Nat), .int .i64 (addT ty 400 tb).2.2.1]:=by
 refine Jy (aT Tryz.func51 rfl) rfl ?_;obtain⟨n,hn0⟩:=nxE st;have e4:=hx.four;have etk:e.take 4=e:=by rw[<-e4,List.take_length]
 have edl:4<=e.length:=by omega
 have hsp:JI [V.int .i64 0] 0 [.int .i64 400]=[.int .i64 400]:=rfl;simp only[CT,Tryz.f51,XM,simprocAttr,hn0,hx.ok,e4,etk,hsp];have gS:Gr st (((st.new fun t=> .cells t e).new fun t=> .cells t [.int .i64 0]).wr (up 1 n) (st.new fun t=> .cells t e).t fun u=> .cells u [.int .i64 400]):=(Gr.new hw (Ja _)).nw (by simp only[YI,hn0,Yn,Nat.zero_add]) (Ja _) (Ja _);obtain⟨lv,ra,rn,rs,es,sv,hT0⟩:=hT.live;have hT1:Tab W (fun r=>F r/\st.row r≠ .none) _ rt tb:=Tab.gr ⟨lv,ra,rn,rs,es,sv,hT0⟩ gS;have q1:=nx0 hw hn0 1;refine Jd (add _ ty (Nat.lt_succ_self _) W _ (fun r=>P r/\st.row r≠ .none) _ rt (up 1 n) tb e 400 _ gS.wf hT1 ((hx.imp fun r p e=>⟨⟨p,e⟩,rfl⟩).gr gS) (fun r p=>⟨hP r p.1,fun k=>p.2 (by rw[k];exact q1)⟩) (by rw[Jm]) (fun w=>hT0.own _ w q1) (fun w=>w.2 q1) (by decide) (by decide)) ?_;rintro _ S2 ⟨⟨c2,⟨W2,F2,b1,b2,b3,T2⟩,_⟩,rfl⟩;simp only[XZ,simprocAttr];refine⟨(Ch.of W gS).trans c2 fun r w=> ?_,W2,F2,b1,fun r w=> ?_,fun r w=> ?_,T2⟩
 ·rcases w with w|w
  ·exact .inl w
  ·exact .inr (by rw[w];exact q1)
 ·rcases b2 r w with w|w;exact .inl w;exact .inr (Ch.fresh (Ch.of W gS) w)
 ·rcases b3 r w with w|w;exact .inl w.1;exact .inr (Ch.fresh (Ch.of W gS) w)
theorem JqJ {W F Q:Pt->Prop}{st:St}{rt:Pt}{tb:Tb}{id:Nat}(hw:WF st)(hT:Tab W F st rt tb)(hi:id<tb.nodes.length)(hQ:∀r,st.row r= .none->Q r):
  Does (tabT tabD) 141 [.ptr rt 0, .int .i64 id] st fun v st'=>Gr st st'/\∃e,v= .tup [.agg e, .bool true]/\NdC Q st' e tb.nodes[id]:=by
 refine Ju tabM (aT Tryz.func141 rfl) rfl hw fun K fin=> ?_;obtain⟨lv,ra,rn,rs,es,sv,hT⟩:=hT;obtain⟨n,hn0⟩:=nxE st;have hold:=fun r (h:st.row r≠ .none)=>YJ hw hn0 h;obtain⟨t,c⟩:=hT.cell;have hie:id<es.length:=by rw[hT.len];exact hi
 obtain⟨q,qo,a1,a2,a3,a4,a5,a6⟩:=hT.elem hie;have hnd:=hT.nd id hie hi;have hfit:=hT.fit _ (List.getElem_mem hi);obtain⟨E,hE⟩:∃E,E=es[id]:=⟨_,rfl⟩
 rw[<-hE]at a5 hnd;obtain⟨nv,kv,rfl,h1,h2⟩:=hnd;have ort:=fun k=>nes (Jz hw hn0 hT.rt_ne k);have oq:=fun k=>nes (Jz hw hn0 a2 k);have i0:¬(id:Int)<0:=by omega
 have i1:¬(tb.nodes.length:Int)<=(id:Int):=by omega
 have g1:Gr st (((st.new fun t=> .cells t [.int .i64 0,ofL [], .snil, .snil]).new fun t=> .cells t [.int .i64 0,ofL [], .snil, .snil]).wr (up 1 n) (st.new fun t=> .cells t [.int .i64 0,ofL [], .snil, .snil]).t fun u=> .cells u [.int .i64 tb.nodes[id].kind,ofL tb.nodes[id].name,nv,kv]):=(Gr.new hw (Ja _)).nw (by simp only[YI,hn0,Yn,Nat.zero_add]) (Ja _) (Ja _);have r0:St.row (((st.new fun t=> .cells t [.int .i64 0,ofL [], .snil, .snil]).new fun t=> .cells t [.int .i64 0,ofL [], .snil, .snil]).wr (up 1 n) (st.new fun t=> .cells t [.int .i64 0,ofL [], .snil, .snil]).t fun u=> .cells u [.int .i64 tb.nodes[id].kind,ofL tb.nodes[id].name,nv,kv]) (up 0 n)= .cells st.t [.int .i64 0,ofL [], .snil, .snil]:=by simp only[XZ,simprocAttr,hn0]
 have r1:St.row (((st.new fun t=> .cells t [.int .i64 0,ofL [], .snil, .snil]).new fun t=> .cells t [.int .i64 0,ofL [], .snil, .snil]).wr (up 1 n) (st.new fun t=> .cells t [.int .i64 0,ofL [], .snil, .snil]).t fun u=> .cells u [.int .i64 tb.nodes[id].kind,ofL tb.nodes[id].name,nv,kv]) (up 1 n)= .cells _ [.int .i64 tb.nodes[id].kind,ofL tb.nodes[id].name,nv,kv]:=Jm _ _ _ _;simp only[CT,Tryz.f141,XZ,simprocAttr,hn0,ort,oq,c,hT.l.len,i0,i1,a1,a5,h1.cells,h2.cells,h1.sc,h2.sc];refine Ji (qr (Q:=fun r=>st.row r= .none/\r≠up 0 n/\r≠up 1 n) (JD g1.wf _) ((h1.gr g1).low _) (kf _) (by rw[JW];have:=hfit.1;omega) ?_) ?_
 ·exact fun r hr=>⟨Ch.fresh (Ch.of (fun _=>False) g1) hr,(fun e=>Jc r0 ((congrArg (St.row _) e).symm.trans hr)),(fun e=>Jc r1 ((congrArg (St.row _) e).symm.trans hr))⟩
 rintro nv' S2 g2 c2;have c2:=c2.unlow;have b1:S2.row (up 1 n)= .cells _ [.int .i64 tb.nodes[id].kind,ofL tb.nodes[id].name,nv,kv]:=g2.cells r1;have b0:S2.row (up 0 n)= .cells _ [.int .i64 0,ofL [], .snil, .snil]:=g2.cells r0;simp only[XZ,simprocAttr,b1];refine Ji (Jf9 (Q:=fun r=>st.row r= .none/\r≠up 0 n/\r≠up 1 n) (JD g2.wf _) (((h2.gr g1).gr g2).low _) (Jgv _) (by rw[Yo];have:=hfit.2;omega) ?_) ?_
 ·exact fun r hr=>⟨Ch.fresh (Ch.of (fun _=>False) (g1.trans g2)) hr,fun e=>Jc b0 (by rw[<-e];exact hr),fun e=>Jc b1 (by rw[<-e];exact hr)⟩
 rintro kv' S3 g3 c3;have c3:=c3.unlow;have c2:=c2.gr g3;have b1:=g3.cells b1;have b0:=g3.cells b0;have G3:=(g1.trans g2).trans g3;simp only[XZ,simprocAttr,b1,b0,c2.cells,c3.cells,c2.sc,c3.sc];refine fin _ _ (fun r e=>by simp only[Jk,hold r e,if_false];exact G3.same r e) fun _=>⟨_,rfl,nv',kv',rfl,c2.imp fun r p e=>⟨hQ r p.1, ?_⟩,c3.imp fun r p e=>⟨hQ r p.1, ?_⟩⟩
 ·simp only[Jk,p.2.1,p.2.2,if_false]
 ·simp only[Jk,p.2.1,p.2.2,if_false]
def Jbi (tb:Tb)(z:Int):Nat×Bool:=if z<0 then(0,false)else Kh tb (tb.nodes.length+1) z.toNat
theorem Jst {W F:Pt->Prop}{st:St}{rt:Pt}{tb:Tb}{id:Int}(hw:WF st)(hT:Tab W F st rt tb):
  Does (tabT tabD) 140 [.ptr rt 0, .int .i64 id] st fun v st'=>v= .tup [.int .i64 ((Jbi tb id).1:Nat), .bool (Jbi tb id).2]/\st=st':=by
 refine Jy (aT Tryz.func140 rfl) rfl ?_;obtain⟨lv,ra,rn,rs,es,sv,hT⟩:=hT;obtain⟨t,c⟩:=hT.cell;have hadd:IntKind.i64.wrap ((tb.nodes.length:Int)+1)=((tb.nodes.length+1:Nat):Int):=by have:=hT.few;rw[Jo (by omega) (by omega)];rfl
 simp only[CT,Tryz.f140,XZ,simprocAttr,c,hT.l.len,hadd];obtain⟨K,hK⟩:∃K:V->St->Prop,∀v S,K v S<->(v= .tup [.int .i64 ((Jbi tb id).1:Nat), .bool (Jbi tb id).2]/\st=S):=⟨_,fun _ _=>Iff.rfl⟩
 simp only[<-hK];obtain⟨L,hL⟩:=loE fun j fr S=>∃(i:Nat) (z:Int),S=st/\j+i=tb.nodes.length+1/\fr 0= .ptr rt 0/\fr 1= .int .i64 z/\fr 13= .int .i64 ((tb.nodes.length+1:Nat):Int)/\fr 14= .int .i64 i/\Jbi tb id=if z<0 then(0,false)else Kh tb (tb.nodes.length+1-i) z.toNat;have:=hT.few;refine Jn L (tb.nodes.length+1) (by omega) ((hL _ _ _).2 ⟨0,id,rfl,by omega,rfl,rfl,rfl,by simp only[XZ,simprocAttr]<;>rfl,rfl⟩) ?_;intro j fr S hLj;obtain⟨i,z,rfl,hj,f0,f1,f13,f14,hrec⟩:=(hL _ _ _).1 hLj;by_cases hi:i<tb.nodes.length+1
 ·have hi':(i:Int)<((tb.nodes.length+1:Nat):Int):=by omega
  by_cases z0:z<0
  ·simp only[XZ,simprocAttr,f0,f1,f13,f14,hi',z0];rw[hK,hrec,if_pos z0];exact⟨rfl,rfl⟩
  obtain⟨a,rfl⟩:∃a:Nat,z=a:=⟨z.toNat,by omega⟩
  rw[if_neg (by omega),show tb.nodes.length+1-i=(tb.nodes.length-i)+1 by omega]at hrec;simp only[Int.toNat_natCast]at hrec;by_cases z1:tb.nodes.length<=a
  ·have z1':(tb.nodes.length:Int)<=(a:Int):=by omega
   rw[YK z1]at hrec;simp only[XZ,simprocAttr,f0,f1,f13,f14,hi',z0,c,hT.l.len,z1'];rw[hK,hrec];exact⟨rfl,rfl⟩
  have z1':¬(tb.nodes.length:Int)<=(a:Int):=by omega
  have ha:a<tb.nodes.length:=by omega
  have hie:a<es.length:=by rw[hT.len];exact ha
  obtain⟨q,qo,a1,a2,a3,a4,a5,a6⟩:=hT.elem hie;have hnd:=hT.nd a hie ha;have E0:=a6 0;have E1:=a6 1;obtain⟨E,hE⟩:∃E,E=es[a]:=⟨_,rfl⟩
  simp only[<-hE]at hnd E0 E1;obtain⟨nv,kv,rfl,h1,h2⟩:=hnd;have E0:=E0 (by simp);have E1:=E1 (by simp);simp only[List.getElem_cons_zero,List.getElem_cons_succ,Nat.add_zero]at E0 E1;by_cases k9:tb.nodes[a].kind=9
  ·have k9':(tb.nodes[a].kind=9)=True:=eq_true k9;have hlk:=Qi (e:= .one .s) hT.named (.int .i64 0) true tb.nodes[a].name (YQ _ _) rfl;rw[Jk5]at hlk;have hadd1:IntKind.i64.wrap ((i:Int)+1)=((i+1:Nat):Int):=by rw[Jo (by omega) (by omega)];rfl
   have hdef:defI tb tb.nodes[a].name=(tb.named.find? fun p=>tb.nodes[a].name=p.1).map (·.2):=rfl;rw[<-hdef]at hlk
   cases hd:defI tb tb.nodes[a].name with
   | none=>
     rw[qM ha k9 hd]at hrec;rw[hd]at hlk;simp only[Option.map_none,ansL,if_true]at hlk;simp only[XZ,simprocAttr,f0,f1,f13,f14,hi',z0,c,hT.l.len,z1',a1,E0,E1,k9',hlk,hadd1];exact⟨tb.nodes.length+1-(i+1),by omega,(hL _ _ _).2 ⟨i+1,-1,rfl,by omega,f0,rfl,f13,rfl,by rw[hrec,if_pos (by omega)]⟩⟩
   | some b=>
     rw[kq ha k9 hd]at hrec;rw[hd]at hlk;simp only[Option.map_some,ansL,if_true]at hlk;simp only[XZ,simprocAttr,f0,f1,f13,f14,hi',z0,c,hT.l.len,z1',a1,E0,E1,k9',hlk,hadd1];exact⟨tb.nodes.length+1-(i+1),by omega,(hL _ _ _).2 ⟨i+1,b,rfl,by omega,f0,rfl,f13,rfl,by rw[hrec,if_neg (by omega)];congr 1;omega⟩⟩
  ·have k9':(tb.nodes[a].kind=9)=False:=eq_false k9;rw[Qm ha k9]at hrec;simp only[XZ,simprocAttr,f0,f1,f13,f14,hi',z0,c,hT.l.len,z1',a1,E0,E1,k9'];rw[hK,hrec];exact⟨rfl,rfl⟩
 ·have hi':¬(i:Int)<((tb.nodes.length+1:Nat):Int):=by omega
  have hie:i=tb.nodes.length+1:=by omega
  simp only[XZ,simprocAttr,f0,f1,f13,f14,hi'];rw[hK,hrec,hie,Nat.sub_self];refine⟨?_,rfl⟩
  split<;>rfl
abbrev ndR (k at_:Int)(s nm:Str)(pv:V):List V:=[.int .i64 k, .int .i64 at_,ofL s,ofL nm,pv, .snil, .snil, .bool false, .snil]
def tR :Bool->List UInt8
 |false=>[97,123,123,100,101,102,105,110,101,32,34,116,34,125,125,123,123,46,110,111,98,111,100,121,46,104,97,115,46,116,104,105,115,125,125,123,123,101,110,100,125,125]
 |true=>[97,123,123,116,101,109,112,108,97,116,101,32,34,116,34,125,125,123,123,100,101,102,105,110,101,32,34,116,34,125,125,123,123,46,110,111,98,111,100,121,46,104,97,115,46,116,104,105,115,125,125,123,123,101,110,100,125,125]
def Qf :Str:=[110,111,98,111,100,121]
def esR :Bool->List (List V)
 |false=>[ndR 1 0 [97] [] .snil]
 |true=>[ndR 1 0 [97] [] .snil,ndR 9 1 [] [116] .snil]
def atR :Bool->Int
 |false=>15
 |true=>31
def Ye :List V->List V->Bool
 |[],[]=>true
 |a::r,b::s=>JaS a b&&Ye r s
 |_,_=>false
theorem Q8 :∀{a b:List V},Ye a b=true->a=b
 |[],[],_=>rfl
 | a::r,b::s,h=>by
   rw[Ye,Bool.and_eq_true]at h;rw[jz h.1,Q8 h.2]
noncomputable def parB (c:Bool):Bool:=match run (tabT tabD) 60 8 [ofL (tR c)] St.start with
 | some (.tup [.sl r 0 2 2, .int .i64 0, .int .i64 0],a)=>inT a.nx.num a.h&&((match a.row r with
   | .cells _ [e0, .sl rm 0 nm 9,e1, .sl rb 0 1 9]=>Ye [e0,e1] [ofL [],ofL [116]]&&(decide (nm=(esR c).length)&&((match a.row rm with
      | .cells _ l=>Ye l (esR c).flatten
      |_=>false)&&(match a.row rb with
      | .cells _ [k,at_,s,n, .slx rp 0 1 1 1,b,el,he,cs]=>Ye [k,at_,s,n,b,el,he,cs] [.int .i64 2, .int .i64 (atR c),ofL [],ofL [], .snil, .snil, .bool false, .snil]&&(match a.row rp with
        | .cells _ [.slx rc 0 1 7 1]=>(match a.row rc with
          | .cells _ [f0,f1, .sl rq 0 3 1,f3,f4,f5,f6]=>Ye [f0,f1,f3,f4,f5,f6] [.int .i64 1,ofL [],ofL [], .int .i64 0, .bool false, .snil]&&(match a.row rq with
            | .cells _ [n0,_,_]=>JaS n0 (ofL Qf)
            |_=>false)
          |_=>false)
        |_=>false)
      |_=>false)))
   |_=>false)&&(match run (tabT tabD) 60 23 [.sl r 0 2 2] {a with low:=a.t}with
   |some (y,a2)=>Nat.ble a.t a2.low&&(inT a2.nx.num a2.h&&y.sc)
   |none=>false))
 |_=>false
structure PR (S:St) (c:Bool) (lv:V):Prop where
 ex:∃rl rm rb rp rc rq:Pt,lv= .sl rl 0 2 2/\(∃t,S.row rl= .cells t [ofL [], .sl rm 0 (esR c).length 9,ofL [116], .sl rb 0 1 9])/\(∃t,S.row rm= .cells t (esR c).flatten)/\(∃t,S.row rb= .cells t (ndR 2 (atR c) [] [] (.slx rp 0 1 1 1)))/\
  (∃t,S.row rp= .cells t [.slx rc 0 1 7 1])/\(∃t,S.row rc= .cells t [.int .i64 1,ofL [], .sl rq 0 3 1,ofL [], .int .i64 0, .bool false, .snil])/\∃t l,S.row rq= .cells t (ofL Qf::l)/\l.length=2
 cp:∀S',Fz S S'->Does (tabT tabD) 23 [lv] S' fun v S''=>Gr S' S''/\One v
theorem JrA :parB false=true:=by kernel_rfl
theorem JrB :parB true=true:=by kernel_rfl
theorem parR {c:Bool}(h:parB c=true){S:St}(hw:WF S):Does (tabT tabD) 8 [ofL (tR c)] S fun v S'=>Gr S S'/\∃lv,v= .tup [lv, .int .i64 0, .int .i64 0]/\PR S' c lv:=by
 unfold parB at h
 split at h
 rotate_left
 ·cases h
 rename_i r a hrun
 rw[Bool.and_eq_true,Bool.and_eq_true]at h;obtain⟨h0,h1,h2⟩:=h;have H0:=Hold.start (S:=S) (fun _=> .int .i64 0) (fun _=>⟨_,_,rfl⟩) hw;have:=H0.go tabE tabM tabU (args:=[ofL (tR c)]) (by simp only[inVs,JeJ _ (ofL (tR c)) rfl,Bool.and_true]) hrun (Nat.zero_le _) h0;simp only[List.map_cons,List.map_nil,Kw _ (ofL (tR c)) rfl]at this;refine this.mono fun v S' ⟨g,ψ,_,ev,H,_⟩=>⟨g, .sl (ψ r) 0 2 2,by rw[ev];simp only[mv,mvs], ?_, ?_⟩
 ·split at h1
  rotate_left
  ·cases h1
  rename_i t0 e0 rm nm e1 rb er
  rw[Bool.and_eq_true,Bool.and_eq_true,Bool.and_eq_true]at h1;obtain⟨v1,v2,v3,v4⟩:=h1;have v1:=Q8 v1;have v2:=of_decide_eq_true v2;injection v1 with w1 v1;injection v1 with w2 _;subst w1;subst w2;subst v2;have at_:∀{q:Pt} {t:Nat} {l:List V},a.row q= .cells t l->∃u,S'.row (ψ q)= .cells u (l.map (mv ψ)):=fun{q t l} e=>by
   have:=H.row q (H.none (by rw[e];exact fun x=>by cases x));rw[e]at this;obtain⟨u,x,_⟩:=this;exact⟨u,x⟩
  have cl:∀s:Str,mv ψ (ofL s)=ofL s:=fun s=>Kw ψ _ rfl
  split at v3
  rotate_left
  ·cases v3
  rename_i tm lm em
  have v3:=Q8 v3;subst v3
  split at v4
  rotate_left
  ·cases v4
  rename_i tb k at_' s n rp b el he cs eb
  rw[Bool.and_eq_true]at v4;obtain⟨v5,v6⟩:=v4;have v5:=Q8 v5;injection v5 with y0 v5;injection v5 with y1 v5;injection v5 with y2 v5;injection v5 with y3 v5;injection v5 with y4 v5;injection v5 with y5 v5;injection v5 with y6 v5;injection v5 with y7 v5;subst y0;subst y1;subst y2;subst y3;subst y4;subst y5;subst y6;subst y7
  split at v6
  rotate_left
  ·cases v6
  rename_i tp rc ep
  split at v6
  rotate_left
  ·cases v6
  rename_i tc f0 f1 rq f3 f4 f5 f6 ec
  rw[Bool.and_eq_true]at v6;obtain⟨v7,v8⟩:=v6;have v7:=Q8 v7;injection v7 with y0 v7;injection v7 with y1 v7;injection v7 with y2 v7;injection v7 with y3 v7;injection v7 with y4 v7;injection v7 with y5 v7;subst y0;subst y1;subst y2;subst y3;subst y4;subst y5
  split at v8
  rotate_left
  ·cases v8
  rename_i tq n0 n1 n2 eq_
  have v8:=jz v8;subst v8;have hm:(esR c).flatten.map (mv ψ)=(esR c).flatten:=by cases c<;>rfl
  obtain⟨u0,z0⟩:=at_ er;obtain⟨u1,z1⟩:=at_ em;obtain⟨u2,z2⟩:=at_ eb;obtain⟨u3,z3⟩:=at_ ep;obtain⟨u4,z4⟩:=at_ ec;obtain⟨u5,z5⟩:=at_ eq_;rw[hm]at z1;simp only[List.map_cons,List.map_nil,cl,mv]at z0 z2 z3 z4 z5;exact⟨ψ r,ψ rm,ψ rb,ψ rp,ψ rc,ψ rq,rfl,⟨u0,z0⟩,⟨u1,z1⟩,⟨u2,z2⟩,⟨u3,z3⟩,⟨u4,z4⟩,u5,_,z5,rfl⟩
 ·intro S2 g2
  split at h2
  rotate_left
  ·cases h2
  rename_i y a2 hrun2
  rw[Bool.and_eq_true,Bool.and_eq_true]at h2;obtain⟨k1,k2,k3⟩:=h2;have hr:r.num<a.nx.num:=by
   split at h1
   ·rename_i er
    exact H.none (by rw[er];exact fun x=>by cases x)
   ·cases h1
  have:=(H.fz g2).go tabE tabM tabU (args:=[.sl r 0 2 2]) (by simp only[inVs,inV,decide_eq_true hr,Bool.and_true]) hrun2 (Nat.le_of_ble_eq_true k1) k2;simp only[List.map_cons,List.map_nil,mv]at this;refine this.mono fun v S3 ⟨g3,χ,_,ev2,H3,_⟩=>⟨g3, ?_⟩
  rw[ev2];exact One.of (by rw[JqA χ H3.num];exact k3)
abbrev envE (id:Nat):V:= .agg [.int .i64 (id:Nat), .snil, .snil]
abbrev Q3 (rq:Pt):List V:=[.int .i64 1,ofL [], .sl rq 0 3 1,ofL [], .int .i64 0, .bool false, .snil]
theorem JqK {W F:Pt->Prop}{st:St}{rt:Pt}{tb:Tb}{id o:Nat}(hw:WF st)(hT:Tab W F st rt tb)(ho:Kh tb (tb.nodes.length+1) id=(o,true)):
  Does (tabT tabD) 140 [.ptr rt 0, .int .i64 (id:Nat)] st fun v S=>v= .tup [.int .i64 (o:Nat), .bool true]/\st=S:=by
 have:=Jst (id:=(id:Nat)) hw hT;have e:Jbi tb ((id:Nat):Int)=(o,true):=by unfold Jbi;rw[if_neg (by omega)];simpa using ho
 rw[e]at this;exact this
theorem idxR {P:Pt->Prop}{st:St}{v:V}{ns:List Str}{nm:Str}(h:SlAt P st v 1 (strs ns))(hn:nm∉ns)(hl:ns.length<1000):Does (tabT tabD) 150 [v,ofL nm] st fun u S=>u= .int .i64 (-1)/\st=S:=by
 refine Jy (aT Tryz.func150 rfl) rfl ?_;have hlen:=h.len;rw[JW]at hlen;simp only[CT,Tryz.f150,XY,simprocAttr];rw[Jb];simp only[XY,simprocAttr];rw[Je,Jb];simp only[XY,simprocAttr,hlen];obtain⟨L,hL⟩:=loE fun j fr S=>∃i:Nat,j+i=ns.length/\fr 0=v/\fr 1=ofL nm/\fr 7= .int .i64 (ns.length:Nat)/\fr 8= .int .i64 (i:Nat)/\st=S;refine Jn L ns.length (by omega) ((hL _ _ _).2 ⟨0,by omega,rfl,rfl,rfl,by simp only[XZ,simprocAttr]<;>rfl,rfl⟩) ?_;intro j fr S hLj;obtain⟨i,hj,f0,f1,f7,f8,rfl⟩:=(hL _ _ _).1 hLj;by_cases hi:i<ns.length
 ·have hi':(i:Int)<ns.length:=by omega
  have hadd1:IntKind.i64.wrap ((i:Int)+1)=((i+1:Nat):Int):=by rw[Jo (by omega) (by omega)];rfl
  obtain⟨r,o,a1,a4⟩:=Jac h hi;have hne:¬nm=ns[i]:=fun e=>hn (by rw[e];exact List.getElem_mem hi);simp only[XZ,simprocAttr,f0,f1,f7,f8,hi',a1,a4,hne,hadd1];exact⟨ns.length-(i+1),by omega,(hL _ _ _).2 ⟨i+1,by omega,f0,f1,f7,rfl,rfl⟩⟩
 ·have hi':¬(i:Int)<ns.length:=by omega
  simp only[XZ,simprocAttr,f7,f8,hi']
theorem Jsu {S:St}(hw:WF S)(id:Nat)(pv:V):Does (tabT tabD) 170 [envE id, .int .i64 (-1),pv] S fun v S'=>Gr S S'/\v= .tup [.int .i64 (id:Nat), .int .i64 0]:=by
 refine Ju tabM (aT Tryz.func170 rfl) rfl hw fun K fin=> ?_;obtain⟨n0,hn0⟩:=nxE S;simp only[CT,Tryz.f170,XZ,simprocAttr,hn0];refine YY (by decide) ?_;simp only[XZ,simprocAttr];exact fin _ _ (fun r e=>(Gr.new hw (Ja _)).same r e) fun _=>rfl
def YP (tb:Tb):Prop:=∀nd∈tb.nodes,Qf∉nd.names/\nd.names.length<1000
theorem Jsv {W F:Pt->Prop}{S:St}{rt rq:Pt}{tb:Tb}{id o:Nat}{tq:Nat}{l:List V}(hw:WF S)(hT:Tab W F S rt tb)(ho:Kh tb (tb.nodes.length+1) id=(o,true))(hol:o<tb.nodes.length)(hno:YP tb)(hq:S.row rq= .cells tq (ofL Qf::l))(hl:l.length=2):
  Does (tabT tabD) 139 [envE id, .ptr rt 0, .agg (Q3 rq)] S fun v S'=>Gr S S'/\v= .tup [.int .i64 0, .int .i64 16]:=by
 refine Ju tabM (aT Tryz.func139 rfl) rfl hw fun K fin=> ?_;obtain⟨n0,hn0⟩:=nxE S;have cut:∀S:St,jb S 1 (.sl rq 0 3 1) (some (.int .i64 0)) none none=some (.sl rq 0 3 1, .no):=fun _=>rfl;have l3:Kf (.sl rq 0 3 1)=some (.int .i64 3, .no):=rfl;have i0:JJ 1 (.sl rq 0 3 1) (.int .i64 0)=some (.ptr rq 0, .no):=rfl;simp only[CT,Tryz.f139,XY,simprocAttr];rw[Jb];simp only[XY,simprocAttr,hn0];refine Js ?_;intro S1 hS1;have G1:Gr S S1:=by rw[hS1];exact(Gr.new hw (Ja _)).nn (Ja _)
 obtain⟨p3,hp3⟩:=exE (up 0 n0);obtain⟨p5,hp5⟩:=exE (up 1 n0);obtain⟨t3,r3⟩:∃t,S1.row p3= .cells t [.int .i64 (id:Nat), .snil, .snil]:=⟨_,by rw[hS1,hp3];simp only[XZ,simprocAttr,hn0];rfl⟩
 obtain⟨t5,r5⟩:∃t,S1.row p5= .cells t (Q3 rq):=⟨_,by rw[hS1,hp5];simp only[XZ,simprocAttr,hn0];rfl⟩
 rw[<-hp3,<-hp5];clear hS1;rw[Jb];simp only[XY,simprocAttr,r3,r5];refine Jd (Jca (Q:=fun v S'=>v= .tup [.int .i64 (-1), .bool true]/\S1=S') (aH (k:=169) rfl) rfl ⟨rfl,rfl⟩) ?_;rintro _ _ ⟨rfl,rfl⟩;simp only[XY,simprocAttr];rw[Je,Jb];simp only[XY,simprocAttr];rw[Jb];simp only[XY,simprocAttr,r3,r5];refine Jd (Jsu G1.wf id _) ?_;rintro _ S2 ⟨G2,rfl⟩;have r52:=G2.cells r5;have G02:=G1.trans G2;have hq2:=G02.cells hq;have h03:(0:Int)<3:=by omega
 have ld0:ld1 (S2.row rq) 0=some (ofL Qf, .no):=by rw[hq2];rfl
 simp only[XY,simprocAttr];rw[Je,Jb];simp only[XY,simprocAttr,r52,cut,l3];obtain⟨L,hL⟩:=loE fun j fr S'=>j=0/\fr 1= .ptr rt 0/\fr 10= .int .i64 (id:Nat)/\fr 39= .sl rq 0 3 1/\fr 40= .int .i64 3/\fr 41= .int .i64 0/\S'=S2;refine Jn L 0 (by omega) ((hL _ _ _).2 ⟨rfl,rfl,rfl,rfl,rfl,rfl,rfl⟩) ?_;intro j fr S3 hLj;obtain⟨rfl,f1,f10,f39,f40,f41,rfl⟩:=(hL _ _ _).1 hLj;rw[Jb];simp only[XY,simprocAttr,f40,f41,h03];rw[Je];simp only[XY,simprocAttr];rw[Je];simp only[XY,simprocAttr];rw[Jb];simp only[XY,simprocAttr,f39,f41,i0,ld0];rw[Jb];simp only[XY,simprocAttr,f1,f10];refine Jd (JqK G02.wf (hT.gr G02) ho) ?_;rintro _ _ ⟨rfl,rfl⟩;simp only[XY,simprocAttr];rw[Jb];simp only[XY,simprocAttr,f1];refine Jd (JqJ (Q:=fun _=>True) G02.wf (hT.gr G02) hol fun _ _=>trivial) ?_;rintro _ S4 ⟨G4,e,rfl,nv,kv,rfl,x1,x2⟩;obtain⟨hno1,hno2⟩:=hno _ (List.getElem_mem hol);obtain⟨N,hN⟩:=exE (tb.nodes[o]);rw[<-hN]at x1 x2 hno1 hno2⊢;have c1:=x1.cells;have c2:=x1.sc;have c3:=x2.cells;have c4:=x2.sc;obtain⟨n4,hn4⟩:=nxE S4;simp only[XY,simprocAttr,hn4,c1,c2,c3,c4];refine Js ?_;intro S5 hS5;have G5:Gr S4 S5:=by rw[hS5];exact(Gr.refl G4.wf).nw hn4 (Ja _) (Ja _)
 obtain⟨p16,hp16⟩:=exE (up 0 n4);obtain⟨t16,r16⟩:∃t,S5.row p16= .cells t [.int .i64 N.kind,ofL N.name,nv,kv]:=⟨_,by rw[hS5,hp16];simp only[XZ,simprocAttr,hn4];rfl⟩
 rw[<-hp16];clear hS5;rw[Jb];simp only[XY,simprocAttr,r16];refine Jd (idxR (x1.gr G5) hno1 hno2) ?_;rintro _ _ ⟨rfl,rfl⟩;have hneg:(-1:Int)<0:=by omega
 have G05:=(G02.trans G4).trans G5;by_cases h7:N.kind=7
 ·simp only[XZ,simprocAttr,r16,h7,hneg];exact fin _ _ (fun r e=>G05.same r e) fun _=>rfl
 ·simp only[XZ,simprocAttr,r16,h7];exact fin _ _ (fun r e=>G05.same r e) fun _=>rfl
theorem Jsw {W F:Pt->Prop}{S:St}{rt rq:Pt}{tb:Tb}{id o:Nat}{tq:Nat}{l:List V}(hw:WF S)(hT:Tab W F S rt tb)(ho:Kh tb (tb.nodes.length+1) id=(o,true))(hol:o<tb.nodes.length)(hno:YP tb)(hq:S.row rq= .cells tq (ofL Qf::l))(hl:l.length=2):
  Does (tabT tabD) 112 [envE id, .ptr rt 0, .agg (Q3 rq)] S fun v S'=>Gr S S'/\v= .tup [.int .i64 0, .int .i64 16]:=by
 refine Ju tabM (aT Tryz.func112 rfl) rfl hw fun K fin=> ?_;obtain⟨n0,hn0⟩:=nxE S;simp only[CT,Tryz.f112,XY,simprocAttr];rw[Jb];simp only[XY,simprocAttr,hn0];refine Js ?_;intro S1 hS1;have G1:Gr S S1:=by rw[hS1];exact(Gr.new hw (Ja _)).nn (Ja _)
 obtain⟨p3,hp3⟩:=exE (up 0 n0);obtain⟨p5,hp5⟩:=exE (up 1 n0);obtain⟨t3,r3⟩:∃t,S1.row p3= .cells t [.int .i64 (id:Nat), .snil, .snil]:=⟨_,by rw[hS1,hp3];simp only[XZ,simprocAttr,hn0];rfl⟩
 obtain⟨t5,r5⟩:∃t,S1.row p5= .cells t (Q3 rq):=⟨_,by rw[hS1,hp5];simp only[XZ,simprocAttr,hn0];rfl⟩
 rw[<-hp3,<-hp5];clear hS1;simp only[XZ,simprocAttr,r3,r5];refine Jd (Jsv G1.wf (hT.gr G1) ho hol hno (G1.cells hq) hl) ?_;rintro _ S2 ⟨G2,rfl⟩;simp only[XZ,simprocAttr];exact fin _ _ (fun r e=>(G1.trans G2).same r e) fun _=>rfl
theorem ofR {W F:Pt->Prop}{S:St}{rt rp rc rq:Pt}{tb:Tb}{id o:Nat}{tp tc tq:Nat}{l:List V}(hw:WF S)(hT:Tab W F S rt tb)(ho:Kh tb (tb.nodes.length+1) id=(o,true))(hol:o<tb.nodes.length)(hno:YP tb)(hp:S.row rp= .cells tp [.slx rc 0 1 7 1])(hc:S.row rc= .cells tc (Q3 rq))(hq:S.row rq= .cells tq (ofL Qf::l))(hl:l.length=2):
  Does (tabT tabD) 87 [.ptr rt 0,envE id, .slx rp 0 1 1 1] S fun v S'=>Gr S S'/\v= .tup [.int .i64 0, .int .i64 16]:=by
 refine Ju tabM (aT Tryz.func87 rfl) rfl hw fun K fin=> ?_;obtain⟨n0,hn0⟩:=nxE S;simp only[CT,Tryz.f87,XY,simprocAttr];rw[Jb];simp only[XY,simprocAttr,hn0];refine Js ?_;intro S1 hS1;have G1:Gr S S1:=by rw[hS1];exact Gr.new hw (Ja _)
 obtain⟨p4,hp4⟩:=exE (up 0 n0);obtain⟨t4,r4⟩:∃t,S1.row p4= .cells t [.int .i64 (id:Nat), .snil, .snil]:=⟨_,by rw[hS1,hp4];simp only[XZ,simprocAttr,hn0];rfl⟩
 rw[<-hp4];clear hS1;have l1:Kf (.slx rp 0 1 1 1)=some (.int .i64 1, .no):=rfl;rw[Jb];simp only[XY,simprocAttr];rw[Je,Jb];simp only[XY,simprocAttr,l1];obtain⟨L,hL⟩:=loE fun j fr S'=>j=0/\S'=S1/\fr 0= .ptr rt 0/\fr 4= .ptr p4 0/\fr 8= .snil/\fr 13= .slx rp 0 1 1 1/\fr 14= .int .i64 1/\fr 15= .int .i64 0;refine Jn L 0 (by omega) ((hL _ _ _).2 ⟨rfl,rfl,rfl,rfl,rfl,rfl,rfl,rfl⟩) ?_;intro j fr S2 hLj;obtain⟨rfl,rfl,f0,f4,f8,f13,f14,f15⟩:=(hL _ _ _).1 hLj;have hi':(0:Int)<1:=by omega
 have h12:=G1.cells hp;have h22:=G1.cells hc;obtain⟨n1,hn1⟩:=nxE S2;rw[Jb];simp only[XY,simprocAttr,f14,f15,hi'];rw[Je];simp only[XY,simprocAttr];rw[Je];simp only[XY,simprocAttr];rw[Jb];simp only[XY,simprocAttr,f13,f15,h12,hn1];refine Js ?_;intro S3 hS3;have w2:=G1.wf;have G3:Gr S2 S3:=by rw[hS3];exact(Gr.refl w2).nw hn1 (Ja _) (Ja _)
 obtain⟨p10,hp10⟩:=exE (up 0 n1);obtain⟨t10,r10⟩:∃t,S3.row p10= .cells t [.slx rc 0 1 7 1]:=⟨_,by rw[hS3,hp10];simp only[XZ,simprocAttr,hn1];rfl⟩
 rw[<-hp10];clear hS3;have G13:=G1.trans G3;have h23:=G3.cells h22;have r43:=G3.cells r4;have l2:Kf (.slx rc 0 1 7 1)=some (.int .i64 1, .no):=rfl;have i2:JJ 7 (.slx rc 0 1 7 1) (.int .i64 0)=some (.ptr rc 0, .no):=rfl;rw[Jb];simp only[XY,simprocAttr];rw[Jb];simp only[XY,simprocAttr];rw[Je];simp only[XY,simprocAttr];rw[Jb];simp only[XY,simprocAttr,r10,l2];rw[Jb];simp only[XY,simprocAttr,r10,i2,h23];rw[Jb];simp only[XY,simprocAttr,f0,f4,r43,r10,i2,h23];refine Ji (P:=fun v _=>v= .tup [.int .i64 0, .int .i64 16]) (Jsw (JD G3.wf _) ((hT.gr G13).keep fun r _ _=>rfl) ho hol hno (G13.cells hq) hl) ?_;rintro _ S4 G4 rfl;simp only[XZ,simprocAttr];exact fin _ _ (fun r e=>(G13.trans G4).same r e) fun _=>rfl
theorem atG {S1 S:St}{s:Sch}{tb:Tb}{ru:Pt}{id o:Nat}(hD:RD S1 S s tb ru)(ho:Kh tb (tb.nodes.length+1) id=(o,true))(hol:o<tb.nodes.length):
  Does (tabT tabD) 124 [.ptr ru 0, .int .i64 (id:Nat)] S fun v S'=>Gr S S'/\∃nv kv,v= .agg [.int .i64 tb.nodes[o].kind,ofL tb.nodes[o].name,nv,kv]/\SlAt (fun _=>True) S' nv 1 (strs tb.nodes[o].names)/\One nv/\One kv:=by
 obtain⟨lv,tv,dv,nv,kv,sv,tyv,O,tr,ids,N,hids,hty⟩:=hD.ex;have hw:=N.rt.g.wf;refine Ju tabM (aT Tryz.func124 rfl) rfl hw fun K fin=> ?_;obtain⟨t,hc⟩:=N.rt.cell;obtain⟨es,l1,l2,l3⟩:=N.rt.l;obtain⟨n0,hn0⟩:=nxE S;simp only[CT,Tryz.f124,XY,simprocAttr];rw[Jb];simp only[XY,simprocAttr,hn0];refine Js ?_;intro S2 hS2;have G2:Gr S S2:=by rw[hS2];exact Gr.new hw (Ja _)
 obtain⟨p4,hp4⟩:=exE (up 0 n0);obtain⟨t4,r4⟩:∃t,S2.row p4= .cells t [.int .i64 0,ofL [], .snil, .snil]:=⟨_,by rw[hS2,hp4];simp only[XZ,simprocAttr,hn0];rfl⟩
 have p4n:S.row p4= .none:=by rw[hp4];exact nx0 hw hn0 0
 rw[<-hp4];clear hS2;rw[Jb];simp only[XY,simprocAttr];refine Jd (Jrz (hD.fz G2) ho) ?_;rintro _ _ ⟨rfl,rfl⟩;have hc2:=G2.cells hc;obtain⟨r,q,a1,_,_,a4,_⟩:=(l1.gr G2).at.elem (i:=o) (by omega);obtain⟨xv,yv,he,y1,y2⟩:=l3 o (by omega) hol;rw[he]at a4;have c1:=y1.cells;have c2:=y1.sc;have c3:=y2.cells;have c4:=y2.sc;simp only[XY,simprocAttr];rw[Jb];simp only[XZ,simprocAttr,hc2,a1,a4,r4,c1,c2,c3,c4];have g3:∀r,r≠p4->(S2.wr p4 t4 fun u=>Row.cells u [.int .i64 tb.nodes[o].kind,ofL tb.nodes[o].name,xv,yv]).row r=S2.row r:=fun r e=>by rw[Jk,if_neg e]
 refine fin _ _ (fun r e=>by rw[g3 r fun c=>e (by rw[c];exact p4n),G2.same r e]) fun _=>⟨xv,yv,rfl, ?_,One.of c2,One.of c4⟩
 exact(y1.gr G2).imp fun r p e=>⟨trivial,g3 r fun c=>by
  have:=(N.rt.o r p).1;rw[c]at this;exact this p4n⟩
theorem kidN {S:St}{k:Int}{nm:Str}{nv kv:V}{ns:List Str}(hw:WF S)(h:SlAt (fun _=>True) S nv 1 (strs ns))(h1:One nv)(h2:One kv)(hn:Qf∉ns)(hl:ns.length<1000):
  Does (tabT tabD) 180 [.agg [.int .i64 k,ofL nm,nv,kv],ofL Qf] S fun v S'=>Gr S S'/\v= .tup [.int .i64 0, .bool false]:=by
 refine Ju tabM (aT Tryz.func180 rfl) rfl hw fun K fin=> ?_;obtain⟨n0,hn0⟩:=nxE S;simp only[CT,Tryz.f180,XY,simprocAttr];rw[Jb];simp only[XY,simprocAttr,hn0,h1.1,h1.2,h2.1,h2.2];refine Js ?_;intro S2 hS2;have G2:Gr S S2:=by rw[hS2];exact Gr.new hw (Ja _)
 obtain⟨p2,hp2⟩:=exE (up 0 n0);obtain⟨t2,r2⟩:∃t,S2.row p2= .cells t [.int .i64 k,ofL nm,nv,kv]:=⟨_,by rw[hS2,hp2];simp only[XZ,simprocAttr,hn0];rfl⟩
 rw[<-hp2];clear hS2;have hlen:=h.len;rw[JW]at hlen;rw[Je,Jb];simp only[XY,simprocAttr];obtain⟨L,hL⟩:=loE fun j fr S'=>∃i:Nat,j+i=ns.length/\fr 1=ofL Qf/\fr 2= .ptr p2 0/\fr 6= .int .i64 (i:Nat)/\S'=S2;refine Jn L ns.length (by omega) ((hL _ _ _).2 ⟨0,by omega,rfl,rfl,by simp only[XZ,simprocAttr]<;>rfl,rfl⟩) ?_;intro j fr S' hLj;obtain⟨i,hj,f1,f2,f6,rfl⟩:=(hL _ _ _).1 hLj;by_cases hi:i<ns.length
 ·have hi':(i:Int)<ns.length:=by omega
  have hadd1:IntKind.i64.wrap ((i:Int)+1)=((i+1:Nat):Int):=by rw[Jo (by omega) (by omega)];rfl
  obtain⟨r,o,a1,a4⟩:=Jac (h.gr G2) hi;have hne:¬ns[i]=Qf:=fun e=>hn (by rw[<-e];exact List.getElem_mem hi);simp only[XZ,simprocAttr,f1,f2,f6,r2,hlen,hi',a1,a4,hne,hadd1];exact⟨ns.length-(i+1),by omega,(hL _ _ _).2 ⟨i+1,by omega,f1,f2,rfl,rfl⟩⟩
 ·have hi':¬(i:Int)<ns.length:=by omega
  simp only[XZ,simprocAttr,f2,f6,r2,hlen,hi'];exact fin _ _ (fun r e=>G2.same r e) fun _=>rfl
theorem Jsx {S:St}(hw:WF S)(id:Nat):Does (tabT tabD) 155 [envE id,ofL []] S fun v S'=>Gr S S'/\v= .int .i64 (-1):=by
 refine Ju tabM (aT Tryz.func155 rfl) rfl hw fun K fin=> ?_;obtain⟨n0,hn0⟩:=nxE S;simp only[CT,Tryz.f155,XZ,simprocAttr,hn0];exact fin _ _ (fun r e=>(Gr.new hw (Ja _)).same r e) fun _=>rfl
theorem JrC {S1 S:St}{s:Sch}{tb:Tb}{ru rq:Pt}{id o:Nat}{tq:Nat}{l:List V}(hD:RD S1 S s tb ru)(ho:Kh tb (tb.nodes.length+1) id=(o,true))(hol:o<tb.nodes.length)(hno:YP tb)(hq:S.row rq= .cells tq (ofL Qf::l))(hl:l.length=2):
  Does (tabT tabD) 175 [.ptr ru 0,envE id, .agg (Q3 rq)] S fun v S'=>Gr S S'/\v= .tup [.int .i64 0, .int .i64 16]:=by
 have hw:WF S:=by
  obtain⟨lv,tv,dv,nv,kv,sv,tyv,O,tr,ids,N,_⟩:=hD.ex;exact N.rt.g.wf
 refine Ju tabM (aT Tryz.func175 rfl) rfl hw fun K fin=> ?_;obtain⟨n0,hn0⟩:=nxE S;have l3:Kf (.sl rq 0 3 1)=some (.int .i64 3, .no):=rfl;have l0:Kf .snil=some (.int .i64 0, .no):=rfl;have i0:JJ 1 (.sl rq 0 3 1) (.int .i64 0)=some (.ptr rq 0, .no):=rfl;simp only[CT,Tryz.f175,XY,simprocAttr];rw[Jb];simp only[XY,simprocAttr,hn0];refine Js ?_;intro S2 hS2;have G2:Gr S S2:=by rw[hS2];exact(Gr.new hw (Ja _)).nn (Ja _)
 obtain⟨p4,hp4⟩:=exE (up 0 n0);obtain⟨p5,hp5⟩:=exE (up 1 n0);obtain⟨t4,r4⟩:∃t,S2.row p4= .cells t [.int .i64 (id:Nat), .snil, .snil]:=⟨_,by rw[hS2,hp4];simp only[XZ,simprocAttr,hn0];rfl⟩
 obtain⟨t5,r5⟩:∃t,S2.row p5= .cells t (Q3 rq):=⟨_,by rw[hS2,hp5];simp only[XZ,simprocAttr,hn0];rfl⟩
 rw[<-hp4,<-hp5];clear hS2;rw[Jb];simp only[XY,simprocAttr,r4,r5];refine Jd (Jsx G2.wf id) ?_;rintro _ S3 ⟨G3,rfl⟩;have r43:=G3.cells r4;have r53:=G3.cells r5;have G03:=G2.trans G3;have m1:¬(-1:Int)< -1:=by omega
 have m2:¬(0:Int)<= -1:=by omega
 have n00:¬(0:Int)<0:=by omega
 simp only[XY,simprocAttr];rw[Je,Jb];simp only[XY,simprocAttr,m1];rw[Jb];simp only[XY,simprocAttr,r43];rw[Je,Jb];simp only[XY,simprocAttr,m2];rw[Jb];simp only[XY,simprocAttr];rw[Je,Jb];simp only[XY,simprocAttr];obtain⟨L,hL⟩:=loE fun j fr S'=>∃i:Nat,j+i=4/\fr 0= .ptr ru 0/\fr 4= .ptr p4 0/\fr 5= .ptr p5 0/\fr 9= .int .i64 (id:Nat)/\fr 10= .int .i64 0/\fr 11= .int .i64 (i:Nat)/\S'=S3;refine Jn L 4 (by omega) ((hL _ _ _).2 ⟨0,by omega,rfl,rfl,rfl,rfl,rfl,by simp only[XZ,simprocAttr]<;>rfl,rfl⟩) ?_;intro j fr S' hLj;obtain⟨i,hj,f0,f4,f5,f9,f10,f11,rfl⟩:=(hL _ _ _).1 hLj;by_cases hi:i<4
 ·have hi':(i:Int)<=3:=by omega
  have hadd1:IntKind.i64.wrap ((i:Int)+1)=((i+1:Nat):Int):=by rw[Jo (by omega) (by omega)];rfl
  rw[Je,Jb];simp only[XY,simprocAttr,f5,f11,r53,l3,hi'];rw[Je];simp only[XY,simprocAttr];rw[Jb];simp only[XY,simprocAttr];refine YY (by omega) ?_;simp only[XZ,simprocAttr,f4,r43,l0,n00,f11,hadd1];exact⟨4-(i+1),by omega,(hL _ _ _).2 ⟨i+1,by omega,f0,f4,f5,f9,f10,rfl,rfl⟩⟩
 have hi':¬(i:Int)<=3:=by omega
 have h03:(0:Int)<3:=by omega
 have hq3:=G03.cells hq;have ld0:ld1 (S'.row rq) 0=some (ofL Qf, .no):=by rw[hq3];rfl
 rw[Je,Jb];simp only[XY,simprocAttr,f5,f11,r53,l3,hi'];rw[Je,Jb];simp only[XY,simprocAttr,f10];refine YY (by omega) ?_;rw[Je,Jb];simp only[XY,simprocAttr,f5,r53,l3,h03];rw[Je];simp only[XY,simprocAttr];rw[Jb];simp only[XY,simprocAttr,f0,f9];refine Jd (atG (hD.fz G03) ho hol) ?_;rintro _ S4 ⟨G4,nv,kv,rfl,hnv,⟨s1,c1⟩,⟨s2,c2⟩⟩;obtain⟨hno1,hno2⟩:=hno _ (List.getElem_mem hol);obtain⟨N,hN⟩:=exE (tb.nodes[o]);rw[<-hN]at hnv hno1 hno2⊢;obtain⟨n4,hn4⟩:=nxE S4;simp only[XY,simprocAttr,hn4,s1,c1,s2,c2];refine Js ?_;intro S5 hS5;have G5:Gr S4 S5:=by rw[hS5];exact(Gr.refl G4.wf).nw hn4 (Ja _) (Ja _)
 obtain⟨p14,hp14⟩:=exE (up 0 n4);obtain⟨t14,r14⟩:∃t,S5.row p14= .cells t [.int .i64 N.kind,ofL N.name,nv,kv]:=⟨_,by rw[hS5,hp14];simp only[XZ,simprocAttr,hn4];rfl⟩
 rw[<-hp14];clear hS5;have G45:=G4.trans G5;have r55:=G45.cells r53;have ld5:ld1 (S5.row rq) 0=some (ofL Qf, .no):=by rw[G45.cells hq3];rfl
 rw[Jb];simp only[XY,simprocAttr,f5,r14,r55,i0,ld5];refine Ji (P:=fun v _=>v= .tup [.int .i64 0, .bool false]) (kidN (JD G5.wf _) ((hnv.gr G5).low _) ⟨s1,c1⟩ ⟨s2,c2⟩ hno1 hno2) ?_;rintro _ S6 G6 rfl;have r146:=G6.cells r14;have G06:=(G03.trans G45).trans G6;by_cases h7:N.kind=7
 ·simp only[XZ,simprocAttr,r146,h7];exact fin _ _ (fun r e=>G06.same r e) fun _=>rfl
 ·simp only[XZ,simprocAttr,r146,h7];exact fin _ _ (fun r e=>G06.same r e) fun _=>rfl
theorem JrD {S1 S:St}{s:Sch}{tb:Tb}{ru rq:Pt}{id o:Nat}{tq:Nat}{l:List V}(hD:RD S1 S s tb ru)(ho:Kh tb (tb.nodes.length+1) id=(o,true))(hol:o<tb.nodes.length)(hno:YP tb)(hq:S.row rq= .cells tq (ofL Qf::l))(hl:l.length=2):
  Does (tabT tabD) 153 [.ptr ru 0,envE id, .agg (Q3 rq)] S fun v S'=>Gr S S'/\v= .tup [.int .i64 0, .int .i64 16]:=by
 have hw:WF S:=by
  obtain⟨lv,tv,dv,nv,kv,sv,tyv,O,tr,ids,N,_⟩:=hD.ex;exact N.rt.g.wf
 refine Ju tabM (aT Tryz.func153 rfl) rfl hw fun K fin=> ?_;obtain⟨n0,hn0⟩:=nxE S;simp only[CT,Tryz.f153,XY,simprocAttr];rw[Jb];simp only[XY,simprocAttr,hn0];refine Js ?_;intro S2 hS2;have G1:Gr S S2:=by rw[hS2];exact(Gr.new hw (Ja _)).nn (Ja _)
 obtain⟨p4,hp4⟩:=exE (up 0 n0);obtain⟨p5,hp5⟩:=exE (up 1 n0);obtain⟨t4,r4⟩:∃t,S2.row p4= .cells t [.int .i64 (id:Nat), .snil, .snil]:=⟨_,by rw[hS2,hp4];simp only[XZ,simprocAttr,hn0];rfl⟩
 obtain⟨t5,r5⟩:∃t,S2.row p5= .cells t (Q3 rq):=⟨_,by rw[hS2,hp5];simp only[XZ,simprocAttr,hn0];rfl⟩
 rw[<-hp4,<-hp5];clear hS2;simp only[XZ,simprocAttr,r4,r5];refine Jd (JrC (hD.fz G1) ho hol hno (G1.cells hq) hl) ?_;rintro _ S3 ⟨G2,rfl⟩;simp only[XZ,simprocAttr];exact fin _ _ (fun r e=>(G1.trans G2).same r e) fun _=>rfl
theorem RD.low {S1 S:St}{s:Sch}{tb:Tb}{ru:Pt}(h:RD S1 S s tb ru)(b:Nat):RD {S1 with low:=b} {S with low:=b} s tb ru:=by
 obtain⟨lv,tv,dv,nv,kv,sv,tyv,O,tr,ids,N,a,c⟩:=h.ex;have q:=N.rt;have g:Gr {S1 with low:=b} {S with low:=b}:=⟨⟨JD q.g.wf b,q.g.mono.t,q.g.mono.nx,q.g.mono.row,Nat.le_refl _,fun r e1 e2=>absurd (q.g.same r e1) e2,q.g.mono.born⟩,q.g.same,fun _=>rfl⟩
 exact⟨⟨lv,tv,dv,nv,kv,sv,tyv,O,tr,ids,⟨⟨g,q.ru0,q.cell,q.l,q.t.imp fun es ⟨a,b,d⟩=>⟨a,b,fun i x y=>(d i x y).imp fun r p _=>⟨p,rfl⟩⟩,q.apl,q.apt,q.o⟩,N.t,N.d,N.dn,N.len,N.at_⟩,a,c.imp (fun _ _ x=>x.imp fun r p _=>⟨p,rfl⟩) fun r p _=>⟨p,rfl⟩⟩,h.of⟩
theorem rofN {S1 S:St}{s:Sch}{tb:Tb}{ru rp rc rq:Pt}{id o:Nat}{tp tc tq:Nat}{l:List V}(hD:RD S1 S s tb ru)(ho:Kh tb (tb.nodes.length+1) id=(o,true))(hol:o<tb.nodes.length)(hno:YP tb)(hp:S.row rp= .cells tp [.slx rc 0 1 7 1])(hc:S.row rc= .cells tc (Q3 rq))(hq:S.row rq= .cells tq (ofL Qf::l))(hl:l.length=2):
  Does (tabT tabD) 120 [.ptr ru 0,envE id, .slx rp 0 1 1 1] S fun v S'=>Gr S S'/\v= .tup [.int .i64 0, .int .i64 16]:=by
 have hw:WF S:=by
  obtain⟨lv,tv,dv,nv,kv,sv,tyv,O,tr,ids,N,_⟩:=hD.ex;exact N.rt.g.wf
 refine Ju tabM (aT Tryz.func120 rfl) rfl hw fun K fin=> ?_;obtain⟨n0,hn0⟩:=nxE S;simp only[CT,Tryz.f120,XY,simprocAttr];rw[Jb];simp only[XY,simprocAttr,hn0];refine Js ?_;intro S2 hS2;have G1:Gr S S2:=by rw[hS2];exact Gr.new hw (Ja _)
 obtain⟨p4,hp4⟩:=exE (up 0 n0);obtain⟨t4,r4⟩:∃t,S2.row p4= .cells t [.int .i64 (id:Nat), .snil, .snil]:=⟨_,by rw[hS2,hp4];simp only[XZ,simprocAttr,hn0];rfl⟩
 rw[<-hp4];clear hS2;have l1:Kf (.slx rp 0 1 1 1)=some (.int .i64 1, .no):=rfl;have i1:JJ 1 (.slx rp 0 1 1 1) (.int .i64 0)=some (.ptr rp 0, .no):=rfl;have i2:JJ 7 (.slx rc 0 1 7 1) (.int .i64 0)=some (.ptr rc 0, .no):=rfl;have hp2:ld1 (S2.row rp) 0=some (.slx rc 0 1 7 1, .no):=by rw[G1.cells hp];rfl
 have hc2:=G1.cells hc;have h01:(0:Int)<1:=by omega
 rw[Jb];simp only[XY,simprocAttr];rw[Je,Jb];simp only[XY,simprocAttr];obtain⟨L,hL⟩:=loE fun j fr S'=>j=0/\S'=S2/\fr 0= .ptr ru 0/\fr 2= .slx rp 0 1 1 1/\fr 4= .ptr p4 0/\fr 8= .int .i64 0/\fr 9= .int .i64 0;refine Jn L 0 (by omega) ((hL _ _ _).2 ⟨rfl,rfl,rfl,rfl,rfl,rfl,rfl⟩) ?_;intro j fr S3 hLj;obtain⟨rfl,rfl,f0,f2,f4,f8,f9⟩:=(hL _ _ _).1 hLj;have hd:ldn (S3.row rc) 0 7=some (.agg (Q3 rq), .no):=by rw[hc2];rfl
 have hd1:ld1 (S3.row rc) 0=some (.int .i64 1, .no):=by rw[hc2];rfl
 rw[Je,Jb];simp only[XY,simprocAttr,f2,f9,l1,h01];rw[Je];simp only[XY,simprocAttr];rw[Jb];simp only[XY,simprocAttr,f2,f9,i1,hp2];rw[Je,Jb];simp only[XY,simprocAttr,i2,hd1];rw[Jb];simp only[XY,simprocAttr,f0,f4,r4,i2,hd];refine Ji (P:=fun v _=>v= .tup [.int .i64 0, .int .i64 16]) (JrD ((hD.fz G1).low _) ho hol hno (G1.cells hq) hl) ?_;rintro _ S4 G4 rfl;simp only[XZ,simprocAttr];exact fin _ _ (fun r e=>(G1.trans G4).same r e) fun _=>rfl
def tmE (x:Str×V):List V:=[ofL x.1,x.2]
theorem _root_.Eva.Fz.trans {a b c:St}(h:Fz a b)(k:Fz b c):Fz a c:=Fz.more (h.low c.low) k.gr
theorem Jad {α:Type}[DecidableEq α]:∀(l acc:List α),∃t,dedS acc l=acc++t/\(∀y∈t,y∈l)/\t.length<=l.length
 |[],acc=>⟨[],by simp[dedS],by simp,Nat.le_refl _⟩
 | x::r,acc=>by
   by_cases h:x∈acc
   ·obtain⟨t,a,b,c⟩:=Jad r acc;exact⟨t,by rw[dedS,if_pos h,a],fun y hy=>List.mem_cons_of_mem _ (b y hy),Nat.le_succ_of_le c⟩
   ·obtain⟨t,a,b,c⟩:=Jad r (acc++[x]);refine⟨x::t,by rw[dedS,if_neg h,a];simp,fun y hy=> ?_,Nat.succ_le_succ c⟩;rcases List.mem_cons.1 hy with rfl|hy
    ·exact List.mem_cons_self ..
    ·exact List.mem_cons_of_mem _ (b y hy)
theorem _root_.Eva.CntAt.le {S:St}{r:Pt}{ps:List (Str×Nat)}{m m':Nat}(h:CntAt S r ps m)(l:m<=m'):CntAt S r ps m':=by
 obtain⟨es,a,b,c⟩:=h;exact⟨es,a,fun p hp=>by obtain⟨x,e,f,g⟩:=b p hp;exact⟨x,e,f,Nat.le_trans g l⟩,c⟩
def JoG (r:BdR)(S':St)(v:V)(S'':St):Prop:=Fz S' S''/\match r with
 | .inl (e,a)=>∃cv,v= .tup [cv, .int .i64 a, .int .i64 e]/\cv.sc=true
 | .inr cl=>∃cv,v= .tup [cv, .int .i64 0, .int .i64 0]/\SlF S' S'' cv 2 (cl.map clE)
def ChkQ (P:St->St->V->Prop)(S S':St)(R:(Int×Str×Int)⊕List Pr)(v:V):Prop:=match R with
 | .inl (e,nm,a)=>v= .tup [.pnil, .agg [.int .i64 e,ofL nm, .int .i64 a]]
 | .inr D=>∃r S0 y0 y1 y2 y3 y4 y5 tv tb pv,v= .tup [.ptr r 0, .agg [.int .i64 0,ofL [], .int .i64 0]]/\(∃t,S'.row r= .cells t [y0,y1,y2,y3,y4,y5,tv,tb,pv])/\Fz S S0/\P S0 S' tb/\SlF S S' pv 2 (D.map clE)
def nmE (x:Str×V):List V:=[ofL x.1]
theorem SlF.fz {S0 S S':St}{v:V}{z:Nat}{es:List (List V)}(h:SlF S0 S v z es)(g:∀r,S.row r≠ .none->S'.row r=S.row r):SlF S0 S' v z es:=h.keep fun r hr=>g r (h.some hr)
theorem JrE {S:St}{x0 x1 x2 x3 x4 x5 lv:V}{ts:List (Str×V)}{P:St->St->V->Prop}{m0 js c0:Nat}{G:Pr->Prop}{B:Pr->BdR}{R:(Int×Str×Int)⊕List Pr}(hw:WF S)
  (hx:One x0/\One x1/\One x2/\One x3/\One x4/\One x5) (hlv:One lv)
  (hl:SlAt (fun r=>S.row r≠ .none) S lv 2 (ts.map tmE)) (hts:∀i (h:i<ts.length),at_ ts[i].1 (ts.take i)=none) (htl:ts.length<1000) (ht2:2<=ts.length) (ht1:∀x∈ts,One x.2)
  (hPk:∀{S0 S1 S2 tb},P S0 S1 tb->Fz S1 S2->P S0 S2 tb)
  (hPs:∀{S0 S1 S2 tb},P S0 S1 tb->WF S2->Smc S1 S2->P S0 S2 tb)
  (hPo:∀{S0 S1 tb},P S0 S1 tb->One tb)
  (hNew:∀S',Fz S S'->Does (tabT tabD) 21 [.agg [x0,x1,x2,x3,x4,x5]] S' fun v S''=>Gr S' S''/\∃tb,v= .tup [tb, .int .i64 0]/\P S' S'' tb)
  (hSch:∀S',Fz S S'->Does (tabT tabD) 22 [.agg [x0,x1,x2,x3,x4,x5]] S' fun v S''=>Gr S' S''/\∃y0 y1 y2 y3 y4 y5,v= .agg [y0,y1,y2,y3,y4,y5]/\One y0/\One y1/\One y2/\One y3/\One y4/\One y5)
  (hTpl:∀S',Fz S S'->Does (tabT tabD) 23 [lv] S' fun v S''=>Gr S' S''/\One v)
  (hMain:∀S0 S' tb,P S0 S' tb->Does (tabT tabD) 24 [tb] S' fun v S''=>Gr S' S''/\v= .int .i64 (m0:Nat))
  (hR:RunS G B js c0 0 [([],m0)] R) (hc0:c0<500000) (hjs:js<1000000)
  (hB:∀x,G x->∃bv,at_ x.1 ts=some bv/\One bv/\∀S0 SN S' tb q,Fz S S'->P S0 SN tb->Fz SN S'->SN.row q= .none->S.row q= .none->(∃t,S'.row q= .cells t (((ts.drop 1).map (·.1)).map ofL))->Does (tabT tabD) 25 [tb, .sl q 0 (ts.drop 1).length 1, .int .i64 (x.2:Nat),bv] S' (JoG (B x) S')):
  Does (tabT tabD) 9 [.agg [x0,x1,x2,x3,x4,x5],lv] S fun v S'=>Gr S S'/\ChkQ P S S' R v:=by
 refine Ju tabM (aT Tryz.func9 rfl) rfl hw fun K fin=> ?_;obtain⟨⟨sx0,cx0⟩,⟨sx1,cx1⟩,⟨sx2,cx2⟩,⟨sx3,cx3⟩,⟨sx4,cx4⟩,⟨sx5,cx5⟩⟩:=hx;have lh:=hl.len;rw[List.length_map]at lh;obtain⟨n0,hn0⟩:=nxE S;simp only[CT,Tryz.f9,XY,simprocAttr];rw[Jb];simp only[XY,simprocAttr,hn0,sx0,sx1,sx2,sx3,sx4,sx5,cx0,cx1,cx2,cx3,cx4,cx5];refine Js ?_;intro S1 hS1;have G1:Gr S S1:=by rw[hS1];exact(Gr.new hw (Ja _)).nn (Ja _)
 obtain⟨p2,hp2⟩:=exE (up 0 n0);obtain⟨p5,hp5⟩:=exE (up 1 n0);obtain⟨t2,r2⟩:∃t,S1.row p2= .cells t [x0,x1,x2,x3,x4,x5]:=⟨_,by rw[hS1,hp2];simp only[XZ,simprocAttr,hn0];rfl⟩
 obtain⟨t5,r5⟩:∃t,S1.row p5= .cells t [.int .i64 0,ofL [], .int .i64 0]:=⟨_,by rw[hS1,hp5];simp only[XZ,simprocAttr,hn0];rfl⟩
 have p5n:S.row p5= .none:=by rw[hp5];exact nx0 hw hn0 1
 rw[<-hp2,<-hp5];clear hS1;rw[Jb];simp only[XY,simprocAttr,r2];refine Jd (hNew _ (Fz.ofGr G1)) ?_;rintro _ SN ⟨GN,tb,rfl,hPN⟩;have r2N:=GN.cells r2;have r5N:=GN.cells r5;have L1:=G1.trans GN;have otb:=(hPo hPN).2;have stb:=(hPo hPN).1;simp only[XY,simprocAttr];rw[Je,Jb];simp only[XY,simprocAttr,stb,otb];rw[Jb];simp only[XY,simprocAttr,r2N];refine Jd (hSch _ (Fz.ofGr L1)) ?_;rintro _ S2 ⟨G2,y0,y1,y2,y3,y4,y5,rfl,⟨sy0,cy0⟩,⟨sy1,cy1⟩,⟨sy2,cy2⟩,⟨sy3,cy3⟩,⟨sy4,cy4⟩,⟨sy5,cy5⟩⟩;simp only[XY,simprocAttr];refine Jd (hTpl _ (Fz.ofGr (L1.trans G2))) ?_;rintro tv S3 ⟨G3,⟨stv,ctv⟩⟩;simp only[XY,simprocAttr];refine Jd (hMain _ _ _ (hPk hPN (Fz.ofGr (G2.trans G3)))) ?_;rintro _ S4 ⟨G4,rfl⟩;have GN4:=(G2.trans G3).trans G4;obtain⟨n4,hn4⟩:=nxE S4;simp only[XY,simprocAttr,stb,otb,stv,ctv,sy0,cy0,sy1,cy1,sy2,cy2,sy3,cy3,sy4,cy4,sy5,cy5,hn4];rw[Jb];simp only[XY,simprocAttr,hn4];rw[Jb];simp only[XY,simprocAttr];refine Js ?_;intro S5 hS5;have G5:Gr S4 S5:=by rw[hS5];exact((Gr.new GN4.wf (Ja _)).nn (Ja _)).nn (K1 _)
 obtain⟨q0,hq0⟩:=exE (up 0 n4);obtain⟨ps,hps⟩:=exE (up 1 n4);obtain⟨rb,hrb⟩:=exE (up 2 n4);obtain⟨tq,rq5⟩:∃t,S5.row q0= .cells t [ofL [], .int .i64 (m0:Nat)]:=⟨_,by rw[hS5,hq0];simp only[XZ,simprocAttr,hn4];rfl⟩
 obtain⟨tp,rp5⟩:∃t,S5.row ps= .cells t [y0,y1,y2,y3,y4,y5,tv,tb, .slx q0 0 1 2 1]:=⟨_,by rw[hS5,hps,hq0];simp only[XZ,simprocAttr,hn4];rfl⟩
 obtain⟨tm,rb5⟩:∃t,S5.row rb= .mob t []:=⟨_,by rw[hS5,hrb];simp only[XZ,simprocAttr,hn4];rfl⟩
 have e54:∀k,S4.row (up k n4)= .none:=fun k=>nx0 GN4.wf hn4 k;have SNn:∀r,S4.row r= .none->SN.row r= .none:=fun r e=>Classical.byContradiction fun c=>by
  rw[GN4.same r c]at e;exact c e
 have q0n:SN.row q0= .none:=SNn _ (by rw[hq0];exact e54 0);have psn:SN.row ps= .none:=SNn _ (by rw[hps];exact e54 1);have rbn:SN.row rb= .none:=SNn _ (by rw[hrb];exact e54 2);have qp:q0≠ps:=fun e=>by rw[e,rp5]at rq5;injection rq5 with _ rq5;cases rq5
 rw[<-hq0,<-hps,<-hrb];clear hS5;have L5:Fz SN S5:=Fz.ofGr (GN4.trans G5);rw[Je,Jb];simp only[XY,simprocAttr,lh];obtain⟨L,hL⟩:=loE fun j fr S'=>∃(i:Nat) (nv:V),j+i=ts.length/\fr 5= .ptr p5 0/\fr 6=tb/\fr 8= .ptr ps 0/\fr 9= .map rb/\fr 10=nv/\fr 44=lv/\fr 45= .int .i64 (ts.length:Nat)/\fr 46= .int .i64 i/\Fz SN S'/\(∃t,S'.row q0= .cells t [ofL [], .int .i64 (m0:Nat)])/\(∃t,S'.row ps= .cells t [y0,y1,y2,y3,y4,y5,tv,tb, .slx q0 0 1 2 1])/\QR S' rb ofL (ts.take i)/\SlF SN S' nv 1 (((ts.take i).drop 1).map nmE)/\((nv= .snil/\i<=1)\/∃q,nv= .sl q 0 ((ts.take i).drop 1).length 1)/\rowOf nv≠some q0/\rowOf nv≠some ps;refine Jn L ts.length (by omega) ((hL _ _ _).2 ⟨0, .snil,by omega,rfl,rfl,rfl,rfl,rfl,rfl,rfl,by simp only[XZ,simprocAttr]<;>rfl,L5,⟨_,rq5⟩,⟨_,rp5⟩,⟨tm,rb5⟩,SlF.nil _ _ _, .inl ⟨rfl,by omega⟩,(fun e=>by cases e),fun e=>by cases e⟩) ?_;clear rq5 rp5 rb5 L5;intro j fr S6 hLj;obtain⟨i,nv,hj,f5,f6,f8,f9,f10,f44,f45,f46,L6,⟨tq6,rq6⟩,⟨tp6,rp6⟩,hm6,hn6,hv6,nq6,np6⟩:=(hL _ _ _).1 hLj;by_cases hi:i<ts.length;rotate_left
 ·have hi':¬(i:Int)<ts.length:=by omega
  rw[Jb];simp only[XY,simprocAttr,f45,f46,hi'];rw[List.take_of_length_le (by omega)]at hm6 hn6 hv6;obtain⟨qn,rfl⟩:∃q,nv= .sl q 0 (ts.drop 1).length 1:=by
   rcases hv6 with⟨_,h⟩|h
   ·omega
   ·exact h
  obtain⟨tn6,rn6⟩:∃t,S6.row qn= .cells t (((ts.drop 1).map (·.1)).map ofL):=by
   obtain⟨_,t,c⟩:=hn6.row rfl;refine⟨t,c.trans ?_⟩;congr 1;clear c hn6 nq6 np6 hv6
   induction ts.drop 1 with
   |nil=>rfl
   |cons x r ih=>rw[List.map_cons,List.flatten_cons,ih];rfl
  have qnn:SN.row qn= .none:=(hn6.row rfl).1;have qnS:S.row qn= .none:=Classical.byContradiction fun c=>by rw[L1.same _ c]at qnn;exact c qnn
  have qnp:qn≠ps:=fun e=>np6 (by rw[e];rfl);have qn0:qn≠q0:=fun e=>nq6 (by rw[e];rfl);clear hn6 hv6 nq6 np6;have w6:=L6.wf;obtain⟨n6,hn6⟩:=nxE S6;have ow6:=fun r (h:S6.row r≠ .none) k=>nes (Jz w6 hn6 h k);have o1:=ow6 _ (Jc rp6);have o2:=ow6 _ (Jc rq6);obtain⟨A0,hA0⟩:∃A,A=S6.new fun t=> .mob t []:=⟨_,rfl⟩
  have hmu:JbA A0 (.many [.s, .i]) (.map (up 0 n6)) (.agg [ofL [], .int .i64 (m0:Nat)]) (.int .i64 1)=some (JR, .wr (up 0 n6) S6.t fun u=> .mob u ((Qy (([],m0):Str×Nat) (.int .i64 1) []).map fun p=>(encS p.1,p.2))):=by
   have h0:A0.row (up 0 n6)= .mob S6.t (([]:List ((Str×Nat)×V)).map fun p=>(encS p.1,p.2)):=by rw[hA0,<-hn6];exact JG _ _
   exact jd (enc:=encS) h0 ([],m0) (.int .i64 1) (fun p hp=>by cases hp) rfl
  rw[Je];simp only[XY,simprocAttr];rw[Jb];simp only[XY,simprocAttr,f8,hn6,o1,o2,rp6,rq6];rw[<-hA0,hmu];simp only[XY,simprocAttr];refine Js ?_;intro S7 hS7;obtain⟨rw_,hrw⟩:=exE (up 0 n6);rw[<-hrw];have rwn6:S6.row rw_= .none:=by rw[hrw];exact nx0 w6 hn6 0
  have GA:Gr S6 A0:=by rw[hA0];exact Gr.new w6 (K1 _)
  have rA0:A0.row (up 0 n6)= .mob S6.t []:=by rw[hA0,<-hn6];exact JG _ _
  have G7:Gr S6 S7:=by rw[hS7,<-hrw];exact GA.wr rwn6 (by rw[hrw,rA0];exact fun e=>by cases e) (by rw[hrw,rA0];rfl) (K1 _)
  have hc7:CntAt S7 rw_ [([],m0)] 1:=by
   refine⟨Qy (([],m0):Str×Nat) (.int .i64 1) [],rfl,fun p hp=> ?_,A0.t, ?_⟩
   ·rw[List.mem_singleton.1 hp];exact⟨1,rfl,Nat.le_refl _,Nat.le_refl _⟩
   ·rw[hS7,hrw];simp only[Jk,if_true]
  clear hS7 hmu rA0 GA hA0;have L7:=Fz.more L6 G7;have rq7:=G7.cells rq6;have rp7:=G7.cells rp6;have rn7:=G7.cells rn6;have hm7:=hm6.of (G7.same rb hm6.ne);have rwn:SN.row rw_= .none:=Classical.byContradiction fun c=>by rw[L6.same _ c]at rwn6;exact c rwn6
  have hp7:SlF SN S7 (.slx q0 0 1 2 1) 2 ([(([],m0):Str×Nat)].map clE):=⟨fun e he=>by rw[List.mem_singleton.1 he];rfl, .inr ⟨q0,_,q0n,rq7, .inr rfl⟩⟩
  have rbw:rb≠rw_:=fun e=>hm6.ne (by rw[e];exact rwn6);rw[Je,Jb];simp only[XY,simprocAttr];obtain⟨M,hM⟩:=loE fun j fr S'=>∃(i c m:Nat) (D:List Pr) (pv:V),RunS G B j c i D R/\D.length+c<=1+c0/\m+c<=1+c0/\i<1000000+D.length/\fr 5= .ptr p5 0/\fr 6=tb/\fr 8= .ptr ps 0/\fr 9= .map rb/\fr 10= .sl qn 0 (ts.drop 1).length 1/\fr 15= .map rw_/\fr 16= .int .i64 i/\Fz SN S'/\(∃t,S'.row qn= .cells t (((ts.drop 1).map (·.1)).map ofL))/\QR S' rb ofL ts/\(∃t,S'.row ps= .cells t [y0,y1,y2,y3,y4,y5,tv,tb,pv])/\CntAt S' rw_ D m/\SlF SN S' pv 2 (D.map clE)/\rowOf pv≠some qn/\rowOf pv≠some ps;refine Jn M js ?_ ((hM _ _ _).2 ⟨0,c0,1,[([],m0)], .slx q0 0 1 2 1,hR,by simp,by omega,by simp,f5,f6,f8,f9,f10,rfl,by simp only[XZ,simprocAttr]<;>rfl,L7,⟨_,rn7⟩,hm7,⟨_,rp7⟩,hc7,hp7,fun e=>qn0 (by injection e with e;exact e.symm),fun e=>qp (by injection e)⟩) ?_
  ·exact hjs
  clear rq7 rp7 rn7 hm7 hp7 hc7 hLj f5 f6 f8 f9 f10 f44 f45 f46 rp6 rq6 rn6 o1 o2 L7 ow6;clear hj fr j;intro j fr S8 hLj;obtain⟨i,c,m,D,pv,hrun,hDc,hmc,hi6,f5,f6,f8,f9,f10,f15,f16,L8,⟨tn8,rn8⟩,hm8,⟨tp8,rp8⟩,hc8,hp8,pqn,pps⟩:=(hM _ _ _).1 hLj;have hpvl:=hp8.at.len;rw[List.length_map]at hpvl;have spv:=hp8.at.sc;by_cases hi2:i<D.length;rotate_left
  ·have hRD:R= .inr D:=by
    cases hrun with
    |done h=>rfl
    |err h he g b=>exact absurd h hi2
    |step h g b r=>exact absurd h hi2
   have hi':¬(i:Int)<D.length:=by omega
   rw[Je,Jb];simp only[XY,simprocAttr,f8,f16,rp8,hpvl,hi'];have r58:S8.row p5= .cells t5 [.int .i64 0,ofL [], .int .i64 0]:=by rw[L8.same p5 (Jc r5N),r5N]
   rw[Jb];simp only[XY,simprocAttr,f5,f8,r58];rw[kC];simp only[XZ,simprocAttr,f5];have C9:Ch (fun r=>r=p5) S8 (S8.wr p5 t5 fun u=> .cells u [.int .i64 0,ofL [], .int .i64 0]):=(Ch.refl (fun r=>r=p5) L8.wf).wr (Jc r58) (by rw[r58];rfl) (.inl rfl) (Ja _);refine fin _ _ (fun r e=> ?_) fun _=> ?_
   ·rw[C9.same r (by rw[L8.same r (by rw[L1.same r e];exact e),L1.same r e];exact e) fun x=>e (by rw[x];exact p5n),L8.same r (by rw[L1.same r e];exact e),L1.same r e]
   rw[hRD];refine⟨ps,S1,y0,y1,y2,y3,y4,y5,tv,tb,pv,rfl,⟨tp8, ?_⟩,Fz.ofGr G1,hPs (hPk hPN L8) C9.wf fun r=>by
     by_cases c:r=p5
     ·rw[c];exact .inr ⟨_,_,_,r58,by rw[Jk,if_pos rfl]⟩
     ·exact .inl (by rw[Jk,if_neg c]), ?_⟩
   ·rw[C9.same ps (Jc rp8) fun x=>by rw[x,r5N]at psn;exact Row.noConfusion psn,rp8]
   ·refine(hp8.early fun r e=>Classical.byContradiction fun c=>by rw[L1.same r c]at e;exact c e).keep fun r hr=> ?_;exact C9.same r (hp8.some hr) fun x=>by
     have:=(hp8.row hr).1;rw[x,r5N]at this;cases this
  have hi':(i:Int)<D.length:=by omega
  have hip:i<D.length:=hi2;have hadd1:IntKind.i64.wrap ((i:Int)+1)=((i+1:Nat):Int):=by rw[Jo (by omega) (by omega)];rfl
  obtain⟨nm,id,hid⟩:∃nm id,D[i]=(nm,id):=⟨_,_,rfl⟩
  obtain⟨r,o,a1,hr1,_,a2,_⟩:=hp8.at.elem (i:=i) (by rw[List.length_map];exact hip);have hti:(D.map clE)[i]'(by rw[List.length_map];exact hip)=[ofL nm, .int .i64 (id:Nat)]:=by rw[List.getElem_map,hid];rfl
  rw[hti]at a2;have hGi:G (nm,id):=by
   rw[<-hid]
   cases hrun with
   |done h=>omega
   |err h he g b=>exact g
   |step h g b r=>exact g
  obtain⟨bv,hbv,hob,hB⟩:=hB _ hGi;have obs:=hob.1;have obc:=hob.2;have w8:=L8.wf;obtain⟨n8,hn8⟩:=nxE S8;rw[Je,Jb];simp only[XY,simprocAttr,f8,f16,rp8,hpvl,hi'];rw[Je];simp only[XY,simprocAttr];rw[Jb];simp only[XY,simprocAttr,f8,f16,rp8,a1,a2,hn8];refine Js ?_;intro S9 hS9;have G9:Gr S8 S9:=by rw[hS9];exact(Gr.refl w8).nw hn8 (Ja _) (Ja _)
  obtain⟨p17,hp17⟩:=exE (up 0 n8);obtain⟨t17,r17⟩:∃t,S9.row p17= .cells t [ofL nm, .int .i64 (id:Nat)]:=⟨_,by rw[hS9,hp17];simp only[XZ,simprocAttr,hn8];rfl⟩
  rw[<-hp17];clear hS9;have L9:=Fz.more L8 G9;have hlk:QX S9 (.one .s) .snil false (.map rb) (ofL nm)=some (bv, .no):=by
   rw[Qi (enc:=ofL) (hm8.of (G9.same rb hm8.ne)) .snil false nm (fun p _=>JbG _ _) rfl,hbv];rfl
  rw[Jb];simp only[XY,simprocAttr,f6,f9,f10,r17,hlk];refine Jd (hB _ SN _ _ _ ((Fz.ofGr L1).trans L9) hPN L9 qnn qnS ⟨_,G9.cells rn8⟩) ?_;rintro v10 S10 ⟨F10,hv10⟩;have L10:=L9.trans F10;have k10:∀r,S8.row r≠ .none->S10.row r=S8.row r:=fun r e=>by rw[F10.same r (by rw[G9.same r e];exact e),G9.same r e]
  have rn10:=(k10 qn (Jc rn8)).trans rn8;have rp10:=(k10 ps (Jc rp8)).trans rp8;have hm10:=hm8.of (k10 rb hm8.ne);have hcne:S8.row rw_≠ .none:=by obtain⟨es,_,_,h⟩:=hc8;exact h.ne
  have hc10:=hc8.of (k10 rw_ hcne);have hp10:=hp8.keep fun r hr=>k10 r (hp8.some hr);have r17':S10.row p17= .cells t17 [ofL nm, .int .i64 (id:Nat)]:=(F10.same p17 (Jc r17)).trans r17;generalize hbx:B (nm,id)=bx at hv10
  cases bx with
  | inl ea=>
    obtain⟨e,a⟩:=ea;obtain⟨cv,rfl,scv⟩:=hv10;have hne:e≠0/\R= .inl (e,nm,a):=by
     cases hrun with
     |done h=>omega
     |err h he g b=>rw[hid,hbx]at b;injection b with b;injection b with b1 b2;subst b1;subst b2;exact⟨he,by rw[hid]⟩
     |step h g b r=>rw[hid,hbx]at b;cases b
    obtain⟨he,hRe⟩:=hne;have r510:S10.row p5= .cells t5 [.int .i64 0,ofL [], .int .i64 0]:=by rw[L10.same p5 (Jc r5N),r5N]
    simp only[XY,simprocAttr];rw[Je,Jb];simp only[XY,simprocAttr,he];rw[Jb];simp only[XY,simprocAttr,f5,r17',r510];rw[kC];simp only[XZ,simprocAttr,f5];refine fin _ _ (fun r e=> ?_) fun _=> ?_
    ·rw[Jk,if_neg fun x=>e (by rw[x];exact p5n),L10.same r (by rw[L1.same r e];exact e),L1.same r e]
    ·rw[hRe];rfl
  |inr cl=>
  obtain⟨cv,rfl,hcv⟩:=hv10;obtain⟨j',c',hj',hcc,hrun'⟩:∃j' c',j=j'+1/\c=c'+cl.length/\RunS G B j' c' (i+1) (dedS D cl) R:=by
   cases hrun with
   |done h=>omega
   |err h he g b=>rw[hid,hbx]at b;cases b
   |step h g b r=>rw[hid,hbx]at b;injection b with b;subst b;exact⟨_,_,rfl,rfl,r⟩
  have lcv:=hcv.at.len;rw[List.length_map]at lcv;have scv:=hcv.at.sc;have ccv:cv.cells=some [cv]:=(One.of scv).2;simp only[XY,simprocAttr];rw[Je,Jb];simp only[XY,simprocAttr];rw[Jb];simp only[XY,simprocAttr,lcv];have hdl:D.length+cl.length<1000000:=by omega
  obtain⟨N,hN⟩:=loE fun j fr S'=>∃(k:Nat) (pv:V),j+k=cl.length/\fr 5= .ptr p5 0/\fr 6=tb/\fr 8= .ptr ps 0/\fr 9= .map rb/\fr 10= .sl qn 0 (ts.drop 1).length 1/\fr 15= .map rw_/\fr 16= .int .i64 i/\fr 117=cv/\fr 118= .int .i64 (cl.length:Nat)/\fr 119= .int .i64 k/\Fz SN S'/\(∃t,S'.row qn= .cells t (((ts.drop 1).map (·.1)).map ofL))/\QR S' rb ofL ts/\(∃t,S'.row ps= .cells t [y0,y1,y2,y3,y4,y5,tv,tb,pv])/\CntAt S' rw_ (dedS D (cl.take k)) (m+k)/\SlF SN S' pv 2 ((dedS D (cl.take k)).map clE)/\rowOf pv≠some qn/\rowOf pv≠some ps/\SlF S9 S' cv 2 (cl.map clE)/\(∀r,rowOf cv=some r->r≠ps/\rowOf pv≠some r);refine Jn N cl.length (by omega) ((hN _ _ _).2 ⟨0,pv,by omega,f5,f6,f8,f9,f10,f15,f16,rfl,rfl,by simp only[XZ,simprocAttr]<;>rfl,L10,⟨_,rn10⟩,hm10,⟨_,rp10⟩,hc10,hp10,pqn,pps,hcv,fun r hr=> ?_⟩) ?_
  ·have h0:=(hcv.row hr).1;exact⟨fun e=>(by rw[e,G9.cells rp8]at h0;cases h0),fun e=>hp8.some e (by rw[G9.same r (hp8.some e)]at h0;exact h0)⟩
  clear hLj rn10 rp10 hm10 hc10 hp10 f5 f6 f8 f9 f10 f15 f16 hpvl spv a1 a2;intro j2 fr2 S11 hLj;obtain⟨k,pw,hj2,f5,f6,f8,f9,f10,f15,f16,f117,f118,f119,L11,⟨tn11,rn11⟩,hm11,⟨tp11,rp11⟩,hc11,hp11,wqn,wps,hcv11,hap⟩:=(hN _ _ _).1 hLj;by_cases hk:k<cl.length;rotate_left
  ·have hk':¬(k:Int)<cl.length:=by omega
   rw[List.take_of_length_le (by omega)]at hc11 hp11;rw[Jb];simp only[XY,simprocAttr,f118,f119,hk'];rw[Je];simp only[XZ,simprocAttr,f5,f6,f8,f9,f10,f15,f16,hadd1];have hdd:(dedS D cl).length<=D.length+cl.length:=by
    obtain⟨t,a,_,b⟩:=Jad cl D;rw[a,List.length_append];omega
   have hdd2:D.length<=(dedS D cl).length:=by
    obtain⟨t,a,_,b⟩:=Jad cl D;rw[a,List.length_append];omega
   refine⟨j',by omega,(hM _ _ _).2 ⟨i+1,c',m+k,dedS D cl,pw,hrun',by omega,by omega,by omega,f5,f6,f8,f9,f10,f15,rfl,L11,⟨_,rn11⟩,hm11,⟨_,rp11⟩,hc11,hp11,wqn,wps⟩⟩
  have hk':(k:Int)<cl.length:=by omega
  have hkadd:IntKind.i64.wrap ((k:Int)+1)=((k+1:Nat):Int):=by rw[Jo (by omega) (by omega)];rfl
  obtain⟨nm2,id2,hid2⟩:∃nm id,cl[k]=(nm,id):=⟨_,_,rfl⟩
  obtain⟨r,o,a1,hr1,_,a2,_⟩:=hcv11.at.elem (i:=k) (by rw[List.length_map];exact hk);have hti2:(cl.map clE)[k]'(by rw[List.length_map];exact hk)=[ofL nm2, .int .i64 (id2:Nat)]:=by rw[List.getElem_map,hid2];rfl
  rw[hti2]at a2;have w11:=L11.wf;obtain⟨n11,hn11⟩:=nxE S11;rw[Jb];simp only[XY,simprocAttr,f118,f119,hk'];rw[Je];simp only[XY,simprocAttr];rw[Je];simp only[XY,simprocAttr];rw[Jb];simp only[XY,simprocAttr,f117,f119,a1,a2,hn11];refine Js ?_;intro S12 hS12;have G12:Gr S11 S12:=by rw[hS12];exact(Gr.refl w11).nw hn11 (Ja _) (Ja _)
  obtain⟨p22,hp22⟩:=exE (up 0 n11);obtain⟨t22,r22⟩:∃t,S12.row p22= .cells t [ofL nm2, .int .i64 (id2:Nat)]:=⟨_,by rw[hS12,hp22];simp only[XZ,simprocAttr,hn11];rfl⟩
  rw[<-hp22];clear hS12;have L12:=L11.more G12;have hcne11:S11.row rw_≠ .none:=by obtain⟨es,_,_,h⟩:=hc11;exact h.ne
  have hc12:=hc11.of (G12.same rw_ hcne11);obtain⟨c,jj,t2,f1,f2,z,c1,c2,c3,c4,c5,c6,c7,c8,c9,c10⟩:=Jon hc12 (by omega) (nm2,id2);have c3':=c3 S12 rfl;have c4':=c4 S12 rfl;have c6':=c6 (S12.wr rw_ t2 f1) _ (Jm _ _ _ _);have hcq:∀{q:Pt} {t:Nat} {l:List V},S12.row q= .cells t l->q≠rw_:=fun{q t l} h e=>by
   obtain⟨es,_,_,_,m⟩:=hc12;rw[e,m]at h;cases h
  have o22:=nes (hcq r22);rw[Jb];simp only[XY,simprocAttr,Jpo,Jpp,Jri,Jrj,f15,r22,o22,c3',c4',c5,c6'];refine Js ?_;intro S13 hS13;have k13:∀q,q≠rw_->S13.row q=S12.row q:=fun q e=>by rw[hS13];simp only[Jk,e,if_false]
  have r13:S13.row rw_=f2 ((S12.wr rw_ t2 f1).t):=by rw[hS13];exact Jm _ _ _ _
  have L13:Fz SN S13:=by
   have C1:Ch (fun r=>r=rw_) S12 (S12.wr rw_ t2 f1):=(Ch.refl (fun r=>r=rw_) L12.wf).wr c1 c2 (.inl rfl) c7;have C2:=C1.wr (p:=rw_) (t:=S12.t) (f:=f2) (by rw[Jm];exact(c7 _).2) (by rw[Jm];exact(c7 _).1) (.inl rfl) c8;rw[hS13];exact L12.ch C2 fun r e=>by rw[e];exact rwn
  obtain⟨c9a,c9b⟩:=c9 S13 _ r13;clear hS13;have r223:=(k13 p22 (hcq r22)).trans r22;have r12p:=G12.cells rp11;have rp13:=(k13 ps (hcq r12p)).trans r12p;have r12n:=G12.cells rn11;have rn13:=(k13 qn (hcq r12n)).trans r12n;have hm13:=(hm11.of (G12.same rb hm11.ne)).of (k13 rb rbw);have hk13:∀{v:V} {A:St} {es:List (List V)},SlF A S11 v 2 es->SlF A S13 v 2 es:=fun{v A es} h=>(h.gr G12).keep fun r hr=>k13 r (by
   obtain⟨_,t,h⟩:=(h.gr G12).row hr;exact hcq h)
  have hp13:=hk13 hp11;have hcv13:=hk13 hcv11;have htk:cl.take (k+1)=cl.take k++[(nm2,id2)]:=by rw[List.take_add_one,List.getElem?_eq_getElem hk,hid2];rfl
  by_cases hc0:c=0;rotate_left
  ·have hin:(nm2,id2)∈dedS D (cl.take k):=Classical.byContradiction fun h=>hc0 (c10.2 h);have hde:dedS D (cl.take (k+1))=dedS D (cl.take k):=by rw[htk,Jcq,if_pos hin]
   rw[if_pos hin,<-hde]at c9b;rw[<-hde]at hp13;have hne1:¬((c+1:Nat):Int)=1:=by omega
   rw[Jb];simp only[XY,simprocAttr,f15,r223,c9a,hne1];simp only[XZ,simprocAttr,f5,f6,f8,f9,f10,f15,f16,f117,f118,f119,hkadd];refine⟨cl.length-(k+1),by omega,(hN _ _ _).2 ⟨k+1,pw,by omega,f5,f6,f8,f9,f10,f15,f16,f117,f118,rfl,L13,⟨_,rn13⟩,hm13,⟨_,rp13⟩,c9b,hp13,wqn,wps,hcv13,hap⟩⟩
  have hnin:(nm2,id2)∉dedS D (cl.take k):=c10.1 hc0;have hde:dedS D (cl.take (k+1))=dedS D (cl.take k)++[(nm2,id2)]:=by rw[htk,Jcq,if_neg hnin]
  rw[if_neg hnin,<-hde]at c9b;have hne1:((c+1:Nat):Int)=1:=by omega
  have w13:=L13.wf;obtain⟨n13,hn13⟩:=nxE S13;have op13:=fun k=>nes (Jz w13 hn13 (Jc rp13) k);rw[Jb];simp only[XY,simprocAttr,f15,r223,c9a,hne1];simp only[XY,simprocAttr,f8,rp13,r223,hn13,op13];obtain⟨A3,hA3⟩:=exE (S13.new fun t=>Row.cells t [ofL nm2, .int .i64 (id2:Nat)]);have ga3:Gr S13 A3:=by rw[hA3];exact Gr.new w13 (Ja _)
  have hone:SlAt (fun r=>r=up 0 n13) A3 (.slx (up 0 n13) 0 1 2 1) 2 [clE (nm2,id2)]:=by
   have:=Qd (st:=S13) (z:=2) (e:=clE (nm2,id2)) rfl
   rwa [hn13,show(S13.new fun t=>Row.cells t (clE (nm2,id2)))=A3 from hA3.symm]at this
  rw[<-hA3];clear hA3;have rp3:=ga3.cells rp13;refine Jls (S0:={SN with low:=A3.low}) (L13.more ga3).gr (hp13.gr ga3) hone (fun e he=>by rw[List.mem_singleton.1 he];rfl) (by simp) (by simp) (by
   have:(dedS D (cl.take k)).length<=D.length+cl.length:=by
    obtain⟨t,a,_,b⟩:=Jad (cl.take k) D;rw[a,List.length_append];rw[List.length_take]at b;omega
   simp only[List.length_map,List.length_cons,List.length_nil];omega) ?_
  intro A4 g4 h4 kp4;have hmp:(dedS D (cl.take k)).map clE++[clE (nm2,id2)]=(dedS D (cl.take (k+1))).map clE:=by rw[hde];simp
  rw[hmp]at h4;obtain⟨pw',hpw'⟩:∃v,v=V.sl A3.nx 0 (((dedS D (cl.take k)).map clE).length+[clE (nm2,id2)].length) 2:=⟨_,rfl⟩
  rw[<-hpw']at h4⊢;have rpw':rowOf pw'=some A3.nx:=by rw[hpw'];rfl
  have hnx:∀r,S13.row r≠ .none->r≠A3.nx:=fun r hr e=>by
   have:=Kj ga3.wf;rw[<-e,ga3.same r hr]at this;exact hr this
  have rp4:A4.row ps= .cells tp11 [y0,y1,y2,y3,y4,y5,tv,tb,pw]:=(kp4 ps (Jc rp3) wps).trans rp3;have sc4:=h4.at.sc;have cl4:=h4.at.cells;simp only[XZ,simprocAttr,rp4,sc4,cl4,f5,f6,f8,f9,f10,f15,f16,f117,f118,f119,hkadd];have k14:∀q,S13.row q≠ .none->q≠ps->rowOf pw≠some q->(A4.wr ps tp11 fun u=>Row.cells u [y0,y1,y2,y3,y4,y5,tv,tb,pw']).row q=S13.row q:=fun q a b c=>by
   simp only[Jk,b,if_false];rw[kp4 q (by rw[ga3.same q a];exact a) c,ga3.same q a]
  have hcne13:S13.row rw_≠ .none:=by rw[r13];exact(c8 _).2
  refine⟨cl.length-(k+1),by omega,(hN _ _ _).2 ⟨k+1,pw',by omega,f5,f6,f8,f9,f10,f15,f16,f117,f118,rfl, ?_,⟨tn11, ?_⟩, ?_,⟨A4.t, ?_⟩, ?_, ?_, ?_, ?_, ?_, ?_⟩⟩
  ·exact(Fz.back g4).ch (W:=fun r=>r=ps) ((Ch.refl (fun r=>r=ps) (Fz.back g4).wf).wr (Jc rp4) (by rw[rp4];rfl) (.inl rfl) (Ja _)) fun r e=>by rw[e];exact psn
  ·exact(k14 qn (Jc rn13) qnp wqn).trans rn13
  ·refine hm13.of (k14 rb hm13.ne (fun e=> ?_) fun e=> ?_)
   ·obtain⟨t,m⟩:=hm13;rw[e,rp13]at m;cases m
   ·obtain⟨_,t,h⟩:=hp13.row e;obtain⟨t,m⟩:=hm13;rw[m]at h;cases h
  ·simp only[Jk,if_true]
  ·refine c9b.of (k14 rw_ hcne13 (fun e=>hcq r12p e.symm) fun e=> ?_);obtain⟨_,t,h⟩:=hp11.row e;exact hcq (G12.cells h) rfl
  ·refine h4.keep fun r hr=> ?_;rw[rpw']at hr;injection hr with hr;have:r≠ps:=fun e=>hnx ps (Jc rp13) (by rw[hr,e]);simp only[Jk,this,if_false]
  ·intro e;rw[rpw']at e;injection e with e;exact hnx qn (Jc rn13) e.symm
  ·intro e;rw[rpw']at e;injection e with e;exact hnx ps (Jc rp13) e.symm
  ·exact hcv13.keep fun r hr=>k14 r (hcv13.some hr) (hap r hr).1 (hap r hr).2
  ·intro r hr;refine⟨(hap r hr).1,fun e=> ?_⟩;rw[rpw']at e;injection e with e;exact hnx r (hcv13.some hr) e.symm
 have hi':(i:Int)<ts.length:=by omega
 have hadd1:IntKind.i64.wrap ((i:Int)+1)=((i+1:Nat):Int):=by rw[Jo (by omega) (by omega)];rfl
 obtain⟨r,o,a1,hr1,_,a2,_⟩:=(hl.imp (Q:=fun _=>True) (st':=S6) fun r e _=>⟨trivial,by rw[L6.same r (by rw[L1.same r e];exact e),L1.same r e]⟩).elem (i:=i) (by rw[List.length_map];exact hi);have hti:(ts.map tmE)[i]'(by rw[List.length_map];exact hi)=[ofL ts[i].1,ts[i].2]:=by simp[tmE]
 rw[hti]at a2;have hone:=ht1 _ (List.getElem_mem hi);obtain⟨son,con⟩:=hone;obtain⟨n6,hn6'⟩:∃n,S6.nx=up 0 n:=⟨_,up0 _⟩
 rw[Jb];simp only[XY,simprocAttr,f45,f46,hi'];rw[Je];simp only[XY,simprocAttr];rw[Je];simp only[XY,simprocAttr];rw[Jb];simp only[XY,simprocAttr,f44,f46,a1,a2,hn6',son,con];refine Js ?_;intro S7 hS7;have w6:=L6.wf;have G7:Gr S6 S7:=by rw[hS7];exact(Gr.refl w6).nw hn6' (Ja _) (Ja _)
 obtain⟨p12,hp12⟩:=exE (up 0 n6);obtain⟨t12,r12⟩:∃t,S7.row p12= .cells t [ofL ts[i].1,ts[i].2]:=⟨_,by rw[hS7,hp12];simp only[XZ,simprocAttr,hn6'];rfl⟩
 rw[<-hp12];clear hS7;have p12n:S6.row p12= .none:=by rw[hp12];exact nx0 w6 hn6' 0
 have hm7:=hm6.of (G7.same rb hm6.ne);have hai:=hts i hi;have hsti:∀v,Qy ts[i].1 v (ts.take i)=ts.take i++[(ts[i].1,v)]:=fun v=>jC (Jbb (i:=0) hai);have hstt:ts.take i++[(ts[i].1,ts[i].2)]=ts.take (i+1):=by rw[List.take_add_one,List.getElem?_eq_getElem hi];rfl
 have hlk:QX S7 (.one .s) .snil true (.map rb) (ofL ts[i].1)=some (.tup [.snil, .bool false], .no):=by
  rw[Qi (enc:=ofL) hm7 .snil true ts[i].1 (fun p _=>JbG _ _) rfl,hai];rfl
 obtain⟨tb7,mb7⟩:=hm7;have hmu:JbA S7 (.one .s) (.map rb) (ofL ts[i].1) ts[i].2=some (JR, .wr rb tb7 fun u=> .mob u ((ts.take (i+1)).map fun p=>(ofL p.1,p.2))):=by
  rw[jd (enc:=ofL) mb7 ts[i].1 ts[i].2 (fun p _=>JbG _ _) rfl,hsti,hstt]
 rw[Je,Jb];simp only[XY,simprocAttr,r12,f9,hlk];rw[Jb];simp only[XY,simprocAttr,r12,f9,hmu];refine Js ?_;intro S8 hS8;have rbr:∀r,r≠rb->S8.row r=S7.row r:=fun r e=>by rw[hS8];simp only[Jk,e,if_false]
 have L8:Fz SN S8:=by
  rw[hS8];exact(Fz.more L6 G7).ch (W:=fun r=>r=rb) ((Ch.refl (fun r=>r=rb) G7.wf).wr (by rw[mb7];exact fun e=>by cases e) (by rw[mb7];rfl) (.inl rfl) (K1 _)) fun r e=>by rw[e];exact rbn
 have mb8:QR S8 rb ofL (ts.take (i+1)):=⟨_,by rw[hS8];simp only[Jk,if_true];rfl⟩
 clear hS8;have p12b:p12≠rb:=fun e=>by rw[e]at r12;rw[mb7]at r12;cases r12
 have q0b:q0≠rb:=fun e=>by rw[e]at rq6;rw[<-G7.same rb (by rw[rq6];exact fun e=>by cases e),mb7]at rq6;cases rq6
 have psb:ps≠rb:=fun e=>by rw[e]at rp6;rw[<-G7.same rb (by rw[rp6];exact fun e=>by cases e),mb7]at rp6;cases rp6
 have r128:=(rbr p12 p12b).trans r12;have rq8:=(rbr q0 q0b).trans (G7.cells rq6);have rp8:=(rbr ps psb).trans (G7.cells rp6);have hn8:SlF SN S8 nv 1 (((ts.take i).drop 1).map nmE):=(hn6.gr G7).keep fun r hr=>rbr r fun e=>by
  obtain⟨_,t,c⟩:=(hn6.gr G7).row hr;rw[e,mb7]at c;cases c
 by_cases h0:i=0
 ·have h0':¬(0:Int)<i:=by omega
  rw[Jb];simp only[XY,simprocAttr,h0'];simp only[XZ,simprocAttr,f5,f6,f8,f9,f10,f44,f45,f46,hadd1];refine⟨ts.length-(i+1),by omega,(hL _ _ _).2 ⟨i+1,nv,by omega,f5,f6,f8,f9,f10,f44,f45,rfl,L8,⟨_,rq8⟩,⟨_,rp8⟩,mb8, ?_, ?_,nq6,np6⟩⟩
  ·subst h0;rw[show(ts.take (0+1)).drop 1=[]from List.drop_eq_nil_of_le (by rw[List.length_take];omega)];simpa using hn8
  ·subst h0;rcases hv6 with⟨e,_⟩|⟨q,e⟩
   ·exact .inl ⟨e,by omega⟩
   ·rcases hn8.2 with⟨e2,_⟩|⟨r,t,e1,e2,e3⟩
    ·exact .inl ⟨e2,by omega⟩
    ·refine .inr ⟨q, ?_⟩;rw[e];simp
 have h0':(0:Int)<i:=by omega
 have w8:=L8.wf;obtain⟨n8,hn8'⟩:∃n,S8.nx=up 0 n:=⟨_,up0 _⟩
 rw[Jb];simp only[XY,simprocAttr,h0',f10,r128,hn8'];obtain⟨A3,hA3⟩:=exE (S8.new fun t=>Row.cells t [ofL ts[i].1]);have ga3:Gr S8 A3:=by rw[hA3];exact Gr.new w8 (Ja _)
 have hone:SlAt (fun r=>r=up 0 n8) A3 (.slx (up 0 n8) 0 1 1 1) 1 [nmE ts[i]]:=by
  have:=Qd (st:=S8) (z:=1) (e:=nmE ts[i]) rfl
  rwa [hn8',show(S8.new fun t=>Row.cells t (nmE ts[i]))=A3 from hA3.symm]at this
 rw[<-hA3];clear hA3;have hln:(((ts.take i).drop 1).map nmE).length=i-1:=by simp;omega
 refine Jls (S0:={SN with low:=A3.low}) (Fz.more L8 ga3).gr (hn8.gr ga3) hone (fun e he=>by rw[List.mem_singleton.1 he];rfl) (by simp) (by simp) (by rw[hln];simp;omega) ?_;intro A4 g4 h4 kp4;have hnx:∀r,S8.row r≠ .none->r≠A3.nx:=fun r hr e=>by
  have:=Kj ga3.wf;rw[<-e,ga3.same r hr]at this;exact hr this
 have hdr:(ts.take i).drop 1++[ts[i]]=(ts.take (i+1)).drop 1:=by
  rw[List.take_add_one,List.getElem?_eq_getElem hi,List.drop_append_of_le_length (by rw[List.length_take];omega)];rfl
 have hmp:((ts.take i).drop 1).map nmE++[nmE ts[i]]=((ts.take (i+1)).drop 1).map nmE:=by rw[<-hdr];simp
 rw[hmp]at h4;simp only[XZ,simprocAttr,f5,f6,f8,f9,f10,f44,f45,f46,hadd1];have hlen2:(((ts.take i).drop 1).map nmE).length+[nmE ts[i]].length=((ts.take (i+1)).drop 1).length:=by rw[<-hdr];simp
 refine⟨ts.length-(i+1),by omega,(hL _ _ _).2 ⟨i+1,_,by omega,f5,f6,f8,f9,by simp only[XZ,simprocAttr]<;>rfl,f44,f45,rfl,Fz.back g4,⟨tq6, ?_⟩,⟨tp6, ?_⟩, ?_,h4, .inr ⟨_,by rw[hlen2]⟩, ?_, ?_⟩⟩
 ·rw[kp4 q0 (by rw[ga3.cells rq8];exact fun e=>by cases e) nq6,ga3.cells rq8]
 ·rw[kp4 ps (by rw[ga3.cells rp8];exact fun e=>by cases e) np6,ga3.cells rp8]
 ·refine(mb8.of (ga3.same rb mb8.ne)).of (kp4 rb (by rw[ga3.same rb mb8.ne];exact mb8.ne) fun e=> ?_);obtain⟨_,t,c⟩:=hn8.row e;obtain⟨t2,m2⟩:=mb8;rw[m2]at c;cases c
 ·intro e;injection e with e;exact hnx q0 (Jc rq8) e.symm
 ·intro e;injection e with e;exact hnx ps (Jc rp8) e.symm
def Jga (tb:Tb):Prop:=∀i,i<tb.nodes.length->∃o,Kh tb (tb.nodes.length+1) i=(o,true)/\o<tb.nodes.length
theorem JqL {W F:Pt->Prop}{S:St}{w rt:Pt}{nv cv av:V}{tb:Tb}{id:Nat}(hw:WF S)(hT:Tab W F S rt tb)(hop:Jga tb)(hid:id<tb.nodes.length)(hr:∃t,S.row w= .cells t [.ptr rt 0,nv,cv,av]):
  Does (tabT tabD) 113 [.ptr w 0, .int .i64 (id:Nat)] S fun v S'=>Gr S S'/\∃k nm a b,v= .agg [.int .i64 k,ofL nm,a,b]/\One a/\One b:=by
 refine Ju tabM (aT Tryz.func113 rfl) rfl hw fun K fin=> ?_;obtain⟨o,ho,hol⟩:=hop id hid;obtain⟨tw,hr⟩:=hr;obtain⟨n0,hn0⟩:=nxE S;simp only[CT,Tryz.f113,XY,simprocAttr];rw[Jb];simp only[XY,simprocAttr,hn0];refine Js ?_;intro S1 hS1;have G1:Gr S S1:=by rw[hS1];exact Gr.new hw (Ja _)
 obtain⟨p4,hp4⟩:=exE (up 0 n0);obtain⟨t4,r4⟩:∃t,S1.row p4= .cells t [.int .i64 0,ofL [], .snil, .snil]:=⟨_,by rw[hS1,hp4];simp only[XZ,simprocAttr,hn0];rfl⟩
 have p4n:S.row p4= .none:=by rw[hp4];exact nx0 hw hn0 0
 rw[<-hp4];clear hS1;have hr1:=G1.cells hr;rw[Jb];simp only[XY,simprocAttr,hr1];refine Jd (JqK G1.wf (hT.gr G1) ho) ?_;rintro _ _ ⟨rfl,rfl⟩;simp only[XY,simprocAttr];rw[Je,Jb];simp only[XY,simprocAttr];rw[Jb];simp only[XY,simprocAttr,hr1];refine Jd (JqJ (Q:=fun _=>True) G1.wf (hT.gr G1) hol fun _ _=>trivial) ?_;rintro _ S2 ⟨G2,e,rfl,a,b,rfl,h1,h2⟩;have c1:=h1.cells;have c2:=h1.sc;have c3:=h2.cells;have c4:=h2.sc;have r42:=G2.cells r4;obtain⟨n2,hn2⟩:=nxE S2;have w2:=G2.wf;have o4:=fun k=>nes (Jz w2 hn2 (Jc r42) k);simp only[XZ,simprocAttr,hn2,c1,c2,c3,c4,r42,o4];have G3:Gr S2 (((S2.new fun t=>Row.cells t [.int .i64 0,ofL [], .snil, .snil]).wr (up 0 n2) S2.t fun u=>Row.cells u [.int .i64 tb.nodes[o].kind,ofL tb.nodes[o].name,a,b])):=(Gr.refl w2).nw hn2 (Ja _) (Ja _);refine fin _ _ (fun r e=> ?_) fun g=>⟨_,_,a,b,rfl,One.of c2,One.of c4⟩
 have e4:r≠p4:=fun c=>e (by rw[c];exact p4n);rw[Jk,if_neg e4,G3.same r (by rw[(G1.trans G2).same r e];exact e),(G1.trans G2).same r e]
structure WkR (Sb S:St) (w rt q:Pt) (cv:V) (at_:Int) (calls:List Pr):Prop where
 g:Gr Sb S
 wn:Sb.row w= .none
 c:∃t,S.row w= .cells t [.ptr rt 0, .sl q 0 1 1,cv, .int .i64 at_]
 l:SlF Sb S cv 2 (calls.map clE)
 aw:rowOf cv≠some w
theorem WkR.gr {Sb S S':St}{w rt q:Pt}{cv:V}{at_:Int}{calls:List Pr}(h:WkR Sb S w rt q cv at_ calls)(g:Gr S S'):WkR Sb S' w rt q cv at_ calls:=⟨h.g.trans g,h.wn,h.c.imp fun t c=>g.cells c,h.l.gr g,h.aw⟩
theorem WkR.at {Sb S:St}{w rt q:Pt}{cv:V}{at_ x:Int}{calls:List Pr}{t:Nat}(h:WkR Sb S w rt q cv at_ calls)(hc:S.row w= .cells t [.ptr rt 0, .sl q 0 1 1,cv, .int .i64 at_]):WkR Sb (S.wr w t fun u=> .cells u [.ptr rt 0, .sl q 0 1 1,cv, .int .i64 x]) w rt q cv x calls:=by
 refine⟨h.g.wr h.wn (Jc hc) (by rw[hc];rfl) (Ja _),h.wn,⟨_,by simp only[Jk,if_true];rfl⟩,h.l.keep fun r hr=> ?_,h.aw⟩;have:r≠w:=fun e=>h.aw (by rw[<-e];exact hr);simp only[Jk,this,if_false]
theorem Jsy {W F:Pt->Prop}{S:St}{w rt:Pt}{nv cv av:V}{tb:Tb}{id:Nat}{s:Str}{a0:Int}(hw:WF S)(hT:Tab W F S rt tb)(hop:Jga tb)(h0:0<tb.nodes.length)(hr:∃t,S.row w= .cells t [.ptr rt 0,nv,cv,av]):
  Does (tabT tabD) 88 [.ptr w 0,envE id, .agg (ndR 1 a0 s [] .snil), .int .i64 0] S fun v S'=>Gr S S'/\v= .int .i64 0:=by
 refine Ju tabM (aT Tryz.func88 rfl) rfl hw fun K fin=> ?_;obtain⟨n0,hn0⟩:=nxE S;simp only[CT,Tryz.f88,XY,simprocAttr];rw[Jb];simp only[XY,simprocAttr,hn0];refine Js ?_;intro S1 hS1;have G1:Gr S S1:=by rw[hS1];exact(Gr.new hw (Ja _)).nn (Ja _)
 obtain⟨p6,hp6⟩:=exE (up 1 n0);obtain⟨t6,r6⟩:∃t,S1.row p6= .cells t (ndR 1 a0 s [] .snil):=⟨_,by rw[hS1,hp6];simp only[XZ,simprocAttr,hn0];rfl⟩
 rw[<-hp6];clear hS1;rw[Jb];simp only[XY,simprocAttr];refine Jd (JqL (id:=0) G1.wf (hT.gr G1) hop h0 (hr.imp fun t c=>G1.cells c)) ?_;rintro _ S2 ⟨G2,k,nm,a,b,rfl,⟨s1,c1⟩,⟨s2,c2⟩⟩;obtain⟨n2,hn2⟩:=nxE S2;simp only[XY,simprocAttr,hn2,s1,s2,c1,c2];refine Js ?_;intro S3 hS3;have G3:Gr S2 S3:=by rw[hS3];exact(Gr.refl G2.wf).nw hn2 (Ja _) (Ja _)
 clear hS3;have r63:=G3.cells (G2.cells r6);simp only[XZ,simprocAttr,r63];exact fin _ _ (fun r e=>((G1.trans G2).trans G3).same r e) fun _=>rfl
noncomputable def JqM :Bool:=match run (tabT tabD) 60 152 [.sl .h 0 1 1,ofL [116]] {(St.start.new fun t=> .cells t [ofL [116]])with low:=1}with
 |some (.bool true,a)=>Nat.ble 1 a.low&&inT a.nx.num a.h
 |_=>false
theorem hasT :JqM=true:=by kernel_rfl
theorem hasC {S:St}(hw:WF S){q:Pt}(hq:∃t,S.row q= .cells t [ofL [116]]):Does (tabT tabD) 152 [.sl q 0 1 1,ofL [116]] S fun v S'=>Gr S S'/\v= .bool true:=by
 have h:=hasT;unfold JqM at h
 split at h
 ·rename_i a hr
  rw[Bool.and_eq_true]at h;obtain⟨t,hq⟩:=hq;have H0:=Hold.start (S:=S) (fun _=> .int .i64 0) (fun _=>⟨_,_,rfl⟩) hw;obtain⟨φ,ag,e1,H⟩:=H0.add (q:=q) (f:=fun t=> .cells t [ofL [116]]) (Ja _) (Jc hq) (fun p h=>absurd h (Nat.not_lt_zero _)) ⟨t,by rw[hq,YN _ _ (by rfl)],trivial⟩ rfl rfl;have e1:φ .h=q:=e1;have:=H.go tabE tabM tabU (args:=[.sl .h 0 1 1,ofL [116]]) rfl hr (Nat.le_of_ble_eq_true h.1) h.2;simp only[List.map_cons,List.map_nil,mv,e1,Kw φ (ofL [116]) rfl]at this;exact this.mono fun v S' ⟨g,ψ,_,e,_⟩=>⟨g,e.trans (by simp only[mv])⟩
 ·cases h
theorem Jsz {Sb S:St}{w rt q:Pt}{cv:V}{at_ a0:Int}{calls:List Pr}{id:Nat}(h:WkR Sb S w rt q cv at_ calls)(hq:∃t,S.row q= .cells t [ofL [116]])(hc:calls.length<10000):
  Does (tabT tabD) 119 [.ptr w 0,envE id, .agg (ndR 9 a0 [] [116] .snil), .int .i64 0] S fun v S'=>Ch (fun r=>r=w\/rowOf cv=some r) S S'/\v= .int .i64 0/\∃cv',WkR Sb S' w rt q cv' at_ (calls++[([116],id)])/\∀q,rowOf cv'=some q->S.row q= .none:=by
 refine QS tabM (aT Tryz.func119 rfl) rfl h.g.wf fun K fin=> ?_;obtain⟨tw,rw_⟩:=h.c;have hw:=h.g.wf;obtain⟨n0,hn0⟩:=nxE S;have l0:Kf .snil=some (.int .i64 0, .no):=rfl;simp only[CT,Tryz.f119,XY,simprocAttr];rw[Jb];simp only[XY,simprocAttr,hn0];refine Js ?_;intro S1 hS1;have G1:Gr S S1:=by rw[hS1];exact(Gr.new hw (Ja _)).nn (Ja _)
 obtain⟨p5,hp5⟩:=exE (up 0 n0);obtain⟨p6,hp6⟩:=exE (up 1 n0);obtain⟨t5,r5⟩:∃t,S1.row p5= .cells t [.int .i64 (id:Nat), .snil, .snil]:=⟨_,by rw[hS1,hp5];simp only[XZ,simprocAttr,hn0];rfl⟩
 obtain⟨t6,r6⟩:∃t,S1.row p6= .cells t (ndR 9 a0 [] [116] .snil):=⟨_,by rw[hS1,hp6];simp only[XZ,simprocAttr,hn0];rfl⟩
 rw[<-hp5,<-hp6];have rw1:=G1.cells rw_;clear hS1;rw[Je,Jb];simp only[XY,simprocAttr,r5,r6,l0];obtain⟨tq,hq⟩:=hq;rw[Je,Jb];simp only[XY,simprocAttr,rw1,r6];refine Ji (hasC (JD G1.wf _) ⟨tq,G1.cells hq⟩) ?_;rintro _ S2 G2 rfl;have G02:=G1.trans G2;have rw2:=G2.cells rw1;have r62:=G2.cells r6;have w2:=G2.wf;obtain⟨n2,hn2⟩:=nxE S2;have ow2:=fun k=>nes (Jz w2 hn2 (Jc rw2) k);simp only[XY,simprocAttr];rw[Jb];simp only[XY,simprocAttr,rw2,r62,hn2,ow2];obtain⟨A3,hA3⟩:=exE (S2.new fun t=>Row.cells t [ofL [116], .int .i64 (id:Nat)]);have ga3:Gr S2 A3:=by rw[hA3];exact Gr.new w2 (Ja _)
 have hone:SlAt (fun r=>r=up 0 n2) A3 (.slx (up 0 n2) 0 1 2 1) 2 [clE ([116],id)]:=by
  have:=Qd (st:=S2) (z:=2) (e:=clE ([116],id)) rfl
  rwa [hn2,show(S2.new fun t=>Row.cells t (clE ([116],id)))=A3 from hA3.symm]at this
 rw[<-hA3];clear hA3;have rw3:=ga3.cells rw2;have h3:=h.l.gr (G02.trans ga3);refine Qw (S0:=Sb) (h.g.trans (G02.trans ga3)) h3 hone (fun e he=>by rw[List.mem_singleton.1 he];rfl) (by simp) (by simp) (by simp;omega) ?_;intro A4 cv4 g4 h4 rv4 kp4;have rw4:A4.row w= .cells tw [.ptr rt 0, .sl q 0 1 1,cv, .int .i64 at_]:=(kp4 w (Jc rw3) h.aw).trans rw3;have sc4:=h4.at.sc;have cl4:=h4.at.cells;have wr:∀x,rowOf cv4=some x->x≠w:=fun x hx e=>by
  rw[rv4]at hx;injection hx with hx;rw[<-e,<-hx,Kj ga3.wf]at rw3
  cases rw3
 simp only[XZ,simprocAttr,rw4,sc4,cl4];refine fin _ _ (fun r e hW=> ?_) fun _=>⟨rfl,cv4,⟨g4.wr h.wn (Jc rw4) (by rw[rw4];rfl) (Ja _),h.wn,⟨_,by simp only[Jk,if_true];rfl⟩, ?_,fun e=>wr w e rfl⟩, ?_⟩
 ·have hp:r≠w:=fun x=>hW (.inl x);simp only[Jk,hp,if_false];rw[kp4 r (by rw[(G02.trans ga3).same r e];exact e) fun x=>hW (.inr x),(G02.trans ga3).same r e]
 ·have h5:SlF Sb A4 cv4 2 ((calls++[([116],id)]).map clE):=by simpa using h4
  refine h5.keep fun r hr=> ?_;simp only[Jk,wr r hr,if_false]
 ·intro x hx;rw[rv4]at hx;injection hx with hx;rw[<-hx];exact Classical.byContradiction fun c=>c (by
   have:=(G02.trans ga3).same _ c;rw[Kj ga3.wf]at this;exact this.symm)
theorem JsA {W F:Pt->Prop}{Sb S:St}{w rt q:Pt}{cv:V}{at_ a0:Int}{calls:List Pr}{tb:Tb}{id:Nat}(hT:Tab W F S rt tb)(hop:Jga tb)(h0:0<tb.nodes.length)(h:WkR Sb S w rt q cv at_ calls)(hq:∃t,S.row q= .cells t [ofL [116]])(hc:calls.length<10000):
  Does (tabT tabD) 88 [.ptr w 0,envE id, .agg (ndR 9 a0 [] [116] .snil), .int .i64 0] S fun v S'=>Ch (fun r=>r=w\/rowOf cv=some r) S S'/\v= .int .i64 0/\∃cv',WkR Sb S' w rt q cv' at_ (calls++[([116],id)])/\∀q,rowOf cv'=some q->S.row q= .none:=by
 refine QS tabM (aT Tryz.func88 rfl) rfl h.g.wf fun K fin=> ?_;obtain⟨n0,hn0⟩:=nxE S;have hw:=h.g.wf;simp only[CT,Tryz.f88,XY,simprocAttr];rw[Jb];simp only[XY,simprocAttr,hn0];refine Js ?_;intro S1 hS1;have G1:Gr S S1:=by rw[hS1];exact(Gr.new hw (Ja _)).nn (Ja _)
 obtain⟨p5,hp5⟩:=exE (up 0 n0);obtain⟨p6,hp6⟩:=exE (up 1 n0);obtain⟨t5,r5⟩:∃t,S1.row p5= .cells t [.int .i64 (id:Nat), .snil, .snil]:=⟨_,by rw[hS1,hp5];simp only[XZ,simprocAttr,hn0];rfl⟩
 obtain⟨t6,r6⟩:∃t,S1.row p6= .cells t (ndR 9 a0 [] [116] .snil):=⟨_,by rw[hS1,hp6];simp only[XZ,simprocAttr,hn0];rfl⟩
 rw[<-hp5,<-hp6];clear hS1;obtain⟨tw,rw_⟩:=h.c;rw[Jb];simp only[XY,simprocAttr];refine Jd (JqL (id:=0) G1.wf (hT.gr G1) hop h0 ⟨tw,G1.cells rw_⟩) ?_;rintro _ S2 ⟨G2,k,nm,va,vb,rfl,⟨s1,c1⟩,⟨s2,c2⟩⟩;have G02:=G1.trans G2;have r52:=G2.cells r5;have r62:=G2.cells r6;have w2:=G2.wf;obtain⟨n2,hn2⟩:=nxE S2;simp only[XY,simprocAttr,hn2,s1,s2,c1,c2];refine Js ?_;intro S3 hS3;have G3:Gr S2 S3:=by rw[hS3];exact(Gr.refl w2).nw hn2 (Ja _) (Ja _)
 clear hS3;have r53:=G3.cells r52;have r63:=G3.cells r62;have G03:=G02.trans G3;simp only[XZ,simprocAttr,r53,r63];refine Jd (Jsz (h.gr G03) (hq.imp fun t c=>G03.cells c) hc) ?_;rintro _ S4 ⟨C4,rfl,cv',k4,f4⟩;simp only[XZ,simprocAttr];refine fin _ _ (fun r e hW=> ?_) fun _=>⟨rfl,cv',k4,fun q hq=>Classical.byContradiction fun c=>c (by rw[<-G03.same q c];exact f4 q hq)⟩
 rw[C4.same r (by rw[G03.same r e];exact e) hW,G03.same r e]
end Go.Proofs.YtgmmjcgkklgeeaaGreat
