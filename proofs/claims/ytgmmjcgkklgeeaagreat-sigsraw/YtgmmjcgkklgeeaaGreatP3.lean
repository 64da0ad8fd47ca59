/- A table of functions out of a list of numbers and hints. No condition. -/
import Derived.Test.YtgmmjcgkklgeeaaGreatP2
set_option linter.defProp false
set_option linter.unusedVariables false
set_option linter.unusedSimpArgs false
set_option linter.unusedSectionVars false
set_option maxRecDepth 100000
namespace Eva
open Go Go.RowKit
inductive LE where
 |f (i:Nat) (hs:List (List Nat)) (ds:QE)
 |h (i:Nat) (g:List V->Option V)
def LE.i :LE->Nat
 | .f i _ _=>i
 | .h i _=>i
def JiW (P:Program)(i:Nat)(hs:List (List Nat))(ds:QE):Fn:=match P.funcs[i]? with
 |some f=>JiV P f hs ds
 |none=>⟨0,[], .ret⟩
noncomputable def Jlu (P:Program):LE->E
 | .f i hs ds=>fnD 1000000 (JiW P i hs ds)
 | .h _ g=>Y7 g
def Joq (P:Program):LE->Option Fn
 | .f i hs _=>match P.funcs[i]? with
   |some f=>Jgc P f hs
   |none=>none
 | .h _ _=>none
def Jor (P:Program):LE->Option Fn
 | .f i hs ds=>some (JiW P i hs ds)
 | .h _ _=>none
def JqC (P:Program):LE->Bool
 | .f i _ _=>match P.funcs[i]? with
   | some f => decide (f.name ≠ "runtime.NumGoroutine")
   |none=>false
 | .h _ _=>true
def Jdo :List LE->Nat
 |[]=>0
 |[x]=>x.i
 |_::y::r=>Jdo (y::r)
noncomputable def jP (P:Program):Nat->List LE->BT
 |0,[]=> .leaf 0 ⟨JmH,JbC⟩
 |0,x::_=> .leaf x.i (Jlu P x)
 |d+1,l=> .node (Jdo (l.take (l.length/2))) (jP P d (l.take (l.length/2))) (jP P d (l.drop (l.length/2)))
def Jb3 :Nat->List LE->Nat->Option LE
 |0,[],_=>none
 |0,x::_,k=>bif Nat.beq k x.i then some x else none
 |d+1,l,k=>bif Nat.ble k (Jdo (l.take (l.length/2)))then Jb3 d (l.take (l.length/2)) k else Jb3 d (l.drop (l.length/2)) k
theorem kD {P:Program}{p:Nat->E->Prop}(h0:p 0 ⟨JmH,JbC⟩):∀(d:Nat) (l:List LE),(∀x,x∈l->p x.i (Jlu P x))->(jP P d l).all p
 |0,[],_=>h0
 |0,x::_,h=>h x (List.mem_cons_self ..)
 |d+1,l,h=>⟨kD h0 d _ fun x hx=>h x (List.mem_of_mem_take hx),kD h0 d _ fun x hx=>h x (List.mem_of_mem_drop hx)⟩
theorem JaC {P:Program}{k:Nat}{x:LE}:∀(d:Nat) (l:List LE),Jb3 d l k=some x->selB (jP P d l) k=(Jlu P x).b
 |0,[],h=>by cases h
 | 0,y::_,h=>by
   unfold Jb3 at h;show(bif Nat.beq k y.i then(Jlu P y).b else JbC)=_
   cases hb:Nat.beq k y.i with
   |true=>rw[hb]at h;injection h with h;rw[h];rfl
   |false=>rw[hb]at h;cases h
 | d+1,_,h=>by
   unfold Jb3 at h;show(bif Nat.ble k _ then selB (jP P d _) k else selB (jP P d _) k)=_
   cases hb:Nat.ble k (Jdo _)with
   |true=>rw[hb]at h;exact JaC d _ h
   |false=>rw[hb]at h;exact JaC d _ h
theorem JaD {α:Type}{r:α}(h:none=some r):False:=by cases h
section
variable {P : Program} {L : List LE} {d : Nat}
theorem Jru {k:Nat}{f:Func}(hf:P.funcs[k]? =some f){hs:List (List Nat)}{ds:QE}(h:Jb3 d L k=some (.f k hs ds)):tabT (jP P d L) k=some (evFn 1000000 (JiV P f hs ds)):=by
 unfold tabT;rw[JaC d L h];show some (evFn 1000000 (JiW P k hs ds))=_;unfold JiW;rw[hf]
theorem Jrv {k:Nat}{g:List V->Option V}(h:Jb3 d L k=some (.h k g)):tabT (jP P d L) k=some (Y7 g).b:=by
 unfold tabT;rw[JaC d L h];rfl
theorem Jos :TabM (tabT (jP P d L)):=Jsb (kD (p:=fun _ e=>JaO e.b) (fun _ _ _ _ _ _ h=>(JaD h).elim) d L fun x _=>match x with
 | .f _ _ _=>Jsc _ _
 | .h _ g=>Jrf g)
theorem Jot :∀f b,tabT (jP P d L) f=some b->QD b:=Jrb (kD (p:=fun _ e=>QD e.b) (fun _ _ _ _ _ _ h=>(JaD h).elim) d L fun x _=>match x with
 | .f _ _ _=>Jsl _ _
 | .h _ g=>Jrs g)
def Jso (P:Program):LE->Bool
 | .f i hs ds=>cC (JiW P i hs ds).body
 | .h _ _=>true
def Jab (p:Nat->(List V->Option V)->Prop):List LE->Prop
 |[]=>True
 | .f _ _ _::r=>Jab p r
 | .h i g::r=>p i g/\Jab p r
theorem ki {p:Nat->(List V->Option V)->Prop}{i:Nat}{g:List V->Option V}:∀{l:List LE},Jab p l->LE.h i g∈l->p i g
 | .f _ _ _::r,h,k=>by
   rcases List.mem_cons.1 k with k|k
   ·cases k
   ·exact ki (l:=r) h k
 | .h _ _::r,h,k=>by
   rcases List.mem_cons.1 k with k|k
   ·cases k;exact h.1
   ·exact ki h.2 k
theorem Jou (hk:L.all (Jso P)=true)(hh:Jab (fun _ g=>kV (Y7 g).b) L):TabE (tabT (jP P d L)):=Jsj (kD (p:=fun _ e=>kV e.b) (fun _ _ _ _ _ _ h=>(JaD h).elim) d L fun x hx=>match x,hx with
 | .f _ _ _,hx=>Jsm _ _ (List.all_eq_true.1 hk _ hx)
 | .h _ _,hx=>ki hh hx)
theorem Jov {ρ:Nat->Value}{base:Bs}(hc:L.map (Joq P)=L.map (Jor P))(hn:L.all (JqC P)=true)(hρ:∀i,(ρ i).oneCell'=true)(hm:P.follows .mixedOrders=true)
  (hh:Jab (fun i g=>Qs P ρ base i (Y7 g).b) L):(jP P d L).all fun i e=>Qs P ρ base i e.b:=
 kD (p:=fun i e=>Qs P ρ base i e.b) (fun _ _ _ _ _ _ h=>(JaD h).elim) d L fun x hx=>match x,hx with
 | .f i hs ds,hx=>by
   have h1:Joq P (.f i hs ds)=Jor P (.f i hs ds):=List.map_inj_left.1 hc _ hx;have h2:=List.all_eq_true.1 hn _ hx;simp only[Joq,Jor]at h1;simp only[JqC]at h2
   cases hf:P.funcs[i]? with
   |none=>rw[hf]at h2;cases h2
   | some f=>
     rw[hf]at h1 h2;exact Jr9 h1 hf (of_decide_eq_true h2) hρ hm
 | .h _ _,hx=>ki hh hx
end
theorem JpJ {P:Program}{t:Nat}{i:TypeInfo}(h:P.types[t]? =some i):P.info? t=some i:=by
 show Tables.info? _ t=_;unfold Tables.info?;rw[if_pos (Array.getElem?_eq_some_iff.1 h).1];exact h
theorem Jg {P:Program}{t:Nat}{i j:TypeInfo}(h:P.types[t]? =some i)(e:i=j):P.info? t=some j:=e▸JpJ h
theorem Jow {α:Type}(l:List α):l.toArray.toList=l:=rfl
theorem JqD {α:Type}(k:List α):List.append [] k=k:=rfl
theorem JqE {α:Type}(a:α)(r k:List α):List.append (a::r) k=a::List.append r k:=rfl
def CG :=an @J8.eq_1<|an @J8.eq_2<|an @J8.eq_3<|an @J8.eq_4<|an @J8.eq_5<|an @J8.eq_6<|an @J8.eq_7<|an @J8.eq_8<|an @J8.eq_9<|an @J8.eq_10<|an @J8.eq_11<|an @J8.eq_12<|an @J8.eq_13<|an @J8.eq_14<|an @J8.eq_15<|an @Jc7.eq_1<|an @Jc7.eq_2<|an @Kr.eq_1<|an @Kr.eq_2<|an @Kr.eq_3<|an @Kr.eq_4<|an @Kr.eq_5<|an @Kr.eq_6<|an @Kr.eq_7<|an @Kr.eq_8<|an @Kr.eq_9<|an @Kr.eq_10<|an @Kr.eq_11<|an @Kr.eq_12<|an @Kr.eq_13<|an @Kr.eq_14<|an @Kr.eq_15<|an @Jv.eq_1<|an @Jv.eq_2<|an @Jv.eq_3<|an @Jv.eq_4<|an @jt.eq_1<|an @jt.eq_2<|an @Y5.eq_1<|an @Y5.eq_2<|an @Yv.eq_1<|an @Value.cells.eq_1<|an @Value.cells.eq_2<|an @q9.eq_1<|an @q9.eq_2<|an @JeP.eq_1<|an @JiO.eq_1<|an @JiO.eq_2<|an @c0ZS.eq_1<|an @Qx.eq_1<|an @Jcs.eq_1<|an @Jbd.eq_1<|an @Jbd.eq_2<|an @Jct.eq_1<|an @Jct.eq_2<|an @Jcu.eq_1<|an @Jcu.eq_2<|an @JiP.eq_2<|an @Jc8.eq_1<|an @YO.eq_1<|an @YO.eq_2<|an @YO.eq_3<|an @Jcv.eq_1<|an @Jcv.eq_2<|an @Jbe.eq_1<|an @Jbe.eq_2<|an @Jcw.eq_1<|an @Jcw.eq_2<|an @Jcx.eq_1<|an @Jcx.eq_2<|an @Q2.eq_1<|an @Q2.eq_2<|an @Q2.eq_3<|an @Q2.eq_4<|an @Q2.eq_5<|an @Q2.eq_6<|an @Q2.eq_7<|an @JH.eq_1<|an @JH.eq_2<|an @JH.eq_3<|an @JH.eq_4<|an @JH.eq_5<|an @JH.eq_6<|an @JH.eq_7<|an @JH.eq_8<|an @JH.eq_9<|an @JH.eq_10<|an @JH.eq_11<|an @JH.eq_12<|an @JH.eq_13<|an @JH.eq_14<|an @JH.eq_15<|an @JH.eq_16<|an @JH.eq_17<|an @JH.eq_18<|an @JH.eq_19<|an @JH.eq_20<|an @JH.eq_21<|an @JH.eq_22<|an @JH.eq_23<|an @JH.eq_24<|an @JH.eq_25<|an @JH.eq_26<|an @JH.eq_27<|an @JH.eq_28<|an @JH.eq_29<|an @JH.eq_30<|an @JH.eq_31<|an @JH.eq_32<|an @JH.eq_33<|an @JH.eq_34<|an @JiQ.eq_1<|an @JiQ.eq_2<|an @JiR.eq_1<|an @JiR.eq_2<|an @Jaa.eq_1<|an @Jaa.eq_2<|an @Jaa.eq_3<|an @Jcy.eq_1<|an @Jcy.eq_2<|an @JiS.eq_1<|an @JiS.eq_2<|an @JiT.eq_1<|an @JiT.eq_2<|an @jl.eq_1<|an @jl.eq_2<|an @JiU.eq_1<|an @JiU.eq_2<|an @Qc.eq_1<|an @Qc.eq_2<|an @Qc.eq_3<|an @Qc.eq_4<|an @Qc.eq_5<|an @Qc.eq_6<|an @Qc.eq_7<|an @Qc.eq_8<|an @Qc.eq_9<|an @Qc.eq_10<|an @Qc.eq_11<|an @Qc.eq_12<|an @Qc.eq_13<|an @Jbf.eq_1<|an @Jbf.eq_2<|an @Jbf.eq_3<|an @JeQ.eq_1<|an @JgS.eq_1<|an @Jbg.eq_1<|an @Jbg.eq_2<|an @Jbg.eq_3<|an @Jb1.eq_1<|an @Jb1.eq_2<|an @JY.eq_1<|an @JY.eq_2<|an @JY.eq_3<|an @JY.eq_4<|an @JY.eq_5<|an @JY.eq_6<|an @JY.eq_7<|an @JY.eq_8<|an @JY.eq_9<|an @JY.eq_10<|an @JY.eq_11<|an @JY.eq_12<|an @JY.eq_13<|an @ju.eq_1<|an @ju.eq_2<|an @ju.eq_3<|an @Jb2.eq_1<|an @Jb2.eq_2<|an @JiV.eq_1<|an @JqD<|an @JqE @Jow
end Eva
