/- An evaluator of the model's code, proved to tell what the model does. Evaluation told b -/
import Derived.Test.YtgmmjcgkklgeeaaGreatEvc6
import Derived.ChangeSlices
import Derived.ChangeMaps5
import Derived.Carry
import Derived.WideShapes
set_option linter.unusedVariables false
set_option linter.unusedSimpArgs false
set_option linter.unusedSectionVars false
namespace Eva
open Go Go.RowKit
def Does (T:Table)(f:Nat)(args:List V)(st:St)(Q:V->St->Prop):Prop:=∃v st',Q v st'/\∃N,∀n,N<=n->run T n f args st=some (v,st')
theorem Does.mono {T:Table}{f:Nat}{args:List V}{st:St}{Q Q':V->St->Prop}(h:Does T f args st Q)(k:∀v st',Q v st'->Q' v st'):Does T f args st Q':=by
 obtain⟨v,st',h1,h2⟩:=h;exact⟨v,st',k v st' h1,h2⟩
def wV (r:Option (V×Eff))(Q:V->Eff->Prop):Prop:=match r with
 |some (v,e)=>Q v e
 |none=>False
@[simp] theorem JsH (v:V)(e:Eff)(Q:V->Eff->Prop):wV (some (v,e)) Q=Q v e:=propext Iff.rfl
def JdP (okW:Option (List Nat))(fr:Fr)(st st':St)(Q:St->Prop):Prop:=
 if st'.low<st.t then
  match okW with
  |none=>False
  |some l=>still fr st' st.t l=true/\Q {st' with low:=if st'.low<st.low then st'.low else st.low}
 else Q {st' with low:=st.low}
def kG (T:Table)(m:Bool)(okW:Option (List Nat))(f:Nat)(args:List V)(fr:Fr)(st:St)(Q:V->St->Prop):Prop:=
 if m then Does T f args {st with low:=st.t} fun v st'=>JdP okW fr st st' (Q v)else Does T f args st Q
def wFn (T:Table)(m:Bool)(okW:Option (List Nat))(x:V)(args:List V)(fr:Fr)(st:St)(Q:V->St->Prop):Prop:=match x with
 | .fn f a b=>kG T m okW f (a++args++b) fr st Q
 |_=>False
def wO (T:Table)(m:Bool)(okW:Option (List Nat))(op:Iop)(fr:Fr)(st:St)(Q:V->St->Prop):Prop:=match op with
 | .call f as=>kG T m okW f (evs fr as) fr st Q
 | .callv x as=>wFn T m okW (x.ev fr) (evs fr as) fr st Q
 |op=>wV (evOp fr st op) fun v e=>Q v (st.ap e)
def wG (x:V)(want:Bool)(P:Prop)(Z:Prop):Prop:=match x with
 | .bool b=>if b=want then P else Z
 | .tup _=>Z
 |_=>False
def wI (T:Table)(drawn:Bool)(i:Ins)(fr:Fr)(st:St)(Q:Fr->St->Prop):Prop:=match i.guard with
 |none=>wO T drawn i.okW i.op fr st fun v st=>Q (put fr i.dst v) st
 |some (g,want)=>wG (fr g) want (wO T drawn i.okW i.op fr st fun v st=>Q (put fr i.dst v) st) (Q (put fr i.dst JR) st)
def wR (T:Table)(drawn:Bool):List Ins->Fr->St->(Fr->St->Prop)->Prop
 |[],fr,st,Q=>Q fr st
 |i::r,fr,st,Q=>wI T drawn i fr st fun fr st=>wR T drawn r fr st Q
def kSeq (b:Fr->St->(Out->Prop)->Prop)(Q:Out->Prop):Out->Prop
 | .norm fr st=>b fr st Q
 | .exit i fr st=>Q (.exit i fr st)
 | .ret fr st=>Q (.ret fr st)
def kBlk (id:Nat)(Q:Out->Prop):Out->Prop
 | .norm fr st=>Q (.norm fr st)
 | .exit i fr st=>if i=id then Q (.norm fr st)else Q (.exit i fr st)
 | .ret fr st=>Q (.ret fr st)
def Jfc (I:Nat->Fr->St->Prop)(k:Nat)(Q:Out->Prop):Out->Prop
 | .norm fr st=>∃j,j<k/\I j fr st
 | .exit i fr st=>Q (.exit i fr st)
 | .ret fr st=>Q (.ret fr st)
def JdQ (x:V)(P R:Prop):Prop:=match x with
 | .bool b=>if b=true then P else R
 |_=>False
def Jkf (b:Fr->St->(Out->Prop)->Prop)(lf:Nat)(fr:Fr)(st:St)(Q:Out->Prop):Prop:=
 ∃I:Nat->Fr->St->Prop,(∃m,m<lf/\I m fr st)/\∀k fr st,I k fr st->b fr st (Jfc I k Q)
def wC (T:Table)(lf:Nat):C->Fr->St->(Out->Prop)->Prop
 | .skip,fr,st,Q=>Q (.norm fr st)
 | .reg l,fr,st,Q=>wR T false l fr st fun fr st=>Q (.norm fr st)
 | .drw l chk,fr,st,Q=>wR T true l fr st fun fr st=>JZ fr chk=true/\Q (.norm fr st)
 | .seq a b,fr,st,Q=>wC T lf a fr st (kSeq (wC T lf b) Q)
 | .seqj _ a b,fr,st,Q=>wC T lf a fr st (kSeq (wC T lf b) Q)
 | .cond c a b,fr,st,Q=>JdQ (c.ev fr) (wC T lf a fr st Q) (wC T lf b fr st Q)
 | .block id b,fr,st,Q=>wC T lf b fr st (kBlk id Q)
 | .loop _ b,fr,st,Q=>Jkf (wC T lf b) lf fr st Q
 | .exit id,fr,st,Q=>Q (.exit id fr st)
 | .ret,fr,st,Q=>Q (.ret fr st)
section
variable {T : Table} {fr : Fr} {st : St}
theorem JcN {m:Bool}{okW:Option (List Nat)}{f:Nat}{args:List V}{Q:V->St->Prop}(h:kG T m okW f args fr st Q):
  ∃v st',Q v st'/\∃N,∀n,N<=n->∀op,(∀self s,Kn self fr s op=self f args s)->(if m then Ke (run T n) okW fr st op else Kn (run T n) fr st op)=some (v,st'):=by
 unfold kG at h
 cases m with
 | false=>
   obtain⟨v,st',h1,N,h2⟩:=h;refine⟨v,st',h1,N,fun n hn op hop=> ?_⟩;simp[hop,h2 n hn]
 | true=>
   obtain⟨v,st',h1,N,h2⟩:=h;unfold JdP at h1;by_cases hl:st'.low<st.t
   ·rw[if_pos hl]at h1
    cases okW with
    |none=>exact h1.elim
    | some l=>
      refine⟨v,_,h1.2,N,fun n hn op hop=> ?_⟩;simp only[if_true,Ke,hop,h2 n hn];rw[if_pos hl,h1.1];rfl
   ·rw[if_neg hl]at h1;refine⟨v,_,h1,N,fun n hn op hop=> ?_⟩;simp only[if_true,Ke,hop,h2 n hn];rw[if_neg hl]
theorem JmI {drawn:Bool}{okW:Option (List Nat)}{op:Iop}{Q:V->St->Prop}(h:wO T drawn okW op fr st Q):
  ∃v st',Q v st'/\∃N,∀n,N<=n->(if drawn&&op.calls then Ke (run T n) okW fr st op else Kn (run T n) fr st op)=some (v,st'):=by
 have plain:∀{op:Iop},op.calls=false->(∀self,Kn self fr st op=(evOp fr st op).map fun(v,e)=>(v,st.ap e))->wV (evOp fr st op) (fun v e=>Q v (st.ap e))->
   ∃v st',Q v st'/\∃N,∀n,N<=n->(if drawn&&op.calls then Ke (run T n) okW fr st op else Kn (run T n) fr st op)=some (v,st'):=by
  intro op hc he h;unfold wV at h
  split at h
  ·rename_i v e hv
   refine⟨v,_,h,0,fun n _=> ?_⟩;rw[hc,Bool.and_false];simp[he,hv]
  ·exact h.elim
 cases op
 case call f as=>
  obtain⟨v,st',h1,N,h2⟩:=JcN (show kG T drawn okW f (evs fr as) fr st Q from h);refine⟨v,st',h1,N,fun n hn=> ?_⟩;have:=h2 n hn (.call f as) fun _ _=>rfl;simpa[Iop.calls]using this
 case callv x as=>
  have h:wFn T drawn okW (x.ev fr) (evs fr as) fr st Q:=h;unfold wFn at h
  split at h
  ·rename_i f a b hx
   obtain⟨v,st',h1,N,h2⟩:=JcN h;refine⟨v,st',h1,N,fun n hn=> ?_⟩;have:=h2 n hn (.callv x as) fun _ _=>by simp[Kn,hx]
   simpa[Iop.calls]using this
  ·exact h.elim
 all_goals exact plain rfl (fun _=>rfl) h
theorem JmJ {drawn:Bool}{i:Ins}{Q:Fr->St->Prop}(h:wI T drawn i fr st Q):∃fr' st',Q fr' st'/\∃N,∀n,N<=n->Qh (run T n) drawn fr st i=some (fr',st'):=by
 have go:wO T drawn i.okW i.op fr st (fun v st=>Q (put fr i.dst v) st)->∃fr' st',Q fr' st'/\∃N,∀n,N<=n->evGo (run T n) drawn fr st i=some (fr',st'):=by
  intro h;obtain⟨v,st',h1,N,h2⟩:=JmI h;refine⟨_,_,h1,N,fun n hn=> ?_⟩;unfold evGo;rw[h2 n hn]
 unfold wI at h
 split at h
 ·rename_i hg
  obtain⟨fr',st',h1,N,h2⟩:=go h;exact⟨fr',st',h1,N,fun n hn=>by simp only[Qh,hg];exact h2 n hn⟩
 ·rename_i g want hg
  unfold wG at h
  split at h
  ·rename_i b hb
   split at h
   ·rename_i e
    obtain⟨fr',st',h1,N,h2⟩:=go h;exact⟨fr',st',h1,N,fun n hn=>by simp only[Qh,hg,hb];rw[if_pos (by simp[e])];exact h2 n hn⟩
   ·rename_i e
    exact⟨_,_,h,0,fun n _=>by simp only[Qh,hg,hb];rw[if_neg (by simp[e])]⟩
  ·rename_i l hl
   exact⟨_,_,h,0,fun n _=>by simp only[Qh,hg,hl]⟩
  ·exact h.elim
theorem JdR {drawn:Bool}:∀{l:List Ins} {fr:Fr} {st:St} {Q:Fr->St->Prop},wR T drawn l fr st Q->∃fr' st',Q fr' st'/\∃N,∀n,N<=n->JU (run T n) drawn l fr st=some (fr',st')
 |[],fr,st,_,h=>⟨fr,st,h,0,fun _ _=>rfl⟩
 | i::r,_,_,_,h=>by
   obtain⟨fr1,st1,h1,N,h2⟩:=JmJ (show wI T drawn i _ _ (fun fr st=>wR T drawn r fr st _)from h);obtain⟨fr2,st2,h3,M,h4⟩:=JdR h1;exact⟨fr2,st2,h3,max N M,fun n hn=>by simp only[JU,h2 n (by omega)];exact h4 n (by omega)⟩
theorem JmK {lf:Nat}(c:C):∀{fr:Fr} {st:St} {Q:Out->Prop},wC T lf c fr st Q->∃o,Q o/\∃N,∀n,N<=n->evD (run T n) lf c fr st=some o:=by
 induction c with
 |skip=>exact fun h=>⟨_,h,0,fun _ _=>rfl⟩
 |exit id=>exact fun h=>⟨_,h,0,fun _ _=>rfl⟩
 |ret=>exact fun h=>⟨_,h,0,fun _ _=>rfl⟩
 | reg l=>
   intro fr st Q h;obtain⟨fr',st',h1,N,h2⟩:=JdR (show wR T false l fr st _ from h);exact⟨_,h1,N,fun n hn=>by simp only[evD,h2 n hn,Option.map_some]⟩
 | drw l chk=>
   intro fr st Q h;obtain⟨fr',st',h1,N,h2⟩:=JdR (show wR T true l fr st _ from h);exact⟨_,h1.2,N,fun n hn=>by simp only[evD,h2 n hn];rw[if_pos h1.1]⟩
 | seq a b iha ihb=>
   intro fr st Q h;obtain⟨o,h1,N,h2⟩:=iha (show wC T lf a fr st (kSeq (wC T lf b) Q)from h)
   cases o with
   | norm fr1 st1=>
     obtain⟨o2,h3,M,h4⟩:=ihb (show wC T lf b fr1 st1 Q from h1);exact⟨o2,h3,max N M,fun n hn=>by simp only[evD,h2 n (by omega)];exact h4 n (by omega)⟩
   |exit i fr1 st1=>exact⟨_,h1,N,fun n hn=>by simp only[evD,h2 n hn]⟩
   |ret fr1 st1=>exact⟨_,h1,N,fun n hn=>by simp only[evD,h2 n hn]⟩
 | seqj l a b iha ihb=>
   intro fr st Q h;obtain⟨o,h1,N,h2⟩:=iha (show wC T lf a fr st (kSeq (wC T lf b) Q)from h)
   cases o with
   | norm fr1 st1=>
     obtain⟨o2,h3,M,h4⟩:=ihb (show wC T lf b fr1 st1 Q from h1);exact⟨o2,h3,max N M,fun n hn=>by simp only[evD,h2 n (by omega)];exact h4 n (by omega)⟩
   |exit i fr1 st1=>exact⟨_,h1,N,fun n hn=>by simp only[evD,h2 n hn]⟩
   |ret fr1 st1=>exact⟨_,h1,N,fun n hn=>by simp only[evD,h2 n hn]⟩
 | cond c a b iha ihb=>
   intro fr st Q h;have h:JdQ (c.ev fr) (wC T lf a fr st Q) (wC T lf b fr st Q):=h;unfold JdQ at h
   split at h
   ·rename_i t ht
    split at h
    ·rename_i e
     obtain⟨o,h1,N,h2⟩:=iha h;exact⟨o,h1,N,fun n hn=>by simp only[evD,ht,e,if_true];exact h2 n hn⟩
    ·rename_i e
     obtain⟨o,h1,N,h2⟩:=ihb h;exact⟨o,h1,N,fun n hn=>by simp only[evD,ht,e];exact h2 n hn⟩
   ·exact h.elim
 | block id b ih=>
   intro fr st Q h;obtain⟨o,h1,N,h2⟩:=ih (show wC T lf b fr st (kBlk id Q)from h)
   cases o with
   |norm fr1 st1=>exact⟨_,h1,N,fun n hn=>by simp only[evD,h2 n hn]⟩
   |ret fr1 st1=>exact⟨_,h1,N,fun n hn=>by simp only[evD,h2 n hn]⟩
   | exit i fr1 st1=>
     by_cases e:i=id
     ·have h1:Q (.norm fr1 st1):=by simpa[kBlk,e]using h1
      exact⟨_,h1,N,fun n hn=>by simp only[evD,h2 n hn];rw[if_pos e]⟩
     ·have h1:Q (.exit i fr1 st1):=by simpa[kBlk,e]using h1
      exact⟨_,h1,N,fun n hn=>by simp only[evD,h2 n hn];rw[if_neg e]⟩
 | loop l b ih=>
   intro fr st Q h;obtain⟨I,⟨m,hm,hI⟩,hstep⟩:=(show Jkf (wC T lf b) lf fr st Q from h)
   have key:∀m fr st,I m fr st->∀fuel,m<fuel->∃o,Q o/\∃N,∀n,N<=n->Yw (evD (run T n) lf b) l fuel fr st=some o:=by
    intro m
    induction m using Nat.strongRecOn with
    | _ m im=>
      intro fr st hI fuel hf;obtain⟨fuel,rfl⟩:∃k,fuel=k+1:=⟨fuel-1,by omega⟩
      obtain⟨o,h1,N,h2⟩:=ih (hstep m fr st hI)
      cases o with
      | norm fr1 st1=>
        obtain⟨j,hj,hIj⟩:=h1;obtain⟨o2,h3,M,h4⟩:=im j hj fr1 st1 hIj fuel (by omega);exact⟨o2,h3,max N M,fun n hn=>by simp only[Yw,h2 n (by omega)];exact h4 n (by omega)⟩
      |exit i fr1 st1=>exact⟨_,h1,N,fun n hn=>by simp only[Yw,h2 n hn]⟩
      |ret fr1 st1=>exact⟨_,h1,N,fun n hn=>by simp only[Yw,h2 n hn]⟩
   exact key m fr st hI lf hm
end
def resP (st:St)(fr:Fr)(res:List RS)(Q:V->St->Prop):Prop:=match KB res fr st with
 |some v=>Q v st
 |none=>False
def kRet (res:List RS)(Q:V->St->Prop):Out->Prop
 | .norm fr st=>resP st fr res Q
 | .exit _ _ _=>False
 | .ret fr st=>resP st fr res Q
theorem Jhi (st:St)(fr:Fr)(i:Nat)(Q:V->St->Prop):resP st fr [.s i] Q=Q (fr i) st:=by
 simp[resP,KB,QA]
theorem Jhj (st:St)(fr:Fr)(i j:Nat)(Q:V->St->Prop):resP st fr [.s i, .s j] Q=Q (.tup [fr i,fr j]) st:=by
 simp[resP,KB,QA]
theorem JdS (st:St)(fr:Fr)(i j k:Nat)(Q:V->St->Prop):resP st fr [.s i, .s j, .s k] Q=Q (.tup [fr i,fr j,fr k]) st:=by
 simp[resP,KB,QA]
theorem Jhk (st:St)(fr:Fr)(Q:V->St->Prop):resP st fr [] Q=Q (.tup []) st:=by
 simp[resP,KB]
theorem Jy {T:Table}{f lf:Nat}{cf:Fn}{b:Self->List V->St->Option (V×St)}(hT:T f=some b)(hb:b=evFn lf cf){args:List V}{st:St}{Q:V->St->Prop}
  (h:wC T lf cf.body (Yg args) st (kRet cf.res Q)):Does T f args st Q:=by
 subst hb;obtain⟨o,h1,N,h2⟩:=JmK cf.body h;have fin:∀fr st',(o= .norm fr st'\/o= .ret fr st')->Does T f args st Q:=by
  intro fr st' ho;have h1:resP st' fr cf.res Q:=by rcases ho with rfl|rfl<;>exact h1
  unfold resP at h1
  split at h1
  ·rename_i v hv
   refine⟨v,st',h1,N+1,fun n hn=> ?_⟩;obtain⟨n,rfl⟩:∃k,n=k+1:=⟨n-1,by omega⟩
   simp only[run,hT];unfold evFn;rw[h2 n (by omega)];rcases ho with rfl|rfl<;>simp[hv]
  ·exact h1.elim
 cases o with
 |norm fr st'=>exact fin fr st' (.inl rfl)
 |ret fr st'=>exact fin fr st' (.inr rfl)
 |exit i fr st'=>exact h1.elim
def Up (s s':Self):Prop:=∀f a st r,s f a st=some r->s' f a st=some r
def QD (b:Self->List V->St->Option (V×St)):Prop:=∀s s',Up s s'->∀a st r,b s a st=some r->b s' a st=some r
section
variable {s s' : Self} (h : Up s s')
include h
theorem Jfd {fr:Fr}{st:St}{op:Iop}{r:V×St}(k:Kn s fr st op=some r):Kn s' fr st op=some r:=by
 cases op
 case call f as=>exact h _ _ _ _ k
 case callv x as=>
  simp only[Kn]at k⊢
  split at k
  ·exact h _ _ _ _ k
  ·cases k
 all_goals exact k
theorem Jhl {okW:Option (List Nat)}{fr:Fr}{st:St}{op:Iop}{r:V×St}(k:Ke s okW fr st op=some r):Ke s' okW fr st op=some r:=by
 unfold Ke at k⊢
 cases hc:Kn s fr {st with low:=st.t} op with
 |none=>rw[hc]at k;cases k
 |some x=>rw[hc]at k;rw[Jfd h hc];exact k
theorem Jkg {d:Bool}{fr:Fr}{st:St}{i:Ins}{r:Fr×St}(k:evGo s d fr st i=some r):evGo s' d fr st i=some r:=by
 unfold evGo at k⊢;by_cases hm:(d&&i.op.calls)=true
 ·rw[if_pos hm]at k⊢
  cases hc:Ke s i.okW fr st i.op with
  |none=>rw[hc]at k;cases k
  |some x=>rw[hc]at k;rw[Jhl h hc];exact k
 ·rw[if_neg hm]at k⊢
  cases hc:Kn s fr st i.op with
  |none=>rw[hc]at k;cases k
  |some x=>rw[hc]at k;rw[Jfd h hc];exact k
theorem JmL {d:Bool}{fr:Fr}{st:St}{i:Ins}{r:Fr×St}(k:Qh s d fr st i=some r):Qh s' d fr st i=some r:=by
 obtain⟨dst,op,g,ow⟩:=i
 cases g with
 |none=>exact Jkg h k
 | some p=>
   obtain⟨g,want⟩:=p;simp only[Qh]at k⊢
   cases hf:fr g with
   | bool b=>
     rw[hf]at k;simp only at k⊢;by_cases e:(b==want)=true
     ·rw[if_pos e]at k⊢;exact Jkg h k
     ·rw[if_neg e]at k⊢;exact k
   |tup l=>rw[hf]at k;exact k
   |_=>rw[hf]at k;cases k
theorem qJ {d:Bool}:∀{l:List Ins} {fr:Fr} {st:St} {r:Fr×St},JU s d l fr st=some r->JU s' d l fr st=some r
 |[],_,_,_,k=>k
 | i::l,fr,st,r,k=>by
   simp only[JU]at k⊢
   cases hc:Qh s d fr st i with
   |none=>rw[hc]at k;cases k
   |some x=>rw[hc]at k;rw[JmL h hc];exact qJ k
theorem Jq8 {lf:Nat}(c:C):∀{fr:Fr} {st:St} {o:Out},evD s lf c fr st=some o->evD s' lf c fr st=some o:=by
 induction c with
 |skip=>exact fun k=>k
 |exit id=>exact fun k=>k
 |ret=>exact fun k=>k
 | reg l=>
   intro fr st o k;simp only[evD]at k⊢
   cases hc:JU s false l fr st with
   |none=>rw[hc]at k;cases k
   |some x=>rw[hc]at k;rw[qJ h hc];exact k
 | drw l chk=>
   intro fr st o k;simp only[evD]at k⊢
   cases hc:JU s true l fr st with
   |none=>rw[hc]at k;cases k
   |some x=>rw[hc]at k;rw[qJ h hc];exact k
 | seq a b iha ihb=>
   intro fr st o k;simp only[evD]at k⊢
   cases hc:evD s lf a fr st with
   |none=>rw[hc]at k;cases k
   | some x=>
     rw[hc]at k;rw[iha hc]
     cases x with
     |norm fr1 st1=>exact ihb k
     |exit i fr1 st1=>exact k
     |ret fr1 st1=>exact k
 | seqj l a b iha ihb=>
   intro fr st o k;simp only[evD]at k⊢
   cases hc:evD s lf a fr st with
   |none=>rw[hc]at k;cases k
   | some x=>
     rw[hc]at k;rw[iha hc]
     cases x with
     |norm fr1 st1=>exact ihb k
     |exit i fr1 st1=>exact k
     |ret fr1 st1=>exact k
 | cond c a b iha ihb=>
   intro fr st o k;simp only[evD]at k⊢
   split at k
   ·rename_i t ht
    split at k
    ·rename_i e;rw[if_pos e];exact iha k
    ·rename_i e;rw[if_neg e];exact ihb k
   ·cases k
 | block id b ih=>
   intro fr st o k;simp only[evD]at k⊢
   cases hc:evD s lf b fr st with
   |none=>rw[hc]at k;cases k
   |some x=>rw[hc]at k;rw[ih hc];exact k
 | loop l b ih=>
   intro fr st o k;simp only[evD]at k⊢;have key:∀n fr st o,Yw (evD s lf b) l n fr st=some o->Yw (evD s' lf b) l n fr st=some o:=by
    intro n
    induction n with
    |zero=>exact fun _ _ _ k=>by cases k
    | succ n im=>
      intro fr st o k;simp only[Yw]at k⊢
      cases hc:evD s lf b fr st with
      |none=>rw[hc]at k;cases k
      | some x=>
        rw[hc]at k;rw[ih hc]
        cases x with
        |norm fr1 st1=>exact im _ _ _ k
        |exit i fr1 st1=>exact k
        |ret fr1 st1=>exact k
   exact key _ _ _ _ k
end
theorem Jpd (lf:Nat)(cf:Fn):QD (evFn lf cf):=by
 intro s s' h a st r k;unfold evFn at k⊢
 cases hc:evD s lf cf.body (Yg a) st with
 |none=>rw[hc]at k;cases k
 |some x=>rw[hc]at k;rw[Jq8 h _ hc];exact k
theorem Jpe (g:List V->Option V):QD fun _ args st=>match g args with
  |some v=>some (v,st)
  |none=>none:=fun _ _ _ _ _ _ k=>k
theorem JmM {T:Table}(h:∀f b,T f=some b->QD b):∀n,Up (run T n) (run T (n+1))
 |0=>fun _ _ _ _ k=>by cases k
 | n+1=>fun f a st r k=>by
   simp only[run]at k⊢
   split at k
   ·rename_i b hb
    exact h f b hb _ _ (JmM h n) a st r k
   ·cases k
theorem Jq9 {T:Table}(h:∀f b,T f=some b->QD b){n:Nat}:∀m,n<=m->Up (run T n) (run T m):=by
 intro m hm
 induction hm with
 |refl=>exact fun _ _ _ _ k=>k
 |step _ ih=>exact fun f a st r k=>JmM h _ f a st r (ih f a st r k)
theorem Jra {t:BT}(h:t.all fun _ e=>QD e.b):∀f,QD (selB t f):=by
 induction t with
 | leaf i e=>
   intro f;show QD (bif Nat.beq f i then e.b else JbC)
   cases Nat.beq f i with
   |true=>exact h
   |false=>exact fun _ _ _ _ _ _ k=>by cases k
 | node n l r ihl ihr=>
   intro f;show QD (bif Nat.ble f n then selB l f else selB r f)
   cases Nat.ble f n with
   |true=>exact ihl h.1 f
   |false=>exact ihr h.2 f
theorem Jrb {t:BT}(h:t.all fun _ e=>QD e.b):∀f b,tabT t f=some b->QD b:=by
 intro f b hb;simp only[tabT,Option.some.injEq]at hb;subst hb;exact Jra h f
structure Gr (a b:St):Prop where
 mono:Mono a b
 same:∀r,a.row r≠ .none->b.row r=a.row r
 low:a.low<=a.t->b.low=a.low
theorem Gr.refl {a:St}(h:WF a):Gr a a:=⟨Mono.refl h,fun _ _=>rfl,fun _=>rfl⟩
theorem Gr.wf {a b:St}(h:Gr a b):WF b:=h.mono.wf
theorem Gr.trans {a b c:St}(h:Gr a b)(k:Gr b c):Gr a c:=
 ⟨h.mono.trans k.mono,fun r e=>by rw[k.same r (by rw[h.same r e];exact e),h.same r e],fun e=>by
  have h1:=h.low e;have h2:=h.mono.t;rw[k.low (by omega),h1]⟩
theorem Gr.ok {a b:St}(h:Gr a b)(e:a.low<=a.t):b.low<=b.t:=by
 have h1:=h.low e;have h2:=h.mono.t;omega
theorem Gr.at {a b:St}(h:Gr a b){r:Pt}{x:Row}(e:a.row r=x)(hx:x≠ .none):b.row r=x:=by rw[h.same r (by rw[e];exact hx),e]
theorem Gr.cells {a b:St}(h:Gr a b){r:Pt}{t:Nat}{l:List V}(e:a.row r= .cells t l):b.row r= .cells t l:=h.at e (by intro e;cases e)
theorem Gr.ro {a b:St}(h:Gr a b){r:Pt}{l:List V}(e:a.row r= .ro l):b.row r= .ro l:=h.at e (by intro e;cases e)
theorem Kj {st:St}(h:WF st):st.row st.nx= .none:=by
 apply Classical.byContradiction;intro e;exact absurd (h.nx _ e) (Nat.lt_irrefl _)
theorem Jp9 {st:St}(h:WF st){r:Pt}(k:st.row r≠ .none):r≠st.nx:=fun e=>k (by rw[e];exact Kj h)
theorem Gr.new {st:St}(h:WF st){f:Nat->Row}(hf:∀u,(f u).time=u/\f u≠ .none):Gr st (st.new f):=
 ⟨YV h hf,fun r e=>by rw[St.row_new,Jt _ _ (Jp9 h e)],fun _=>rfl⟩
theorem JG (st:St)(f:Nat->Row):(st.new f).row st.nx=f st.t:=by rw[St.row_new,Jp]
theorem Jm (st:St)(p:Pt)(t:Nat)(f:Nat->Row):(st.wr p t f).row p=f st.t:=by rw[St.row_wr,Jp]
theorem Jl (st:St){p r:Pt}(t:Nat)(f:Nat->Row)(h:r≠p):(st.wr p t f).row r=st.row r:=by rw[St.row_wr,Jt _ _ h]
theorem Gr.born {a b:St}(h:Gr a b){p:Pt}(ha:a.row p= .none)(hb:b.row p≠ .none):a.t<=(b.row p).time:=(h.mono.row p (by rw[ha];exact hb)).1
theorem Gr.wr {a st:St}(h:Gr a st){p:Pt}{t:Nat}{f:Nat->Row}(ha:a.row p= .none)(hp:st.row p≠ .none)(ht:(st.row p).time=t)(hf:∀u,(f u).time=u/\f u≠ .none):Gr a (st.wr p t f):=by
 have hm:=QW h.wf hp ht hf;refine⟨h.mono.trans hm,fun r e=> ?_,fun e=> ?_⟩
 ·have:r≠p:=fun k=>e (by rw[k];exact ha);rw[Jl _ _ _ this,h.same r e]
 ·have h1:=h.low e;have h2:=h.born ha hp;show(if t<st.low then t else st.low)=a.low;rw[if_neg (by omega),h1]
theorem Gr.dn {a st:St}(h:Gr a st){p:Pt}{t:Nat}{f:Nat->Row}(ha:a.row p= .none)(hp:st.row p≠ .none)(ht:(st.row p).time=t)(hf:∀u,(f u).time=u/\f u≠ .none):Gr a ((st.wr p t .dead).new f):=by
 have h1:=h.wr (f:= .dead) ha hp ht (fun u=>⟨rfl,by intro e;cases e⟩);exact h1.trans (Gr.new h1.wf hf)
theorem Gr.unmark {st st':St}(h:Gr {st with low:=st.t} st'):Gr st {st' with low:=st.low}:=by
 refine⟨⟨JD h.wf _,h.mono.t,h.mono.nx,h.mono.row,Nat.le_refl _,fun r e1 e2=> ?_,h.mono.born⟩,h.same,fun _=>rfl⟩;exact absurd (h.same r e1) e2
theorem Jd {T:Table}{okW:Option (List Nat)}{f:Nat}{args:List V}{fr:Fr}{st:St}{P:V->St->Prop}{Q:V->St->Prop}(h:Does T f args st P)(k:∀v st',P v st'->Q v st'):kG T false okW f args fr st Q:=h.mono k
theorem Ji {T:Table}{okW:Option (List Nat)}{f:Nat}{args:List V}{fr:Fr}{st:St}{P:V->St->Prop}{Q:V->St->Prop}(h:Does T f args {st with low:=st.t} fun v st'=>Gr {st with low:=st.t} st'/\P v st')
  (k:∀v st',Gr st st'->P v {st' with low:=st.t}->Q v st'):kG T true okW f args fr st Q:=by
 unfold kG;simp only[if_true];refine h.mono fun v st' ⟨hg,hp⟩=> ?_;have hl:=hg.low (Nat.le_refl _);have hl:st'.low=st.t:=hl;unfold JdP;rw[if_neg (by omega)];refine k v _ hg.unmark ?_;show P v {st' with low:=st.t};rw[<-hl];exact hp
def ofL (l:List UInt8):V:= .str l.length (snum l)
def JdT (l:List UInt8)(i:Nat):Int:=((l.getD i 0).toNat:Int)
theorem kH {l:List UInt8}{i:Nat}(h:i<l.length):JdT l i=(l[i].toNat:Int):=by
 unfold JdT;rw[List.getD_eq_getElem?_getD,List.getElem?_eq_getElem h];rfl
theorem Jdi {a b:List UInt8}:ofL a=ofL b<->a=b:=by
 constructor
 ·intro h;unfold ofL at h;injection h with h1 h2;exact jv h1 h2
 ·intro h;rw[h]
section
variable (fr : Fr) (st : St)
theorem Jr5 (x:Opd):evOp fr st (.mv x)=some (x.ev fr, .no):=of_eq_true (eq_self _)
def JmN (c a b:V):Option (V×Eff):=match c with
 | .bool t=>some (if t then a else b, .no)
 |_=>none
theorem JmO (c a b:Opd):evOp fr st (.pick c a b)=JmN (c.ev fr) (a.ev fr) (b.ev fr):=of_eq_true (eq_self _)
theorem JdU (a b:V):JmN (.bool true) a b=some (a, .no):=of_eq_true (eq_self _)
theorem JcO (a b:V):JmN (.bool false) a b=some (b, .no):=of_eq_true (eq_self _)
theorem Jkh (zs:List V):evOp fr st (.alloc zs)=some (.ptr st.nx 0, .new fun t=> .cells t zs):=of_eq_true (eq_self _)
theorem Jqa (x:Opd):evOp fr st (.box x)=boxV st (x.ev fr):=of_eq_true (eq_self _)
theorem Jki (zs:List V)(ps:List (Nat×Nat×Opd)):evOp fr st (.build zs ps)=JmC st zs (evps fr ps):=of_eq_true (eq_self _)
theorem Jqb (z n:Nat)(zs:List V)(ps:List (Nat×Nat×Opd)):evOp fr st (.bsl z n zs ps)=bslV st z n zs (evps fr ps):=of_eq_true (eq_self _)
def ld1 (r:Row)(o:Nat):Option (V×Eff):=match r with
 | .cells _ l=>(l[o]?).map fun v=>(v, .no)
 | .ro l=>(l[o]?).map fun v=>(v, .no)
 |_=>none
def Jjn (st:St)(x:V):Option (V×Eff):=match x with
 | .ptr r o=>ld1 (st.row r) o
 |_=>none
theorem take1 (l:List V)(o:Nat):(if o+1<=l.length then some ((l.drop o).take 1)else none)=(l[o]?).map fun v=>[v]:=by
 by_cases h:o+1<=l.length
 ·rw[if_pos h,List.getElem?_eq_getElem (by omega),List.drop_eq_getElem_cons (by omega)];rfl
 ·rw[if_neg h,List.getElem?_eq_none (by omega)];rfl
theorem Jkj (x:Opd):evOp fr st (.load1 x)=Jjn st (x.ev fr):=by
 show(match KG st 1 (x.ev fr)with
  |some [v]=>some (v,Eff.no)
  |_=>none)=_
 cases x.ev fr<;>try rfl
 rename_i r o
 simp only[KG,Jjn]
 cases st.row r with
 | cells t l=>
   simp only[take1,ld1]
   cases l[o]? <;>rfl
 | ro l=>
   simp only[take1,ld1]
   cases l[o]? <;>rfl
 |_=>rfl
def ldn (r:Row)(o n:Nat):Option (V×Eff):=match r with
 | .cells _ l=>if o+n<=l.length then some (.agg ((l.drop o).take n), .no)else none
 | .ro l=>if o+n<=l.length then some (.agg ((l.drop o).take n), .no)else none
 |_=>none
def jW (st:St)(n:Nat)(x:V):Option (V×Eff):=match x with
 | .ptr r o=>ldn (st.row r) o n
 |_=>none
theorem JbD (n:Nat)(x:Opd):evOp fr st (.loadn n x)=jW st n (x.ev fr):=by
 show(KG st n (x.ev fr)).map _=_
 cases x.ev fr<;>try rfl
 rename_i r o
 simp only[KG,jW]
 cases st.row r with
 |cells t l=>simp only[ldn];split<;>rfl
 |ro l=>simp only[ldn];split<;>rfl
 |_=>rfl
theorem Jb9 (t:Nat)(l:List V)(o:Nat):ld1 (.cells t l) o=(l[o]?).map fun v=>(v, .no):=of_eq_true (eq_self _)
theorem Jjo (l:List V)(o:Nat):ld1 (.ro l) o=(l[o]?).map fun v=>(v, .no):=of_eq_true (eq_self _)
theorem ko (t:Nat)(l:List V)(o n:Nat):ldn (.cells t l) o n=if o+n<=l.length then some (.agg ((l.drop o).take n), .no)else none:=of_eq_true (eq_self _)
theorem JdV (l:List V)(o n:Nat):ldn (.ro l) o n=if o+n<=l.length then some (.agg ((l.drop o).take n), .no)else none:=of_eq_true (eq_self _)
theorem JdW (r:Pt)(o:Nat):Jjn st (.ptr r o)=ld1 (st.row r) o:=of_eq_true (eq_self _)
theorem JdX (n:Nat)(r:Pt)(o:Nat):jW st n (.ptr r o)=ldn (st.row r) o n:=of_eq_true (eq_self _)
def Jjp (x:V):Option (V×Eff):=match x with
 | .ptr r o=>some (.ptr r o, .no)
 | .fn f a b=>some (.fn f a b, .no)
 |_=>none
theorem Jkk (x:Opd):evOp fr st (.nilck x)=Jjp (x.ev fr):=of_eq_true (eq_self _)
theorem JdY (r:Pt)(o:Nat):Jjp (.ptr r o)=some (.ptr r o, .no):=of_eq_true (eq_self _)
theorem Jfe (f:Nat)(a b:List V):Jjp (.fn f a b)=some (.fn f a b, .no):=of_eq_true (eq_self _)
def eqV (e:EK)(neg:Bool)(x y:V):Option (V×Eff):=(e.eq x y).map fun t=>(.bool (t !=neg), .no)
theorem Jr6 (e:EK)(neg:Bool)(x y:Opd):evOp fr st (.eq e neg x y)=eqV e neg (x.ev fr) (y.ev fr):=of_eq_true (eq_self _)
theorem Jkl (k:IntKind)(a b:Int):eqV (.one .i) false (.int k a) (.int k b)=some (.bool (decide (a=b)), .no):=by
 simp[eqV,EK.eq,keq];by_cases h:a=b<;>simp[h]
theorem Jkm (k:IntKind)(a b:Int):eqV (.one .i) true (.int k a) (.int k b)=some (.bool (decide (a≠b)), .no):=by
 simp[eqV,EK.eq,keq];by_cases h:a=b<;>simp[h]
theorem JbE (a b:List UInt8):(a.length==b.length&&snum a==snum b)=decide (a=b):=by
 rw[Bool.eq_iff_iff,decide_eq_true_eq,Bool.and_eq_true,beq_iff_eq,beq_iff_eq];exact⟨fun⟨h1,h2⟩=>jv h1 h2,fun h=>by rw[h];exact⟨rfl,rfl⟩⟩
theorem Jkn (a b:List UInt8):eqV (.one .s) false (ofL a) (ofL b)=some (.bool (decide (a=b)), .no):=by
 simp only[eqV,EK.eq,keq,ofL,JbE,Option.map_some,Bool.bne_false]
theorem Jko (a b:List UInt8):eqV (.one .s) true (ofL a) (ofL b)=some (.bool (decide (a≠b)), .no):=by
 simp only[eqV,EK.eq,keq,ofL,JbE,Option.map_some,Bool.bne_true,decide_not]
theorem Jhm (a b:Bool):eqV (.one .b) false (.bool a) (.bool b)=some (.bool (decide (a=b)), .no):=by
 cases a<;>cases b<;>rfl
theorem Jhn (a b:Bool):eqV (.one .b) true (.bool a) (.bool b)=some (.bool (decide (a≠b)), .no):=by
 cases a<;>cases b<;>rfl
def binV (op:BinOp)(x y:V):Option (V×Eff):=(arith op x y).map fun v=>(v, .no)
theorem Jqc (op:BinOp)(x y:Opd):evOp fr st (.bin op x y)=binV op (x.ev fr) (y.ev fr):=of_eq_true (eq_self _)
theorem Jho (k:IntKind)(a b:Int):binV .add (.int k a) (.int k b)=some (.int k (k.wrap (a+b)), .no):=by simp[binV,arith]
theorem Jhp (k:IntKind)(a b:Int):binV .sub (.int k a) (.int k b)=some (.int k (k.wrap (a-b)), .no):=by simp[binV,arith]
theorem Jhq (k:IntKind)(a b:Int):binV .mul (.int k a) (.int k b)=some (.int k (k.wrap (a*b)), .no):=by simp[binV,arith]
theorem Jhr (k:IntKind)(a b:Int):binV .rem (.int k a) (.int k b)=if b≠0 then some (.int k (a.tmod b), .no)else none:=by
 by_cases h:b=0<;>simp[binV,arith,h]
theorem Jhs (k:IntKind)(a b:Int):binV .quo (.int k a) (.int k b)=if b≠0 then some (.int k (k.wrap (a.tdiv b)), .no)else none:=by
 by_cases h:b=0<;>simp[binV,arith,h]
theorem Jht (k:IntKind)(a b:Int):binV .lss (.int k a) (.int k b)=some (.bool (decide (a<b)), .no):=by simp[binV,arith]
theorem Jhu (k:IntKind)(a b:Int):binV .leq (.int k a) (.int k b)=some (.bool (decide (a<=b)), .no):=by simp[binV,arith]
theorem Jhv (k:IntKind)(a b:Int):binV .gtr (.int k a) (.int k b)=some (.bool (decide (b<a)), .no):=by simp[binV,arith]
theorem Jhw (k:IntKind)(a b:Int):binV .geq (.int k a) (.int k b)=some (.bool (decide (b<=a)), .no):=by simp[binV,arith]
theorem Jhx (a b:List UInt8):binV .add (ofL a) (ofL b)=if a.length+b.length<2^62 then some (ofL (a++b), .no)else none:=by
 simp only[binV,arith,ofL]
 split
 ·simp[Jj2]
 ·rfl
theorem JdZ (a b:List UInt8):binV .lss (ofL a) (ofL b)=some (.bool (Op.bytesLess a b), .no):=by
 simp only[binV,arith,ofL,qC,Option.map_some]
theorem QH (a b:List UInt8):binV .geq (ofL a) (ofL b)=some (.bool (!Op.bytesLess a b), .no):=by
 simp only[binV,arith,ofL,qC,Option.map_some]
def notV (x:V):Option (V×Eff):=match x with
 | .bool t=>some (.bool !t, .no)
 |_=>none
theorem Jqd (x:Opd):evOp fr st (.not x)=notV (x.ev fr):=of_eq_true (eq_self _)
theorem Jff (b:Bool):notV (.bool b)=some (.bool !b, .no):=of_eq_true (eq_self _)
theorem Jkp (k:IntKind)(x:Opd):evOp fr st (.toint k x)=JmD st k (x.ev fr):=of_eq_true (eq_self _)
theorem Jd0 (k k':IntKind)(n:Int):JmD st k (.int k' n)=some (.int k (k.wrap n), .no):=of_eq_true (eq_self _)
theorem Jkq (x:Opd):evOp fr st (.tostr x)=JmE st (x.ev fr):=of_eq_true (eq_self _)
theorem Jd1 (l:List UInt8):JmE st (ofL l)=some (ofL l, .no):=of_eq_true (eq_self _)
theorem JmP (f:Nat)(a b:List Opd):evOp fr st (.mkfn f a b)=some (.fn f (evs fr a) (evs fr b), .no):=of_eq_true (eq_self _)
theorem JmQ (x:Opd)(lo hi:Option Opd):evOp fr st (.cutS x lo hi)=Jbz st (x.ev fr) (lo.map (Opd.ev fr)) (hi.map (Opd.ev fr)):=of_eq_true (eq_self _)
theorem QI (k:IntKind)(n:Int):KE (.int k n)=if 0<=n then some n.toNat else none:=of_eq_true (eq_self _)
theorem Jkr (l:List UInt8)(k:IntKind)(a:Int):Jbz st (ofL l) (some (.int k a)) none=if 0<=a/\a<=l.length then some (ofL (l.drop a.toNat), .no)else none:=by
 simp only[Jbz,ofL,JP,QI];by_cases h:0<=a
 ·simp only[h,if_true,true_and];by_cases h2:a<=l.length
  ·rw[if_pos ⟨by omega,Nat.le_refl _⟩,if_pos h2,Jbj,List.length_drop,List.take_of_length_le (by simp)]
  ·rw[if_neg (fun e=>h2 (by omega)),if_neg h2]
 ·simp[h]
theorem Jks (l:List UInt8)(k:IntKind)(b:Int):Jbz st (ofL l) none (some (.int k b))=if 0<=b/\b<=l.length then some (ofL (l.take b.toNat), .no)else none:=by
 simp only[Jbz,ofL,JP,QI];by_cases h:0<=b
 ·simp only[h,if_true,true_and];by_cases h2:b<=l.length
  ·rw[if_pos ⟨Nat.zero_le _,by omega⟩,if_pos h2,Jbj,List.length_take,List.drop_zero,Nat.min_eq_left (by omega)];rfl
  ·rw[if_neg (fun e=>h2 (by omega)),if_neg h2]
 ·simp[h]
theorem Jfg (l:List UInt8)(k k':IntKind)(a b:Int):Jbz st (ofL l) (some (.int k a)) (some (.int k' b))=if 0<=a/\a<=b/\b<=l.length then some (ofL ((l.drop a.toNat).take (b.toNat-a.toNat)), .no)else none:=by
 simp only[Jbz,ofL,JP,QI];by_cases h:0<=a
 ·by_cases h1:0<=b
  ·simp only[h,h1,if_true,true_and];by_cases h2:a<=b/\b<=l.length
   ·rw[if_pos ⟨by omega,by omega⟩,if_pos h2,Jbj,List.length_take,List.length_drop,Nat.min_eq_left (by omega)]
   ·rw[if_neg (fun e=>h2 ⟨by omega,by omega⟩),if_neg h2]
  ·simp only[h,h1,if_true,if_false,true_and];rw[if_neg (fun e=>h1 (by omega))]
 ·simp[h]
theorem Jhy (l:List UInt8):Jbz st (ofL l) none none=some (ofL l, .no):=by
 simp only[Jbz,ofL,JP];rw[if_pos ⟨Nat.zero_le _,Nat.le_refl _⟩,Jbj];simp
theorem JmR (z:Nat)(x:Opd)(lo hi mx:Option Opd):evOp fr st (.cutL z x lo hi mx)=jb st z (x.ev fr) (lo.map (Opd.ev fr)) (hi.map (Opd.ev fr)) (mx.map (Opd.ev fr)):=of_eq_true (eq_self _)
def JmS (o:Nat)(x:V):Option (V×Eff):=match x with
 | .ptr r q=>some (.ptr r (q+o), .no)
 |_=>none
theorem Jkt (o:Nat)(x:Opd):evOp fr st (.faddr o x)=JmS o (x.ev fr):=of_eq_true (eq_self _)
theorem Jd2 (o:Nat)(r:Pt)(q:Nat):JmS o (.ptr r q)=some (.ptr r (q+o), .no):=of_eq_true (eq_self _)
def fldV (o:Nat)(n:Option Nat)(x:V):Option (V×Eff):=match x with
 | .agg l=>match n with
   |some n=>if o+n<=l.length then some (.agg ((l.drop o).take n), .no)else none
   |none=>(l[o]?).map fun v=>(v, .no)
 |_=>none
theorem Jqe (o:Nat)(n:Option Nat)(x:Opd):evOp fr st (.fld o n x)=fldV o n (x.ev fr):=by
 simp only[evOp,fldV]
 split
 ·rename_i l h;rw[h];rfl
 ·rename_i h
  split
  ·rename_i l h2;exact absurd h2 (h l)
  ·rfl
theorem Jhz (o:Nat)(l:List V):fldV o none (.agg l)=(l[o]?).map fun v=>(v, .no):=of_eq_true (eq_self _)
theorem Jfh (o n:Nat)(l:List V):fldV o (some n) (.agg l)=if o+n<=l.length then some (.agg ((l.drop o).take n), .no)else none:=of_eq_true (eq_self _)
def JJ (z:Nat)(x i:V):Option (V×Eff):=match KE i,x with
 |some i, .sl r o n z'=>if i<n/\z=z' then some (.ptr r (o+i*z), .no)else none
 |some i, .slx r o n z' _=>if i<n/\z=z' then some (.ptr r (o+i*z), .no)else none
 |_,_=>none
theorem JhA (z:Nat)(x i:Opd):evOp fr st (.iaddrS z x i)=JJ z (x.ev fr) (i.ev fr):=of_eq_true (eq_self _)
theorem YH (z:Nat)(r:Pt)(o n:Nat)(k:IntKind)(i:Int):JJ z (.sl r o n z) (.int k i)=if 0<=i/\i<n then some (.ptr r (o+i.toNat*z), .no)else none:=by
 simp only[JJ,QI];by_cases h:0<=i
 ·simp only[h,if_true,true_and,and_true];by_cases h2:i<n
  ·rw[if_pos (by omega),if_pos h2]
  ·rw[if_neg (by omega),if_neg h2]
 ·simp[h]
theorem kI (z:Nat)(r:Pt)(o n c:Nat)(k:IntKind)(i:Int):JJ z (.slx r o n z c) (.int k i)=if 0<=i/\i<n then some (.ptr r (o+i.toNat*z), .no)else none:=by
 simp only[JJ,QI];by_cases h:0<=i
 ·simp only[h,if_true,true_and,and_true];by_cases h2:i<n
  ·rw[if_pos (by omega),if_pos h2]
  ·rw[if_neg (by omega),if_neg h2]
 ·simp[h]
theorem JhB (n z:Nat)(x i:Opd):evOp fr st (.iaddrA n z x i)=Jgn st n z (x.ev fr) (i.ev fr):=of_eq_true (eq_self _)
theorem Jd3 (n z:Nat)(r:Pt)(o:Nat)(k:IntKind)(i:Int):Jgn st n z (.ptr r o) (.int k i)=if 0<=i/\i<n then some (.ptr r (o+i.toNat*z), .no)else none:=by
 simp only[Jgn,QI];by_cases h:0<=i
 ·simp only[h,if_true,true_and];by_cases h2:i<n
  ·rw[if_pos (by omega),if_pos h2]
  ·rw[if_neg (by omega),if_neg h2]
 ·simp[h]
def JmT (x i:V):Option (V×Eff):=match KE i,x with
 |some i, .str n v=>if i<n then some (.int .u8 (Q4 v i), .no)else none
 |_,_=>none
theorem JmU (x i:Opd):evOp fr st (.idxS x i)=JmT (x.ev fr) (i.ev fr):=of_eq_true (eq_self _)
theorem JhC (l:List UInt8)(k:IntKind)(i:Int):JmT (ofL l) (.int k i)=if 0<=i/\i<l.length then some (.int .u8 (JdT l i.toNat), .no)else none:=by
 simp only[JmT,QI,ofL];by_cases h:0<=i
 ·simp only[h,if_true,true_and];by_cases h2:i<l.length
  ·have h3:i.toNat<l.length:=by omega
   rw[if_pos h3,if_pos h2,Jbk l i.toNat _ (List.getElem?_eq_getElem h3),kH h3]
  ·rw[if_neg (by omega),if_neg h2]
 ·simp[h]
theorem JmV (n z:Nat)(g:Bool)(x i:Opd):evOp fr st (.idxA n z g x i)=JrX st n z g (x.ev fr) (i.ev fr):=of_eq_true (eq_self _)
def extV (n:Nat)(x:V):Option (V×Eff):=match x with
 | .tup l=>(l[n]?).map fun v=>(v, .no)
 |_=>none
theorem Jqf (n:Nat)(x:Opd):evOp fr st (.ext n x)=extV n (x.ev fr):=of_eq_true (eq_self _)
theorem JhD (n:Nat)(l:List V):extV n (.tup l)=(l[n]?).map fun v=>(v, .no):=of_eq_true (eq_self _)
def Jqg (x:V):Option (V×Eff):=match x with
 | .str n _=>some (.int .i64 n, .no)
 |_=>none
theorem JmW (x:Opd):evOp fr st (.lenS x)=Jqg (x.ev fr):=of_eq_true (eq_self _)
theorem JhE (l:List UInt8):Jqg (ofL l)=some (.int .i64 l.length, .no):=of_eq_true (eq_self _)
def Kf (x:V):Option (V×Eff):=(slen x).map fun n=>(.int .i64 n, .no)
theorem JmX (x:Opd):evOp fr st (.lenL x)=Kf (x.ev fr):=of_eq_true (eq_self _)
theorem JhF :Kf .snil=some (.int .i64 0, .no):=of_eq_true (eq_self _)
theorem Jgo (r:Pt)(o n z:Nat):Kf (.sl r o n z)=some (.int .i64 n, .no):=of_eq_true (eq_self _)
theorem JhG (r:Pt)(o n z c:Nat):Kf (.slx r o n z c)=some (.int .i64 n, .no):=of_eq_true (eq_self _)
theorem JaN (z:Nat)(s x:Opd):evOp fr st (.app z s x)=appV st z (s.ev fr) (x.ev fr):=of_eq_true (eq_self _)
theorem Jqh (x y:Opd):evOp fr st (.min x y)=minV st (x.ev fr) (y.ev fr):=of_eq_true (eq_self _)
theorem Jqi (x y:Opd):evOp fr st (.max x y)=maxV st (x.ev fr) (y.ev fr):=of_eq_true (eq_self _)
theorem JhH (k:IntKind)(a b:Int):minV st (.int k a) (.int k b)=some (.int k (if b<a then b else a), .no):=by simp[minV]
theorem JhI (k:IntKind)(a b:Int):maxV st (.int k a) (.int k b)=some (.int k (if b>a then b else a), .no):=by simp[maxV]
theorem Jrc (x:Opd):evOp fr st (.rngS x)=Jp8 st (x.ev fr):=of_eq_true (eq_self _)
theorem JmY (l:List UInt8):Jp8 st (ofL l)=some (.ptr st.nx 0, .new fun t=> .sit t l.length (snum l) 0):=of_eq_true (eq_self _)
theorem Jku (x:Opd):evOp fr st (.jc x)=JdN st (x.ev fr):=of_eq_true (eq_self _)
end
theorem Jo {n:Int}(h1: -9223372036854775808<=n)(h2:n<9223372036854775808):IntKind.i64.wrap n=n:=by
 simp[IntKind.wrap,IntKind.bits,IntKind.signed];omega
theorem Jqj {n:Int}(h1:0<=n)(h2:n<256):IntKind.u8.wrap n=n:=by
 simp only[IntKind.wrap,IntKind.bits,IntKind.signed];simp;omega
theorem JmZ {n:Int}(h1: -2147483648<=n)(h2:n<2147483648):IntKind.i32.wrap n=n:=by
 simp[IntKind.wrap,IntKind.bits,IntKind.signed];omega
theorem Jm0 (fr:Fr)(i:Nat)(v:V)(j:Nat):put fr (some i) v j=if j=i then v else fr j:=of_eq_true (eq_self _)
theorem JhJ (fr:Fr)(v:V):put fr none v=fr:=of_eq_true (eq_self _)
theorem Jqk (st:St):st.ap .no=st:=of_eq_true (eq_self _)
theorem Jm1 (st:St)(f:Nat->Row):st.ap (.new f)=st.new f:=of_eq_true (eq_self _)
theorem Jkv (st:St)(p:Pt)(t:Nat)(f:Nat->Row):st.ap (.wr p t f)=st.wr p t f:=of_eq_true (eq_self _)
theorem Jql (st:St)(p:Pt)(t:Nat)(f:Nat->Row):st.ap (.dn p t f)=(st.wr p t .dead).new f:=of_eq_true (eq_self _)
theorem Jr7 (fr:Fr)(i:Nat):Opd.ev fr (.s i)=fr i:=of_eq_true (eq_self _)
theorem Jr8 (fr:Fr)(v:V):Opd.ev fr (.c v)=v:=of_eq_true (eq_self _)
theorem Jkw (fr:Fr):evs fr []=[]:=of_eq_true (eq_self _)
theorem JhK (fr:Fr)(x:Opd)(l:List Opd):evs fr (x::l)=x.ev fr::evs fr l:=of_eq_true (eq_self _)
theorem Jfi (args:List V)(i:Nat):Yg args i=(args[i]?).getD JR:=of_eq_true (eq_self _)
def wW (r:Option (V×Eff))(st:St)(R:V->St->Prop):Prop:=match r with
 |some (v,e)=>R v (st.ap e)
 |none=>False
theorem Jkx (v:V)(e:Eff)(st:St)(R:V->St->Prop):wW (some (v,e)) st R=R v (st.ap e):=propext Iff.rfl
theorem Jm2 (c:Prop)[Decidable c](x:Option (V×Eff))(st:St)(R:V->St->Prop):wW (if c then x else none) st R=(c/\wW x st R):=by
 by_cases h:c<;>simp[h,wW]
def oK (T:Table)(d:Bool)(fr:Fr)(dst:Option Nat)(r:List Ins)(R:Fr->St->Prop):V->St->Prop:=fun v st=>wR T d r (put fr dst v) st R
def rN (K:Out->Prop):Fr->St->Prop:=fun fr st=>K (.norm fr st)
def rD (chk:List (List Nat×List Nat))(K:Out->Prop):Fr->St->Prop:=fun fr st=>JZ fr chk=true/\K (.norm fr st)
def cK (T:Table)(lf:Nat)(b:C)(K:Out->Prop):Out->Prop:=kSeq (wC T lf b) K
def wGd (x:V)(want:Bool)(T:Table)(d:Bool)(ow:Option (List Nat))(op:Iop)(fr:Fr)(st:St)(dst:Option Nat)(r:List Ins)(R:Fr->St->Prop):Prop:=
 wG x want (wO T d ow op fr st (oK T d fr dst r R)) (wR T d r (put fr dst JR) st R)
def bP (x:V)(T:Table)(lf:Nat)(a b:C)(fr:Fr)(st:St)(K:Out->Prop):Prop:=JdQ x (wC T lf a fr st K) (wC T lf b fr st K)
theorem Jqm (T:Table)(d:Bool)(fr:Fr)(dst:Option Nat)(r:List Ins)(R:Fr->St->Prop)(v:V)(st:St):oK T d fr dst r R v st=wR T d r (put fr dst v) st R:=propext Iff.rfl
theorem Jqn (K:Out->Prop)(fr:Fr)(st:St):rN K fr st=K (.norm fr st):=propext Iff.rfl
theorem Jqo (chk:List (List Nat×List Nat))(K:Out->Prop)(fr:Fr)(st:St):rD chk K fr st=(JZ fr chk=true/\K (.norm fr st)):=propext Iff.rfl
theorem Jky (T:Table)(lf:Nat)(b:C)(K:Out->Prop)(fr:Fr)(st:St):cK T lf b K (.norm fr st)=wC T lf b fr st K:=propext Iff.rfl
theorem Jkz (T:Table)(lf:Nat)(b:C)(K:Out->Prop)(i:Nat)(fr:Fr)(st:St):cK T lf b K (.exit i fr st)=K (.exit i fr st):=propext Iff.rfl
theorem Jm3 (T:Table)(lf:Nat)(b:C)(K:Out->Prop)(fr:Fr)(st:St):cK T lf b K (.ret fr st)=K (.ret fr st):=propext Iff.rfl
theorem Jfj (id:Nat)(K:Out->Prop)(fr:Fr)(st:St):kBlk id K (.norm fr st)=K (.norm fr st):=propext Iff.rfl
theorem Jfk (id:Nat)(K:Out->Prop)(fr:Fr)(st:St):kBlk id K (.exit id fr st)=K (.norm fr st):=by simp[kBlk]
theorem JbF (id:Nat)(K:Out->Prop)(i:Nat)(fr:Fr)(st:St)(h:i≠id):kBlk id K (.exit i fr st)=K (.exit i fr st):=by simp[kBlk,h]
theorem JhL (id:Nat)(K:Out->Prop)(fr:Fr)(st:St):kBlk id K (.ret fr st)=K (.ret fr st):=propext Iff.rfl
theorem Jd4 (I:Nat->Fr->St->Prop)(k:Nat)(K:Out->Prop)(fr:Fr)(st:St):Jfc I k K (.norm fr st)=∃j,j<k/\I j fr st:=propext Iff.rfl
theorem Jd5 (I:Nat->Fr->St->Prop)(k:Nat)(K:Out->Prop)(i:Nat)(fr:Fr)(st:St):Jfc I k K (.exit i fr st)=K (.exit i fr st):=propext Iff.rfl
theorem Jfl (I:Nat->Fr->St->Prop)(k:Nat)(K:Out->Prop)(fr:Fr)(st:St):Jfc I k K (.ret fr st)=K (.ret fr st):=propext Iff.rfl
theorem Jfm (res:List RS)(Q:V->St->Prop)(fr:Fr)(st:St):kRet res Q (.norm fr st)=resP st fr res Q:=propext Iff.rfl
theorem JhM (res:List RS)(Q:V->St->Prop)(fr:Fr)(st:St):kRet res Q (.ret fr st)=resP st fr res Q:=propext Iff.rfl
theorem JkA (T:Table)(lf:Nat)(a b:C)(fr:Fr)(st:St)(K:Out->Prop):bP (.bool true) T lf a b fr st K=wC T lf a fr st K:=propext Iff.rfl
theorem JhN (T:Table)(lf:Nat)(a b:C)(fr:Fr)(st:St)(K:Out->Prop):bP (.bool false) T lf a b fr st K=wC T lf b fr st K:=propext Iff.rfl
theorem Jm4 (T:Table)(d:Bool)(ow:Option (List Nat))(op:Iop)(fr:Fr)(st:St)(dst:Option Nat)(r:List Ins)(R:Fr->St->Prop):wGd (.bool true) true T d ow op fr st dst r R=wO T d ow op fr st (oK T d fr dst r R):=propext Iff.rfl
theorem Jm5 (T:Table)(d:Bool)(ow:Option (List Nat))(op:Iop)(fr:Fr)(st:St)(dst:Option Nat)(r:List Ins)(R:Fr->St->Prop):wGd (.bool false) false T d ow op fr st dst r R=wO T d ow op fr st (oK T d fr dst r R):=propext Iff.rfl
theorem Jm6 (T:Table)(d:Bool)(ow:Option (List Nat))(op:Iop)(fr:Fr)(st:St)(dst:Option Nat)(r:List Ins)(R:Fr->St->Prop):wGd (.bool true) false T d ow op fr st dst r R=wR T d r (put fr dst JR) st R:=propext Iff.rfl
theorem Jm7 (T:Table)(d:Bool)(ow:Option (List Nat))(op:Iop)(fr:Fr)(st:St)(dst:Option Nat)(r:List Ins)(R:Fr->St->Prop):wGd (.bool false) true T d ow op fr st dst r R=wR T d r (put fr dst JR) st R:=propext Iff.rfl
theorem JkB (l:List V)(want:Bool)(T:Table)(d:Bool)(ow:Option (List Nat))(op:Iop)(fr:Fr)(st:St)(dst:Option Nat)(r:List Ins)(R:Fr->St->Prop):wGd (.tup l) want T d ow op fr st dst r R=wR T d r (put fr dst JR) st R:=propext Iff.rfl
theorem JkC (T:Table)(lf:Nat)(fr:Fr)(st:St)(K:Out->Prop):wC T lf .skip fr st K=K (.norm fr st):=propext Iff.rfl
theorem Jm8 (T:Table)(lf:Nat)(l:List Ins)(fr:Fr)(st:St)(K:Out->Prop):wC T lf (.reg l) fr st K=wR T false l fr st (rN K):=propext Iff.rfl
theorem Jm9 (T:Table)(lf:Nat)(l:List Ins)(chk:List (List Nat×List Nat))(fr:Fr)(st:St)(K:Out->Prop):wC T lf (.drw l chk) fr st K=wR T true l fr st (rD chk K):=propext Iff.rfl
theorem Jb (T:Table)(lf:Nat)(a b:C)(fr:Fr)(st:St)(K:Out->Prop):wC T lf (.seq a b) fr st K=wC T lf a fr st (cK T lf b K):=propext Iff.rfl
theorem Je (T:Table)(lf:Nat)(l:List Nat)(a b:C)(fr:Fr)(st:St)(K:Out->Prop):wC T lf (.seqj l a b) fr st K=wC T lf a fr st (cK T lf b K):=propext Iff.rfl
theorem JkD (T:Table)(lf:Nat)(c:Opd)(a b:C)(fr:Fr)(st:St)(K:Out->Prop):wC T lf (.cond c a b) fr st K=bP (c.ev fr) T lf a b fr st K:=propext Iff.rfl
theorem JhO (T:Table)(lf:Nat)(id:Nat)(b:C)(fr:Fr)(st:St)(K:Out->Prop):wC T lf (.block id b) fr st K=wC T lf b fr st (kBlk id K):=propext Iff.rfl
theorem JkE (T:Table)(lf:Nat)(id:Nat)(fr:Fr)(st:St)(K:Out->Prop):wC T lf (.exit id) fr st K=K (.exit id fr st):=propext Iff.rfl
theorem Jna (T:Table)(lf:Nat)(fr:Fr)(st:St)(K:Out->Prop):wC T lf .ret fr st K=K (.ret fr st):=propext Iff.rfl
theorem Jn {T:Table}{lf:Nat}{l:List Nat}{b:C}{fr:Fr}{st:St}{K:Out->Prop}(I:Nat->Fr->St->Prop)(m:Nat)(hm:m<lf)(h:I m fr st)(hs:∀k fr st,I k fr st->wC T lf b fr st (Jfc I k K)):wC T lf (.loop l b) fr st K:=⟨I,⟨m,hm,h⟩,hs⟩
theorem Jnb (T:Table)(d:Bool)(fr:Fr)(st:St)(R:Fr->St->Prop):wR T d [] fr st R=R fr st:=propext Iff.rfl
theorem Jqp (T:Table)(d:Bool)(dst:Option Nat)(op:Iop)(ow:Option (List Nat))(r:List Ins)(fr:Fr)(st:St)(R:Fr->St->Prop):
  wR T d (⟨dst,op,none,ow⟩::r) fr st R=wO T d ow op fr st (oK T d fr dst r R):=propext Iff.rfl
theorem Jqq (T:Table)(d:Bool)(dst:Option Nat)(op:Iop)(g:Nat)(want:Bool)(ow:Option (List Nat))(r:List Ins)(fr:Fr)(st:St)(R:Fr->St->Prop):
  wR T d (⟨dst,op,some (g,want),ow⟩::r) fr st R=wGd (fr g) want T d ow op fr st dst r R:=propext Iff.rfl
theorem JkF (T:Table)(d:Bool)(ow:Option (List Nat))(f:Nat)(as:List Opd)(fr:Fr)(st:St)(R:V->St->Prop):wO T d ow (.call f as) fr st R=kG T d ow f (evs fr as) fr st R:=propext Iff.rfl
theorem JhP (T:Table)(d:Bool)(ow:Option (List Nat))(x:Opd)(as:List Opd)(fr:Fr)(st:St)(R:V->St->Prop):wO T d ow (.callv x as) fr st R=wFn T d ow (x.ev fr) (evs fr as) fr st R:=propext Iff.rfl
theorem Jnc (T:Table)(d:Bool)(ow:Option (List Nat))(f:Nat)(a b as:List V)(fr:Fr)(st:St)(R:V->St->Prop):wFn T d ow (.fn f a b) as fr st R=kG T d ow f (a++as++b) fr st R:=propext Iff.rfl
theorem Jqr (T:Table)(d:Bool)(ow:Option (List Nat))(x:Opd)(fr:Fr)(st:St)(R:V->St->Prop):wO T d ow (.mv x) fr st R=wW (evOp fr st (.mv x)) st R:=propext Iff.rfl
theorem JkG (T:Table)(d:Bool)(ow:Option (List Nat))(c a b:Opd)(fr:Fr)(st:St)(R:V->St->Prop):wO T d ow (.pick c a b) fr st R=wW (evOp fr st (.pick c a b)) st R:=propext Iff.rfl
theorem JhQ (T:Table)(d:Bool)(ow:Option (List Nat))(zs:List V)(fr:Fr)(st:St)(R:V->St->Prop):wO T d ow (.alloc zs) fr st R=wW (evOp fr st (.alloc zs)) st R:=propext Iff.rfl
theorem Jnd (T:Table)(d:Bool)(ow:Option (List Nat))(x:Opd)(fr:Fr)(st:St)(R:V->St->Prop):wO T d ow (.box x) fr st R=wW (evOp fr st (.box x)) st R:=propext Iff.rfl
theorem JhR (T:Table)(d:Bool)(ow:Option (List Nat))(zs:List V)(ps:List (Nat×Nat×Opd))(fr:Fr)(st:St)(R:V->St->Prop):wO T d ow (.build zs ps) fr st R=wW (evOp fr st (.build zs ps)) st R:=propext Iff.rfl
theorem Jne (T:Table)(d:Bool)(ow:Option (List Nat))(z n:Nat)(zs:List V)(ps:List (Nat×Nat×Opd))(fr:Fr)(st:St)(R:V->St->Prop):wO T d ow (.bsl z n zs ps) fr st R=wW (evOp fr st (.bsl z n zs ps)) st R:=propext Iff.rfl
theorem JhS (T:Table)(d:Bool)(ow:Option (List Nat))(x:Opd)(fr:Fr)(st:St)(R:V->St->Prop):wO T d ow (.load1 x) fr st R=wW (evOp fr st (.load1 x)) st R:=propext Iff.rfl
theorem JhT (T:Table)(d:Bool)(ow:Option (List Nat))(n:Nat)(x:Opd)(fr:Fr)(st:St)(R:V->St->Prop):wO T d ow (.loadn n x) fr st R=wW (evOp fr st (.loadn n x)) st R:=propext Iff.rfl
theorem JhU (T:Table)(d:Bool)(ow:Option (List Nat))(n:Nat)(x v:Opd)(fr:Fr)(st:St)(R:V->St->Prop):wO T d ow (.store n x v) fr st R=wW (evOp fr st (.store n x v)) st R:=propext Iff.rfl
theorem JhV (T:Table)(d:Bool)(ow:Option (List Nat))(x:Opd)(fr:Fr)(st:St)(R:V->St->Prop):wO T d ow (.nilck x) fr st R=wW (evOp fr st (.nilck x)) st R:=propext Iff.rfl
theorem Jqs (T:Table)(d:Bool)(ow:Option (List Nat))(e:EK)(neg:Bool)(x y:Opd)(fr:Fr)(st:St)(R:V->St->Prop):wO T d ow (.eq e neg x y) fr st R=wW (evOp fr st (.eq e neg x y)) st R:=propext Iff.rfl
theorem Jnf (T:Table)(d:Bool)(ow:Option (List Nat))(op:BinOp)(x y:Opd)(fr:Fr)(st:St)(R:V->St->Prop):wO T d ow (.bin op x y) fr st R=wW (evOp fr st (.bin op x y)) st R:=propext Iff.rfl
theorem Jng (T:Table)(d:Bool)(ow:Option (List Nat))(x:Opd)(fr:Fr)(st:St)(R:V->St->Prop):wO T d ow (.not x) fr st R=wW (evOp fr st (.not x)) st R:=propext Iff.rfl
theorem JhW (T:Table)(d:Bool)(ow:Option (List Nat))(k:IntKind)(x:Opd)(fr:Fr)(st:St)(R:V->St->Prop):wO T d ow (.toint k x) fr st R=wW (evOp fr st (.toint k x)) st R:=propext Iff.rfl
theorem JhX (T:Table)(d:Bool)(ow:Option (List Nat))(x:Opd)(fr:Fr)(st:St)(R:V->St->Prop):wO T d ow (.tostr x) fr st R=wW (evOp fr st (.tostr x)) st R:=propext Iff.rfl
theorem Jnh (T:Table)(d:Bool)(ow:Option (List Nat))(x:Opd)(fr:Fr)(st:St)(R:V->St->Prop):wO T d ow (.bts x) fr st R=wW (evOp fr st (.bts x)) st R:=propext Iff.rfl
theorem JkH (T:Table)(d:Bool)(ow:Option (List Nat))(f:Nat)(a b:List Opd)(fr:Fr)(st:St)(R:V->St->Prop):wO T d ow (.mkfn f a b) fr st R=wW (evOp fr st (.mkfn f a b)) st R:=propext Iff.rfl
theorem JkI (T:Table)(d:Bool)(ow:Option (List Nat))(x:Opd)(lo hi:Option Opd)(fr:Fr)(st:St)(R:V->St->Prop):wO T d ow (.cutS x lo hi) fr st R=wW (evOp fr st (.cutS x lo hi)) st R:=propext Iff.rfl
theorem JkJ (T:Table)(d:Bool)(ow:Option (List Nat))(z:Nat)(x:Opd)(lo hi mx:Option Opd)(fr:Fr)(st:St)(R:V->St->Prop):wO T d ow (.cutL z x lo hi mx) fr st R=wW (evOp fr st (.cutL z x lo hi mx)) st R:=propext Iff.rfl
theorem JhY (T:Table)(d:Bool)(ow:Option (List Nat))(o:Nat)(x:Opd)(fr:Fr)(st:St)(R:V->St->Prop):wO T d ow (.faddr o x) fr st R=wW (evOp fr st (.faddr o x)) st R:=propext Iff.rfl
theorem Jni (T:Table)(d:Bool)(ow:Option (List Nat))(o:Nat)(n:Option Nat)(x:Opd)(fr:Fr)(st:St)(R:V->St->Prop):wO T d ow (.fld o n x) fr st R=wW (evOp fr st (.fld o n x)) st R:=propext Iff.rfl
theorem Jfn (T:Table)(d:Bool)(ow:Option (List Nat))(z:Nat)(x i:Opd)(fr:Fr)(st:St)(R:V->St->Prop):wO T d ow (.iaddrS z x i) fr st R=wW (evOp fr st (.iaddrS z x i)) st R:=propext Iff.rfl
theorem Jfo (T:Table)(d:Bool)(ow:Option (List Nat))(n z:Nat)(x i:Opd)(fr:Fr)(st:St)(R:V->St->Prop):wO T d ow (.iaddrA n z x i) fr st R=wW (evOp fr st (.iaddrA n z x i)) st R:=propext Iff.rfl
theorem JkK (T:Table)(d:Bool)(ow:Option (List Nat))(x i:Opd)(fr:Fr)(st:St)(R:V->St->Prop):wO T d ow (.idxS x i) fr st R=wW (evOp fr st (.idxS x i)) st R:=propext Iff.rfl
theorem JkL (T:Table)(d:Bool)(ow:Option (List Nat))(n z:Nat)(g:Bool)(x i:Opd)(fr:Fr)(st:St)(R:V->St->Prop):wO T d ow (.idxA n z g x i) fr st R=wW (evOp fr st (.idxA n z g x i)) st R:=propext Iff.rfl
theorem Jnj (T:Table)(d:Bool)(ow:Option (List Nat))(n:Nat)(x:Opd)(fr:Fr)(st:St)(R:V->St->Prop):wO T d ow (.ext n x) fr st R=wW (evOp fr st (.ext n x)) st R:=propext Iff.rfl
theorem JkM (T:Table)(d:Bool)(ow:Option (List Nat))(x:Opd)(fr:Fr)(st:St)(R:V->St->Prop):wO T d ow (.lenS x) fr st R=wW (evOp fr st (.lenS x)) st R:=propext Iff.rfl
theorem JkN (T:Table)(d:Bool)(ow:Option (List Nat))(x:Opd)(fr:Fr)(st:St)(R:V->St->Prop):wO T d ow (.lenL x) fr st R=wW (evOp fr st (.lenL x)) st R:=propext Iff.rfl
theorem Jnk (T:Table)(d:Bool)(ow:Option (List Nat))(z:Nat)(s x:Opd)(fr:Fr)(st:St)(R:V->St->Prop):wO T d ow (.app z s x) fr st R=wW (evOp fr st (.app z s x)) st R:=propext Iff.rfl
theorem Jnl (T:Table)(d:Bool)(ow:Option (List Nat))(x y:Opd)(fr:Fr)(st:St)(R:V->St->Prop):wO T d ow (.min x y) fr st R=wW (evOp fr st (.min x y)) st R:=propext Iff.rfl
theorem Jnm (T:Table)(d:Bool)(ow:Option (List Nat))(x y:Opd)(fr:Fr)(st:St)(R:V->St->Prop):wO T d ow (.max x y) fr st R=wW (evOp fr st (.max x y)) st R:=propext Iff.rfl
theorem JkO (T:Table)(d:Bool)(ow:Option (List Nat))(x:Opd)(fr:Fr)(st:St)(R:V->St->Prop):wO T d ow (.rngS x) fr st R=wW (evOp fr st (.rngS x)) st R:=propext Iff.rfl
theorem JhZ (T:Table)(d:Bool)(ow:Option (List Nat))(x:Opd)(fr:Fr)(st:St)(R:V->St->Prop):wO T d ow (.jc x) fr st R=wW (evOp fr st (.jc x)) st R:=propext Iff.rfl
theorem Jh0 (T:Table)(d:Bool)(ow:Option (List Nat))(fr:Fr)(st:St)(R:V->St->Prop):wO T d ow .mkmap fr st R=wW (evOp fr st .mkmap) st R:=propext Iff.rfl
theorem JkP (T:Table)(d:Bool)(ow:Option (List Nat))(z:Nat)(zs:List V)(n c:Opd)(fr:Fr)(st:St)(R:V->St->Prop):wO T d ow (.mksl z zs n c) fr st R=wW (evOp fr st (.mksl z zs n c)) st R:=propext Iff.rfl
theorem Jfp (T:Table)(d:Bool)(ow:Option (List Nat))(e:EK)(z:V)(ok:Bool)(m k:Opd)(fr:Fr)(st:St)(R:V->St->Prop):wO T d ow (.lookup e z ok m k) fr st R=wW (evOp fr st (.lookup e z ok m k)) st R:=propext Iff.rfl
theorem JkQ (T:Table)(d:Bool)(ow:Option (List Nat))(e:EK)(m k v:Opd)(fr:Fr)(st:St)(R:V->St->Prop):wO T d ow (.mupd e m k v) fr st R=wW (evOp fr st (.mupd e m k v)) st R:=propext Iff.rfl
theorem JkR (T:Table)(d:Bool)(ow:Option (List Nat))(x:Opd)(fr:Fr)(st:St)(R:V->St->Prop):wO T d ow (.lenM x) fr st R=wW (evOp fr st (.lenM x)) st R:=propext Iff.rfl
theorem JkS (T:Table)(d:Bool)(ow:Option (List Nat))(z:Nat)(y x:Opd)(fr:Fr)(st:St)(R:V->St->Prop):wO T d ow (.copy z y x) fr st R=wW (evOp fr st (.copy z y x)) st R:=propext Iff.rfl
theorem JkT (T:Table)(d:Bool)(ow:Option (List Nat))(n z:Nat)(x:Opd)(lo hi mx:Option Opd)(fr:Fr)(st:St)(R:V->St->Prop):wO T d ow (.cutA n z x lo hi mx) fr st R=wW (evOp fr st (.cutA n z x lo hi mx)) st R:=propext Iff.rfl
noncomputable def fnD (lf:Nat)(cf:Fn):E:={k:=JmH,b:=evFn lf cf}
theorem Jr9 {lf : Nat} {P : Program} {ρ : Nat -> Value} {base : Bs} {f : Nat} {fn : Func} {hs : List (List Nat)} {cf : Fn} (h : Jgc P fn hs = some cf) (hf : P.funcs[f]? = some fn) (hn : fn.name ≠ "runtime.NumGoroutine")
  (hρ:∀i,(ρ i).oneCell'=true) (hm:P.follows .mixedOrders=true):Qs P ρ base f (fnD lf cf).b:=JrU hρ hm hf h hn lf
theorem Jca {T:Table}{f:Nat}{g:List V->Option V}(hT:T f=some (Y7 g).b){args:List V}{v:V}(hg:g args=some v){st:St}{Q:V->St->Prop}(h:Q v st):Does T f args st Q:=by
 refine⟨v,st,h,1,fun n hn=> ?_⟩;obtain⟨n,rfl⟩:∃k,n=k+1:=⟨n-1,by omega⟩
 simp only[run,hT,Y7,hg]
theorem Jjq {P:Program}{ρ:Nat->Value}{w:World}{t:BT}(hB:t.all fun i e=>Qs P ρ ⟨w.heap.size,w⟩ i e.b){L:List (List V)}{locs:Nat->Loc}
  (hl:∀i,i<L.length->Ql (rosG L.length locs) ρ (locs i) (.ro (L.getD (L.length-1-i) [])) w/\(locs i).b<w.heap.size)
  {f:Nat} {args:List V} (h:Does (tabT t) f args (rosR L) fun v _=>v= .bool true) {xs:List Value} (hx:RL (rosG L.length locs) ρ args xs):
  Calls P f xs.toArray w fun e w'=>e= .returned (.bool true)/\Below w.heap.size w w':=by
 obtain⟨v,st',e0,N,h1⟩:=h;subst e0;refine(Jgm (P:=P) (T:=tabT t) (fun f b hb=> ?_) hl (h1 N (Nat.le_refl _)) hx).mono fun e w' ⟨y,γ',e1,e2,e3⟩=>⟨?_,e3⟩
 ·simp only[tabT,Option.some.injEq]at hb;subst hb;exact Jr4 hB f
 ·have e2:y= .bool true:=e2;rw[e1,e2]
def rune (l:List UInt8)(p:Nat):Nat×Nat:=if(l.getD p 0).toNat<128 then((l.getD p 0).toNat,1)else Utf8.decode ⟨l.toArray⟩ p
theorem Jjr {l:List UInt8}{p:Nat}(hp:p<l.length):(rune l p).1<2147483648:=by
 unfold rune
 split
 ·omega
 ·unfold Utf8.decode;simp only[Utf8.runeError];have k:=fun i=>UInt8.toNat_lt ((⟨l.toArray⟩:ByteArray).get! i);have k0:=k (p+0);have k1:=k (p+1);have k2:=k (p+2);have k3:=k (p+3)
  repeat' split
  all_goals (simp only;omega)
theorem Jjs {st:St}{r:Pt}{t p:Nat}{l:List UInt8}(hr:st.row r= .sit t l.length (snum l) p)(hp:p<l.length):
  JdN st (.ptr r 0)=some (.tup [.bool true, .int .i64 p, .int .i32 (rune l p).1], .wr r t fun u=> .sit u l.length (snum l) (p+(rune l p).2)):=by
 have hsb:Q4 (snum l) p=(l.getD p 0).toNat:=by
  rw[Jbk l p _ (List.getElem?_eq_getElem hp),List.getD_eq_getElem?_getD,List.getElem?_eq_getElem hp];rfl
 have hby:jm l.length (snum l)=⟨l.toArray⟩:=by
  have:=JcD (⟨l.toArray⟩:ByteArray);simpa using this
 simp only[JdN,hr,hp,if_true,hsb,hby,rune]
 split<;>rfl
theorem Jjt {st:St}{r:Pt}{t p:Nat}{l:List UInt8}(hr:st.row r= .sit t l.length (snum l) p)(hp:¬p<l.length):JdN st (.ptr r 0)=some (.tup [.bool false], .no):=by
 simp only[JdN,hr,hp,if_false]
def qK (st:St)(v:V)(zs:List Int):Prop:=(v= .snil/\zs=[])\/∃r,v= .sl r 0 zs.length 1/\st.row r= .ro (zs.map (V.int .i64))
theorem qK.len {st:St}{v:V}{zs:List Int}(h:qK st v zs):Kf v=some (.int .i64 zs.length, .no):=by
 rcases h with⟨rfl,rfl⟩|⟨r,rfl,_⟩
 ·rfl
 ·rfl
theorem qK.gr {a b:St}{v:V}{zs:List Int}(h:qK a v zs)(g:Gr a b):qK b v zs:=by
 rcases h with h|⟨r,h1,h2⟩
 ·exact .inl h
 ·exact .inr ⟨r,h1,g.ro h2⟩
theorem qK.at {st:St}{v:V}{zs:List Int}(h:qK st v zs){i:Nat}(hi:i<zs.length):∃r,JJ 1 v (.int .i64 i)=some (.ptr r i, .no)/\st.row r= .ro (zs.map (V.int .i64)):=by
 rcases h with⟨_,rfl⟩|⟨r,rfl,hr⟩
 ·exact absurd hi (by simp)
 ·refine⟨r, ?_,hr⟩;rw[YH,if_pos (by omega)];simp
end Eva
namespace Eva
open Go Go.RowKit Go.ChangeShapes
def IntsIn (w:World)(v:Value)(zs:List Int):Prop:=(v= .slice none 0 0/\zs=[])\/(∃a,v= .slice (some a) 0 0/\zs=[])\/
 ∃b off cap,v= .slice (some ⟨b,off,none⟩) zs.length cap/\zs.length<=cap/\b<w.heap.size/\∀i (h:i<zs.length),w.cell? ⟨b,off+i,none⟩=some (.int .i64 zs[i])
theorem Y9 {w:World}{b o:Nat}{x:Value}(h:w.cell? ⟨b,o,none⟩=some x):∃arr elem fz,w.heap[b]? =some (.cells arr elem fz)/\arr[o]? =some x:=by
 unfold World.cell? at h
 split at h
 ·rename_i cells t fz hc
  refine⟨cells,t,fz,hc, ?_⟩;simpa using h
 ·cases h
theorem Jnn {w:World}{v:Value}{zs:List Int}(h:IntsIn w v zs)(h0:0<w.heap.size):
  ∃lo:Loc,lo.b<w.heap.size/\(∀γ ρ,Ql γ ρ lo (.ro (zs.map (V.int .i64))) w)/\∀r:Pt,∃u:V,((u= .snil/\zs=[])\/u= .sl r 0 zs.length 1)/\∀γ ρ,γ r=some lo->R γ ρ u v:=by
 rcases h with⟨rfl,rfl⟩|⟨a,rfl,rfl⟩|⟨b,off,cap,rfl,h1,h2,h3⟩
 ·exact⟨⟨0,0,0⟩,h0,fun γ ρ i v hi=>by simp at hi,fun r=>⟨.snil, .inl ⟨rfl,rfl⟩,fun γ ρ _=>rfl⟩⟩
 ·exact⟨⟨0,0,0⟩,h0,fun γ ρ i v hi=>by simp at hi,fun r=>⟨.sl r 0 0 1, .inr rfl,fun γ ρ hr=>⟨⟨0,0,0⟩,a,0,hr,rfl,Nat.le_refl _,fun e=>absurd rfl e,Nat.le_refl _⟩⟩⟩
 ·refine⟨⟨b,off,cap⟩,h2,fun γ ρ i v hi=> ?_,fun r=>⟨.sl r 0 zs.length 1, .inr rfl,fun γ ρ hr=>⟨⟨b,off,cap⟩,⟨b,off,none⟩,cap,hr,rfl,h1,fun _=>rfl,by simp⟩⟩⟩;rw[List.getElem?_map]at hi;obtain⟨z,hz,rfl⟩:=Option.map_eq_some_iff.1 hi;obtain⟨hi',rfl⟩:=List.getElem?_eq_some_iff.1 hz;obtain⟨arr,elem,fz,e1,e2⟩:=Y9 (h3 i hi');exact⟨arr,elem,fz,_,e1,e2,rfl⟩
section
variable {H : Type} {enc : TypeId × Value -> H} {P : Program} {W : World}
end
end Eva
namespace Eva
open Go Go.RowKit
def Y3 (a st:St)(v:V)(z n:Nat)(cs:List V):Prop:=cs.length=n*z/\((v= .snil/\n=0)\/∃r t,v= .sl r 0 n z/\st.row r= .cells t cs/\a.row r= .none)
theorem Y3.nil (a st:St)(z:Nat):Y3 a st .snil z 0 []:=⟨by simp, .inl ⟨rfl,rfl⟩⟩
theorem Y3.len {a st:St}{v:V}{z n:Nat}{cs:List V}(h:Y3 a st v z n cs):Kf v=some (.int .i64 n, .no):=by
 rcases h.2 with⟨rfl,rfl⟩|⟨r,t,rfl,_⟩
 ·rfl
 ·rfl
theorem Y3.gr {a st st':St}{v:V}{z n:Nat}{cs:List V}(h:Y3 a st v z n cs)(g:Gr st st'):Y3 a st' v z n cs:=by
 refine⟨h.1, ?_⟩;rcases h.2 with h|⟨r,t,h1,h2,h3⟩
 ·exact .inl h
 ·exact .inr ⟨r,t,h1,g.cells h2,h3⟩
theorem Y3.early {a a' st:St}{v:V}{z n:Nat}{cs:List V}(h:Y3 a st v z n cs)(g:Gr a' a):Y3 a' st v z n cs:=by
 refine⟨h.1, ?_⟩;rcases h.2 with h|⟨r,t,h1,h2,h3⟩
 ·exact .inl h
 ·refine .inr ⟨r,t,h1,h2, ?_⟩;apply Classical.byContradiction;intro e;exact e (by rw[<-g.same r e,h3])
theorem Y3.at {a st:St}{v:V}{z n:Nat}{cs:List V}(h:Y3 a st v z n cs){i:Nat}(hi:i<n):
  ∃r t,JJ z v (.int .i64 i)=some (.ptr r (i*z), .no)/\st.row r= .cells t cs:=by
 rcases h.2 with⟨_,rfl⟩|⟨r,t,rfl,hr,_⟩
 ·exact absurd hi (by simp)
 ·refine⟨r,t, ?_,hr⟩;rw[YH,if_pos (by omega)];simp
theorem Gr.fresh {a st:St}(h:Gr a st):a.row st.nx= .none:=by
 apply Classical.byContradiction;intro e;exact e (by rw[<-h.same _ e,Kj h.wf])
def Jno (st:St)(n:Nat)(x v:V):Option (V×Eff):=match v.cells with
 |some vs=>if vs.length=n then(JN st x vs).map fun e=>(JR,e)else none
 |none=>none
theorem Jnp (fr:Fr)(st:St)(n:Nat)(x v:Opd):evOp fr st (.store n x v)=Jno st n (x.ev fr) (v.ev fr):=of_eq_true (eq_self _)
section
variable {T : Table}
theorem Jju {okW:Option (List Nat)}{fr:Fr}{st st':St}{Q Q':St->Prop}(k:∀s,Q s->Q' s)(h:JdP okW fr st st' Q):JdP okW fr st st' Q':=by
 unfold JdP at h⊢
 split
 ·rename_i e
  rw[if_pos e]at h
  cases okW with
  |none=>exact h
  |some l=>exact⟨h.1,k _ h.2⟩
 ·rename_i e
  rw[if_neg e]at h;exact k _ h
theorem Jd6 {m:Bool}{okW:Option (List Nat)}{f:Nat}{args:List V}{fr:Fr}{st:St}{Q Q':V->St->Prop}(k:∀v s,Q v s->Q' v s)(h:kG T m okW f args fr st Q):kG T m okW f args fr st Q':=by
 unfold kG at h⊢
 cases m with
 |false=>exact Does.mono h k
 |true=>exact Does.mono h fun v s hs=>Jju (k v) hs
theorem Jpf {r:Option (V×Eff)}{Q Q':V->Eff->Prop}(k:∀v e,Q v e->Q' v e)(h:wV r Q):wV r Q':=by
 unfold wV at h⊢
 split at h
 ·exact k _ _ h
 ·exact h
theorem Jnq {m:Bool}{okW:Option (List Nat)}{op:Iop}{fr:Fr}{st:St}{Q:V->St->Prop}(hc:op.calls=false):wO T m okW op fr st Q=wV (evOp fr st op) fun v e=>Q v (st.ap e):=by
 cases op
 case call=>cases hc
 case callv=>cases hc
 all_goals rfl
theorem JkU {m:Bool}{okW:Option (List Nat)}{op:Iop}{fr:Fr}{st:St}{Q Q':V->St->Prop}(k:∀v s,Q v s->Q' v s)(h:wO T m okW op fr st Q):wO T m okW op fr st Q':=by
 cases hc:op.calls with
 | false=>
   rw[Jnq hc]at h⊢;exact Jpf (fun v e=>k v _) h
 | true=>
   cases op
   case call f as=>exact Jd6 k h
   case callv x as=>
    have h:wFn T m okW (x.ev fr) (evs fr as) fr st Q:=h;show wFn T m okW (x.ev fr) (evs fr as) fr st Q';unfold wFn at h⊢
    split at h
    ·exact Jd6 k h
    ·exact h
   all_goals cases hc
theorem Jpg {x:V}{want:Bool}{P P' Z Z':Prop}(k:P->P')(j:Z->Z')(h:wG x want P Z):wG x want P' Z':=by
 unfold wG at h⊢
 split at h
 ·split at h
  ·rename_i e;rw[if_pos e];exact k h
  ·rename_i e;rw[if_neg e];exact j h
 ·exact j h
 ·exact h
theorem Jph {d:Bool}{i:Ins}{fr:Fr}{st:St}{Q Q':Fr->St->Prop}(k:∀f s,Q f s->Q' f s)(h:wI T d i fr st Q):wI T d i fr st Q':=by
 obtain⟨dst,op,g,ow⟩:=i
 cases g with
 |none=>exact JkU (fun v s=>k _ _) h
 |some p=>exact Jpg (fun h=>JkU (fun v s=>k _ _) h) (k _ _) h
theorem Jgp {d:Bool}:∀{l:List Ins} {fr:Fr} {st:St} {Q Q':Fr->St->Prop},(∀f s,Q f s->Q' f s)->wR T d l fr st Q->wR T d l fr st Q'
 |[],_,_,_,_,k,h=>k _ _ h
 |_::_,_,_,_,_,k,h=>Jph (fun _ _=>Jgp k) h
theorem JkV {lf:Nat}(c:C):∀{fr:Fr} {st:St} {Q Q':Out->Prop},(∀o,Q o->Q' o)->wC T lf c fr st Q->wC T lf c fr st Q':=by
 induction c with
 |skip=>exact fun k h=>k _ h
 |exit id=>exact fun k h=>k _ h
 |ret=>exact fun k h=>k _ h
 |reg l=>exact fun k h=>Jgp (fun f s=>k _) h
 |drw l chk=>exact fun k h=>Jgp (fun f s h=>⟨h.1,k _ h.2⟩) h
 | seq a b iha ihb=>
   intro fr st Q Q' k h;refine iha (fun o ho=> ?_) h
   cases o with
   |norm f s=>exact ihb k ho
   |exit i f s=>exact k _ ho
   |ret f s=>exact k _ ho
 | seqj l a b iha ihb=>
   intro fr st Q Q' k h;refine iha (fun o ho=> ?_) h
   cases o with
   |norm f s=>exact ihb k ho
   |exit i f s=>exact k _ ho
   |ret f s=>exact k _ ho
 | cond c a b iha ihb=>
   intro fr st Q Q' k h;have h:JdQ (c.ev fr) (wC T lf a fr st Q) (wC T lf b fr st Q):=h;show JdQ (c.ev fr) (wC T lf a fr st Q') (wC T lf b fr st Q');unfold JdQ at h⊢
   split at h
   ·split at h
    ·rename_i e;rw[if_pos e];exact iha k h
    ·rename_i e;rw[if_neg e];exact ihb k h
   ·exact h
 | block id b ih=>
   intro fr st Q Q' k h;refine ih (fun o ho=> ?_) h
   cases o with
   |norm f s=>exact k _ ho
   | exit i f s=>
     by_cases e:i=id
     ·have ho:Q (.norm f s):=by simpa[kBlk,e]using ho
      simpa[kBlk,e]using k _ ho
     ·have ho:Q (.exit i f s):=by simpa[kBlk,e]using ho
      simpa[kBlk,e]using k _ ho
   |ret f s=>exact k _ ho
 | loop l b ih=>
   intro fr st Q Q' k h;obtain⟨I,h0,hs⟩:=(show Jkf (wC T lf b) lf fr st Q from h)
   refine(show Jkf (wC T lf b) lf fr st Q' from⟨I,h0,fun n f s hI=>ih (fun o ho=> ?_) (hs n f s hI)⟩)
   cases o with
   |norm f s=>exact ho
   |exit i f s=>exact k _ ho
   |ret f s=>exact k _ ho
def kCut (I:Fr->St->Prop)(Q:Out->Prop):Out->Prop
 | .norm fr st=>I fr st
 | .exit i fr st=>Q (.exit i fr st)
 | .ret fr st=>Q (.ret fr st)
theorem Jfq (I:Fr->St->Prop)(Q:Out->Prop)(fr:Fr)(st:St):kCut I Q (.norm fr st)=I fr st:=propext Iff.rfl
theorem Jfr (I:Fr->St->Prop)(Q:Out->Prop)(i:Nat)(fr:Fr)(st:St):kCut I Q (.exit i fr st)=Q (.exit i fr st):=propext Iff.rfl
theorem Jh1 (I:Fr->St->Prop)(Q:Out->Prop)(fr:Fr)(st:St):kCut I Q (.ret fr st)=Q (.ret fr st):=propext Iff.rfl
theorem JM {lf:Nat}{l:List Nat}{a b:C}{fr:Fr}{st:St}{K:Out->Prop}(I:Fr->St->Prop)(h1:wC T lf a fr st (kCut I K))(h2:∀f s,I f s->wC T lf b f s K):wC T lf (.seqj l a b) fr st K:=
 JkV a (fun o ho=>by
  cases o with
  |norm f s=>exact h2 f s ho
  |exit i f s=>exact ho
  |ret f s=>exact ho) h1
end
end Eva
