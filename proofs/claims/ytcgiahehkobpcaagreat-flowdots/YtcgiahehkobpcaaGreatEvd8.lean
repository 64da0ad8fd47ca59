/- An evaluator of the model's code, proved to tell what the model does. Evaluation told b -/
import Derived.Test.YtcgiahehkobpcaaGreatEvc6
import Derived.ChangeSlices
import Derived.ChangeMaps5
import Derived.Carry
import Derived.WideShapes
set_option linter.unusedVariables false
set_option linter.unusedSimpArgs false
set_option linter.unusedSectionVars false
namespace Eva
open Go Go.RowKit
def Does (T:Table)(f:Nat)(args:List V)(st:St)(Q:V->St->Prop):Prop:=∃v st',Q v st'/\∃N,∀n,N<=n->run T n f args st=some (v,st')
theorem Does.mono {T:Table}{f:Nat}{args:List V}{st:St}{Q Q':V->St->Prop}(h:Does T f args st Q)(k:∀v st',Q v st'->Q' v st'):Does T f args st Q':=by
 obtain⟨v,st',h1,h2⟩:=h;exact⟨v,st',k v st' h1,h2⟩
def wV (r:Option (V×Eff))(Q:V->Eff->Prop):Prop:=match r with
 |some (v,e)=>Q v e
 |none=>False
@[simp] theorem JtY (v:V)(e:Eff)(Q:V->Eff->Prop):wV (some (v,e)) Q=Q v e:=propext Iff.rfl
def markP (okW:Option (List Nat))(fr:Fr)(st st':St)(Q:St->Prop):Prop:=
 if st'.low<st.t then
  match okW with
  |none=>False
  |some l=>still fr st' st.t l=true/\Q {st' with low:=if st'.low<st.low then st'.low else st.low}
 else Q {st' with low:=st.low}
def wCall (T:Table)(m:Bool)(okW:Option (List Nat))(f:Nat)(args:List V)(fr:Fr)(st:St)(Q:V->St->Prop):Prop:=
 if m then Does T f args {st with low:=st.t} fun v st'=>markP okW fr st st' (Q v)else Does T f args st Q
def wFn (T:Table)(m:Bool)(okW:Option (List Nat))(x:V)(args:List V)(fr:Fr)(st:St)(Q:V->St->Prop):Prop:=match x with
 | .fn f a b=>wCall T m okW f (a++args++b) fr st Q
 |_=>False
def wO (T:Table)(m:Bool)(okW:Option (List Nat))(op:Iop)(fr:Fr)(st:St)(Q:V->St->Prop):Prop:=match op with
 | .call f as=>wCall T m okW f (evs fr as) fr st Q
 | .callv x as=>wFn T m okW (x.ev fr) (evs fr as) fr st Q
 |op=>wV (evOp fr st op) fun v e=>Q v (st.ap e)
def wG (x:V)(want:Bool)(P:Prop)(Z:Prop):Prop:=match x with
 | .bool b=>if b=want then P else Z
 | .tup _=>Z
 |_=>False
def wI (T:Table)(drawn:Bool)(i:Ins)(fr:Fr)(st:St)(Q:Fr->St->Prop):Prop:=match i.guard with
 |none=>wO T drawn i.okW i.op fr st fun v st=>Q (put fr i.dst v) st
 |some (g,want)=>wG (fr g) want (wO T drawn i.okW i.op fr st fun v st=>Q (put fr i.dst v) st) (Q (put fr i.dst undefV) st)
def wR (T:Table)(drawn:Bool):List Ins->Fr->St->(Fr->St->Prop)->Prop
 |[],fr,st,Q=>Q fr st
 |i::r,fr,st,Q=>wI T drawn i fr st fun fr st=>wR T drawn r fr st Q
def kSeq (b:Fr->St->(Out->Prop)->Prop)(Q:Out->Prop):Out->Prop
 | .norm fr st=>b fr st Q
 | .exit i fr st=>Q (.exit i fr st)
 | .ret fr st=>Q (.ret fr st)
def kBlk (id:Nat)(Q:Out->Prop):Out->Prop
 | .norm fr st=>Q (.norm fr st)
 | .exit i fr st=>if i=id then Q (.norm fr st)else Q (.exit i fr st)
 | .ret fr st=>Q (.ret fr st)
def kLoop (I:Nat->Fr->St->Prop)(k:Nat)(Q:Out->Prop):Out->Prop
 | .norm fr st=>∃j,j<k/\I j fr st
 | .exit i fr st=>Q (.exit i fr st)
 | .ret fr st=>Q (.ret fr st)
def boolP (x:V)(P R:Prop):Prop:=match x with
 | .bool b=>if b=true then P else R
 |_=>False
def wLoop (b:Fr->St->(Out->Prop)->Prop)(lf:Nat)(fr:Fr)(st:St)(Q:Out->Prop):Prop:=
 ∃I:Nat->Fr->St->Prop,(∃m,m<lf/\I m fr st)/\∀k fr st,I k fr st->b fr st (kLoop I k Q)
def wC (T:Table)(lf:Nat):C->Fr->St->(Out->Prop)->Prop
 | .skip,fr,st,Q=>Q (.norm fr st)
 | .reg l,fr,st,Q=>wR T false l fr st fun fr st=>Q (.norm fr st)
 | .drw l chk,fr,st,Q=>wR T true l fr st fun fr st=>Ky fr chk=true/\Q (.norm fr st)
 | .seq a b,fr,st,Q=>wC T lf a fr st (kSeq (wC T lf b) Q)
 | .seqj _ a b,fr,st,Q=>wC T lf a fr st (kSeq (wC T lf b) Q)
 | .cond c a b,fr,st,Q=>boolP (c.ev fr) (wC T lf a fr st Q) (wC T lf b fr st Q)
 | .block id b,fr,st,Q=>wC T lf b fr st (kBlk id Q)
 | .loop _ b,fr,st,Q=>wLoop (wC T lf b) lf fr st Q
 | .exit id,fr,st,Q=>Q (.exit id fr st)
 | .ret,fr,st,Q=>Q (.ret fr st)
section
variable {T : Table} {fr : Fr} {st : St}
theorem Jc4 {m:Bool}{okW:Option (List Nat)}{f:Nat}{args:List V}{Q:V->St->Prop}(h:wCall T m okW f args fr st Q):
  ∃v st',Q v st'/\∃N,∀n,N<=n->∀op,(∀self s,evCall self fr s op=self f args s)->(if m then Kx (run T n) okW fr st op else evCall (run T n) fr st op)=some (v,st'):=by
 unfold wCall at h
 cases m with
 | false=>
   obtain⟨v,st',h1,N,h2⟩:=h;refine⟨v,st',h1,N,fun n hn op hop=> ?_⟩;simp[hop,h2 n hn]
 | true=>
   obtain⟨v,st',h1,N,h2⟩:=h;unfold markP at h1;by_cases hl:st'.low<st.t
   ·rw[if_pos hl]at h1
    cases okW with
    |none=>exact h1.elim
    | some l=>
      refine⟨v,_,h1.2,N,fun n hn op hop=> ?_⟩;simp only[if_true,Kx,hop,h2 n hn];rw[if_pos hl,h1.1];rfl
   ·rw[if_neg hl]at h1;refine⟨v,_,h1,N,fun n hn op hop=> ?_⟩;simp only[if_true,Kx,hop,h2 n hn];rw[if_neg hl]
theorem Jny {drawn:Bool}{okW:Option (List Nat)}{op:Iop}{Q:V->St->Prop}(h:wO T drawn okW op fr st Q):
  ∃v st',Q v st'/\∃N,∀n,N<=n->(if drawn&&op.calls then Kx (run T n) okW fr st op else evCall (run T n) fr st op)=some (v,st'):=by
 have plain:∀{op:Iop},op.calls=false->(∀self,evCall self fr st op=(evOp fr st op).map fun(v,e)=>(v,st.ap e))->wV (evOp fr st op) (fun v e=>Q v (st.ap e))->
   ∃v st',Q v st'/\∃N,∀n,N<=n->(if drawn&&op.calls then Kx (run T n) okW fr st op else evCall (run T n) fr st op)=some (v,st'):=by
  intro op hc he h;unfold wV at h
  split at h
  ·rename_i v e hv
   refine⟨v,_,h,0,fun n _=> ?_⟩;rw[hc,Bool.and_false];simp[he,hv]
  ·exact h.elim
 cases op
 case call f as=>
  obtain⟨v,st',h1,N,h2⟩:=Jc4 (show wCall T drawn okW f (evs fr as) fr st Q from h);refine⟨v,st',h1,N,fun n hn=> ?_⟩;have:=h2 n hn (.call f as) fun _ _=>rfl;simpa[Iop.calls]using this
 case callv x as=>
  have h:wFn T drawn okW (x.ev fr) (evs fr as) fr st Q:=h;unfold wFn at h
  split at h
  ·rename_i f a b hx
   obtain⟨v,st',h1,N,h2⟩:=Jc4 h;refine⟨v,st',h1,N,fun n hn=> ?_⟩;have:=h2 n hn (.callv x as) fun _ _=>by simp[evCall,hx]
   simpa[Iop.calls]using this
  ·exact h.elim
 all_goals exact plain rfl (fun _=>rfl) h
theorem Jnz {drawn:Bool}{i:Ins}{Q:Fr->St->Prop}(h:wI T drawn i fr st Q):∃fr' st',Q fr' st'/\∃N,∀n,N<=n->evIns (run T n) drawn fr st i=some (fr',st'):=by
 have go:wO T drawn i.okW i.op fr st (fun v st=>Q (put fr i.dst v) st)->∃fr' st',Q fr' st'/\∃N,∀n,N<=n->evGo (run T n) drawn fr st i=some (fr',st'):=by
  intro h;obtain⟨v,st',h1,N,h2⟩:=Jny h;refine⟨_,_,h1,N,fun n hn=> ?_⟩;unfold evGo;rw[h2 n hn]
 unfold wI at h
 split at h
 ·rename_i hg
  obtain⟨fr',st',h1,N,h2⟩:=go h;exact⟨fr',st',h1,N,fun n hn=>by simp only[evIns,hg];exact h2 n hn⟩
 ·rename_i g want hg
  unfold wG at h
  split at h
  ·rename_i b hb
   split at h
   ·rename_i e
    obtain⟨fr',st',h1,N,h2⟩:=go h;exact⟨fr',st',h1,N,fun n hn=>by simp only[evIns,hg,hb];rw[if_pos (by simp[e])];exact h2 n hn⟩
   ·rename_i e
    exact⟨_,_,h,0,fun n _=>by simp only[evIns,hg,hb];rw[if_neg (by simp[e])]⟩
  ·rename_i l hl
   exact⟨_,_,h,0,fun n _=>by simp only[evIns,hg,hl]⟩
  ·exact h.elim
theorem Jd5 {drawn:Bool}:∀{l:List Ins} {fr:Fr} {st:St} {Q:Fr->St->Prop},wR T drawn l fr st Q->∃fr' st',Q fr' st'/\∃N,∀n,N<=n->JH (run T n) drawn l fr st=some (fr',st')
 |[],fr,st,_,h=>⟨fr,st,h,0,fun _ _=>rfl⟩
 | i::r,_,_,_,h=>by
   obtain⟨fr1,st1,h1,N,h2⟩:=Jnz (show wI T drawn i _ _ (fun fr st=>wR T drawn r fr st _)from h);obtain⟨fr2,st2,h3,M,h4⟩:=Jd5 h1;exact⟨fr2,st2,h3,max N M,fun n hn=>by simp only[JH,h2 n (by omega)];exact h4 n (by omega)⟩
theorem Jh4 {lf:Nat}(c:C):∀{fr:Fr} {st:St} {Q:Out->Prop},wC T lf c fr st Q->∃o,Q o/\∃N,∀n,N<=n->evD (run T n) lf c fr st=some o:=by
 induction c with
 |skip=>exact fun h=>⟨_,h,0,fun _ _=>rfl⟩
 |exit id=>exact fun h=>⟨_,h,0,fun _ _=>rfl⟩
 |ret=>exact fun h=>⟨_,h,0,fun _ _=>rfl⟩
 | reg l=>
   intro fr st Q h;obtain⟨fr',st',h1,N,h2⟩:=Jd5 (show wR T false l fr st _ from h);exact⟨_,h1,N,fun n hn=>by simp only[evD,h2 n hn,Option.map_some]⟩
 | drw l chk=>
   intro fr st Q h;obtain⟨fr',st',h1,N,h2⟩:=Jd5 (show wR T true l fr st _ from h);exact⟨_,h1.2,N,fun n hn=>by simp only[evD,h2 n hn];rw[if_pos h1.1]⟩
 | seq a b iha ihb=>
   intro fr st Q h;obtain⟨o,h1,N,h2⟩:=iha (show wC T lf a fr st (kSeq (wC T lf b) Q)from h)
   cases o with
   | norm fr1 st1=>
     obtain⟨o2,h3,M,h4⟩:=ihb (show wC T lf b fr1 st1 Q from h1);exact⟨o2,h3,max N M,fun n hn=>by simp only[evD,h2 n (by omega)];exact h4 n (by omega)⟩
   |exit i fr1 st1=>exact⟨_,h1,N,fun n hn=>by simp only[evD,h2 n hn]⟩
   |ret fr1 st1=>exact⟨_,h1,N,fun n hn=>by simp only[evD,h2 n hn]⟩
 | seqj l a b iha ihb=>
   intro fr st Q h;obtain⟨o,h1,N,h2⟩:=iha (show wC T lf a fr st (kSeq (wC T lf b) Q)from h)
   cases o with
   | norm fr1 st1=>
     obtain⟨o2,h3,M,h4⟩:=ihb (show wC T lf b fr1 st1 Q from h1);exact⟨o2,h3,max N M,fun n hn=>by simp only[evD,h2 n (by omega)];exact h4 n (by omega)⟩
   |exit i fr1 st1=>exact⟨_,h1,N,fun n hn=>by simp only[evD,h2 n hn]⟩
   |ret fr1 st1=>exact⟨_,h1,N,fun n hn=>by simp only[evD,h2 n hn]⟩
 | cond c a b iha ihb=>
   intro fr st Q h;have h:boolP (c.ev fr) (wC T lf a fr st Q) (wC T lf b fr st Q):=h;unfold boolP at h
   split at h
   ·rename_i t ht
    split at h
    ·rename_i e
     obtain⟨o,h1,N,h2⟩:=iha h;exact⟨o,h1,N,fun n hn=>by simp only[evD,ht,e,if_true];exact h2 n hn⟩
    ·rename_i e
     obtain⟨o,h1,N,h2⟩:=ihb h;exact⟨o,h1,N,fun n hn=>by simp only[evD,ht,e];exact h2 n hn⟩
   ·exact h.elim
 | block id b ih=>
   intro fr st Q h;obtain⟨o,h1,N,h2⟩:=ih (show wC T lf b fr st (kBlk id Q)from h)
   cases o with
   |norm fr1 st1=>exact⟨_,h1,N,fun n hn=>by simp only[evD,h2 n hn]⟩
   |ret fr1 st1=>exact⟨_,h1,N,fun n hn=>by simp only[evD,h2 n hn]⟩
   | exit i fr1 st1=>
     by_cases e:i=id
     ·have h1:Q (.norm fr1 st1):=by simpa[kBlk,e]using h1
      exact⟨_,h1,N,fun n hn=>by simp only[evD,h2 n hn];rw[if_pos e]⟩
     ·have h1:Q (.exit i fr1 st1):=by simpa[kBlk,e]using h1
      exact⟨_,h1,N,fun n hn=>by simp only[evD,h2 n hn];rw[if_neg e]⟩
 | loop l b ih=>
   intro fr st Q h;obtain⟨I,⟨m,hm,hI⟩,hstep⟩:=(show wLoop (wC T lf b) lf fr st Q from h)
   have key:∀m fr st,I m fr st->∀fuel,m<fuel->∃o,Q o/\∃N,∀n,N<=n->loopD (evD (run T n) lf b) l fuel fr st=some o:=by
    intro m
    induction m using Nat.strongRecOn with
    | _ m im=>
      intro fr st hI fuel hf;obtain⟨fuel,rfl⟩:∃k,fuel=k+1:=⟨fuel-1,by omega⟩
      obtain⟨o,h1,N,h2⟩:=ih (hstep m fr st hI)
      cases o with
      | norm fr1 st1=>
        obtain⟨j,hj,hIj⟩:=h1;obtain⟨o2,h3,M,h4⟩:=im j hj fr1 st1 hIj fuel (by omega);exact⟨o2,h3,max N M,fun n hn=>by simp only[loopD,h2 n (by omega)];exact h4 n (by omega)⟩
      |exit i fr1 st1=>exact⟨_,h1,N,fun n hn=>by simp only[loopD,h2 n hn]⟩
      |ret fr1 st1=>exact⟨_,h1,N,fun n hn=>by simp only[loopD,h2 n hn]⟩
   exact key m fr st hI lf hm
end
def resP (st:St)(fr:Fr)(res:List RS)(Q:V->St->Prop):Prop:=match Ql res fr st with
 |some v=>Q v st
 |none=>False
def kRet (res:List RS)(Q:V->St->Prop):Out->Prop
 | .norm fr st=>resP st fr res Q
 | .exit _ _ _=>False
 | .ret fr st=>resP st fr res Q
theorem Jh5 (st:St)(fr:Fr)(i:Nat)(Q:V->St->Prop):resP st fr [.s i] Q=Q (fr i) st:=by
 simp[resP,Ql,evRes]
theorem Jh6 (st:St)(fr:Fr)(i j:Nat)(Q:V->St->Prop):resP st fr [.s i, .s j] Q=Q (.tup [fr i,fr j]) st:=by
 simp[resP,Ql,evRes]
theorem Jd6 (st:St)(fr:Fr)(i j k:Nat)(Q:V->St->Prop):resP st fr [.s i, .s j, .s k] Q=Q (.tup [fr i,fr j,fr k]) st:=by
 simp[resP,Ql,evRes]
theorem Jh7 (st:St)(fr:Fr)(Q:V->St->Prop):resP st fr [] Q=Q (.tup []) st:=by
 simp[resP,Ql]
theorem JA {T:Table}{f lf:Nat}{cf:Fn}{b:Self->List V->St->Option (V×St)}(hT:T f=some b)(hb:b=evFn lf cf){args:List V}{st:St}{Q:V->St->Prop}
  (h:wC T lf cf.body (initFr args) st (kRet cf.res Q)):Does T f args st Q:=by
 subst hb;obtain⟨o,h1,N,h2⟩:=Jh4 cf.body h;have fin:∀fr st',(o= .norm fr st'\/o= .ret fr st')->Does T f args st Q:=by
  intro fr st' ho;have h1:resP st' fr cf.res Q:=by rcases ho with rfl|rfl<;>exact h1
  unfold resP at h1
  split at h1
  ·rename_i v hv
   refine⟨v,st',h1,N+1,fun n hn=> ?_⟩;obtain⟨n,rfl⟩:∃k,n=k+1:=⟨n-1,by omega⟩
   simp only[run,hT];unfold evFn;rw[h2 n (by omega)];rcases ho with rfl|rfl<;>simp[hv]
  ·exact h1.elim
 cases o with
 |norm fr st'=>exact fin fr st' (.inl rfl)
 |ret fr st'=>exact fin fr st' (.inr rfl)
 |exit i fr st'=>exact h1.elim
def Up (s s':Self):Prop:=∀f a st r,s f a st=some r->s' f a st=some r
def BodyUp (b:Self->List V->St->Option (V×St)):Prop:=∀s s',Up s s'->∀a st r,b s a st=some r->b s' a st=some r
section
variable {s s' : Self} (h : Up s s')
include h
theorem JfR {fr:Fr}{st:St}{op:Iop}{r:V×St}(k:evCall s fr st op=some r):evCall s' fr st op=some r:=by
 cases op
 case call f as=>exact h _ _ _ _ k
 case callv x as=>
  simp only[evCall]at k⊢
  split at k
  ·exact h _ _ _ _ k
  ·cases k
 all_goals exact k
theorem Jh8 {okW:Option (List Nat)}{fr:Fr}{st:St}{op:Iop}{r:V×St}(k:Kx s okW fr st op=some r):Kx s' okW fr st op=some r:=by
 unfold Kx at k⊢
 cases hc:evCall s fr {st with low:=st.t} op with
 |none=>rw[hc]at k;cases k
 |some x=>rw[hc]at k;rw[JfR h hc];exact k
theorem Jk6 {d:Bool}{fr:Fr}{st:St}{i:Ins}{r:Fr×St}(k:evGo s d fr st i=some r):evGo s' d fr st i=some r:=by
 unfold evGo at k⊢;by_cases hm:(d&&i.op.calls)=true
 ·rw[if_pos hm]at k⊢
  cases hc:Kx s i.okW fr st i.op with
  |none=>rw[hc]at k;cases k
  |some x=>rw[hc]at k;rw[Jh8 h hc];exact k
 ·rw[if_neg hm]at k⊢
  cases hc:evCall s fr st i.op with
  |none=>rw[hc]at k;cases k
  |some x=>rw[hc]at k;rw[JfR h hc];exact k
theorem JnA {d:Bool}{fr:Fr}{st:St}{i:Ins}{r:Fr×St}(k:evIns s d fr st i=some r):evIns s' d fr st i=some r:=by
 obtain⟨dst,op,g,ow⟩:=i
 cases g with
 |none=>exact Jk6 h k
 | some p=>
   obtain⟨g,want⟩:=p;simp only[evIns]at k⊢
   cases hf:fr g with
   | bool b=>
     rw[hf]at k;simp only at k⊢;by_cases e:(b==want)=true
     ·rw[if_pos e]at k⊢;exact Jk6 h k
     ·rw[if_neg e]at k⊢;exact k
   |tup l=>rw[hf]at k;exact k
   |_=>rw[hf]at k;cases k
theorem qy {d:Bool}:∀{l:List Ins} {fr:Fr} {st:St} {r:Fr×St},JH s d l fr st=some r->JH s' d l fr st=some r
 |[],_,_,_,k=>k
 | i::l,fr,st,r,k=>by
   simp only[JH]at k⊢
   cases hc:evIns s d fr st i with
   |none=>rw[hc]at k;cases k
   |some x=>rw[hc]at k;rw[JnA h hc];exact qy k
theorem JnB {lf:Nat}(c:C):∀{fr:Fr} {st:St} {o:Out},evD s lf c fr st=some o->evD s' lf c fr st=some o:=by
 induction c with
 |skip=>exact fun k=>k
 |exit id=>exact fun k=>k
 |ret=>exact fun k=>k
 | reg l=>
   intro fr st o k;simp only[evD]at k⊢
   cases hc:JH s false l fr st with
   |none=>rw[hc]at k;cases k
   |some x=>rw[hc]at k;rw[qy h hc];exact k
 | drw l chk=>
   intro fr st o k;simp only[evD]at k⊢
   cases hc:JH s true l fr st with
   |none=>rw[hc]at k;cases k
   |some x=>rw[hc]at k;rw[qy h hc];exact k
 | seq a b iha ihb=>
   intro fr st o k;simp only[evD]at k⊢
   cases hc:evD s lf a fr st with
   |none=>rw[hc]at k;cases k
   | some x=>
     rw[hc]at k;rw[iha hc]
     cases x with
     |norm fr1 st1=>exact ihb k
     |exit i fr1 st1=>exact k
     |ret fr1 st1=>exact k
 | seqj l a b iha ihb=>
   intro fr st o k;simp only[evD]at k⊢
   cases hc:evD s lf a fr st with
   |none=>rw[hc]at k;cases k
   | some x=>
     rw[hc]at k;rw[iha hc]
     cases x with
     |norm fr1 st1=>exact ihb k
     |exit i fr1 st1=>exact k
     |ret fr1 st1=>exact k
 | cond c a b iha ihb=>
   intro fr st o k;simp only[evD]at k⊢
   split at k
   ·rename_i t ht
    split at k
    ·rename_i e;rw[if_pos e];exact iha k
    ·rename_i e;rw[if_neg e];exact ihb k
   ·cases k
 | block id b ih=>
   intro fr st o k;simp only[evD]at k⊢
   cases hc:evD s lf b fr st with
   |none=>rw[hc]at k;cases k
   |some x=>rw[hc]at k;rw[ih hc];exact k
 | loop l b ih=>
   intro fr st o k;simp only[evD]at k⊢;have key:∀n fr st o,loopD (evD s lf b) l n fr st=some o->loopD (evD s' lf b) l n fr st=some o:=by
    intro n
    induction n with
    |zero=>exact fun _ _ _ k=>by cases k
    | succ n im=>
      intro fr st o k;simp only[loopD]at k⊢
      cases hc:evD s lf b fr st with
      |none=>rw[hc]at k;cases k
      | some x=>
        rw[hc]at k;rw[ih hc]
        cases x with
        |norm fr1 st1=>exact im _ _ _ k
        |exit i fr1 st1=>exact k
        |ret fr1 st1=>exact k
   exact key _ _ _ _ k
end
theorem Jqm (lf:Nat)(cf:Fn):BodyUp (evFn lf cf):=by
 intro s s' h a st r k;unfold evFn at k⊢
 cases hc:evD s lf cf.body (initFr a) st with
 |none=>rw[hc]at k;cases k
 |some x=>rw[hc]at k;rw[JnB h _ hc];exact k
theorem Jqn (g:List V->Option V):BodyUp fun _ args st=>match g args with
  |some v=>some (v,st)
  |none=>none:=fun _ _ _ _ _ _ k=>k
theorem JnC {T:Table}(h:∀f b,T f=some b->BodyUp b):∀n,Up (run T n) (run T (n+1))
 |0=>fun _ _ _ _ k=>by cases k
 | n+1=>fun f a st r k=>by
   simp only[run]at k⊢
   split at k
   ·rename_i b hb
    exact h f b hb _ _ (JnC h n) a st r k
   ·cases k
theorem JnD {T:Table}(h:∀f b,T f=some b->BodyUp b){n:Nat}:∀m,n<=m->Up (run T n) (run T m):=by
 intro m hm
 induction hm with
 |refl=>exact fun _ _ _ _ k=>k
 |step _ ih=>exact fun f a st r k=>JnC h _ f a st r (ih f a st r k)
theorem JsW {t:BT}(h:t.all fun _ e=>BodyUp e.b):∀f,BodyUp (selB t f):=by
 induction t with
 | leaf i e=>
   intro f;show BodyUp (bif Nat.beq f i then e.b else deadB)
   cases Nat.beq f i with
   |true=>exact h
   |false=>exact fun _ _ _ _ _ _ k=>by cases k
 | node n l r ihl ihr=>
   intro f;show BodyUp (bif Nat.ble f n then selB l f else selB r f)
   cases Nat.ble f n with
   |true=>exact ihl h.1 f
   |false=>exact ihr h.2 f
theorem JsX {t:BT}(h:t.all fun _ e=>BodyUp e.b):∀f b,tabT t f=some b->BodyUp b:=by
 intro f b hb;simp only[tabT,Option.some.injEq]at hb;subst hb;exact JsW h f
structure Gr (a b:St):Prop where
 mono:Mono a b
 same:∀r,a.row r≠ .none->b.row r=a.row r
 low:a.low<=a.t->b.low=a.low
theorem Gr.refl {a:St}(h:WF a):Gr a a:=⟨Mono.refl h,fun _ _=>rfl,fun _=>rfl⟩
theorem Gr.wf {a b:St}(h:Gr a b):WF b:=h.mono.wf
theorem Gr.trans {a b c:St}(h:Gr a b)(k:Gr b c):Gr a c:=
 ⟨h.mono.trans k.mono,fun r e=>by rw[k.same r (by rw[h.same r e];exact e),h.same r e],fun e=>by
  have h1:=h.low e;have h2:=h.mono.t;rw[k.low (by omega),h1]⟩
theorem Gr.ok {a b:St}(h:Gr a b)(e:a.low<=a.t):b.low<=b.t:=by
 have h1:=h.low e;have h2:=h.mono.t;omega
theorem Gr.at {a b:St}(h:Gr a b){r:Pt}{x:Row}(e:a.row r=x)(hx:x≠ .none):b.row r=x:=by rw[h.same r (by rw[e];exact hx),e]
theorem Gr.cells {a b:St}(h:Gr a b){r:Pt}{t:Nat}{l:List V}(e:a.row r= .cells t l):b.row r= .cells t l:=h.at e (by intro e;cases e)
theorem Gr.ro {a b:St}(h:Gr a b){r:Pt}{l:List V}(e:a.row r= .ro l):b.row r= .ro l:=h.at e (by intro e;cases e)
theorem Q3 {st:St}(h:WF st):st.row st.nx= .none:=by
 apply Classical.byContradiction;intro e;exact absurd (h.nx _ e) (Nat.lt_irrefl _)
theorem Jsi {st:St}(h:WF st){r:Pt}(k:st.row r≠ .none):r≠st.nx:=fun e=>k (by rw[e];exact Q3 h)
theorem Gr.new {st:St}(h:WF st){f:Nat->Row}(hf:∀u,(f u).time=u/\f u≠ .none):Gr st (st.new f):=
 ⟨kf h hf,fun r e=>by rw[St.row_new,Ju _ _ (Jsi h e)],fun _=>rfl⟩
theorem Ka (st:St)(f:Nat->Row):(st.new f).row st.nx=f st.t:=by rw[St.row_new,Jp]
theorem J7 (st:St)(p:Pt)(t:Nat)(f:Nat->Row):(st.wr p t f).row p=f st.t:=by rw[St.row_wr,Jp]
theorem JR (st:St){p r:Pt}(t:Nat)(f:Nat->Row)(h:r≠p):(st.wr p t f).row r=st.row r:=by rw[St.row_wr,Ju _ _ h]
theorem Gr.born {a b:St}(h:Gr a b){p:Pt}(ha:a.row p= .none)(hb:b.row p≠ .none):a.t<=(b.row p).time:=(h.mono.row p (by rw[ha];exact hb)).1
theorem Gr.wr {a st:St}(h:Gr a st){p:Pt}{t:Nat}{f:Nat->Row}(ha:a.row p= .none)(hp:st.row p≠ .none)(ht:(st.row p).time=t)(hf:∀u,(f u).time=u/\f u≠ .none):Gr a (st.wr p t f):=by
 have hm:=YR h.wf hp ht hf;refine⟨h.mono.trans hm,fun r e=> ?_,fun e=> ?_⟩
 ·have:r≠p:=fun k=>e (by rw[k];exact ha);rw[JR _ _ _ this,h.same r e]
 ·have h1:=h.low e;have h2:=h.born ha hp;show(if t<st.low then t else st.low)=a.low;rw[if_neg (by omega),h1]
theorem Gr.dn {a st:St}(h:Gr a st){p:Pt}{t:Nat}{f:Nat->Row}(ha:a.row p= .none)(hp:st.row p≠ .none)(ht:(st.row p).time=t)(hf:∀u,(f u).time=u/\f u≠ .none):Gr a ((st.wr p t .dead).new f):=by
 have h1:=h.wr (f:= .dead) ha hp ht (fun u=>⟨rfl,by intro e;cases e⟩);exact h1.trans (Gr.new h1.wf hf)
theorem Gr.unmark {st st':St}(h:Gr {st with low:=st.t} st'):Gr st {st' with low:=st.low}:=by
 refine⟨⟨KN h.wf _,h.mono.t,h.mono.nx,h.mono.row,Nat.le_refl _,fun r e1 e2=> ?_,h.mono.born⟩,h.same,fun _=>rfl⟩;exact absurd (h.same r e1) e2
theorem Je {T:Table}{okW:Option (List Nat)}{f:Nat}{args:List V}{fr:Fr}{st:St}{P:V->St->Prop}{Q:V->St->Prop}(h:Does T f args st P)(k:∀v st',P v st'->Q v st'):wCall T false okW f args fr st Q:=h.mono k
theorem JF {T:Table}{okW:Option (List Nat)}{f:Nat}{args:List V}{fr:Fr}{st:St}{P:V->St->Prop}{Q:V->St->Prop}(h:Does T f args {st with low:=st.t} fun v st'=>Gr {st with low:=st.t} st'/\P v st')
  (k:∀v st',Gr st st'->P v {st' with low:=st.t}->Q v st'):wCall T true okW f args fr st Q:=by
 unfold wCall;simp only[if_true];refine h.mono fun v st' ⟨hg,hp⟩=> ?_;have hl:=hg.low (Nat.le_refl _);have hl:st'.low=st.t:=hl;unfold markP;rw[if_neg (by omega)];refine k v _ hg.unmark ?_;show P v {st' with low:=st.t};rw[<-hl];exact hp
def ofL (l:List UInt8):V:= .str l.length (snum l)
def byteAt (l:List UInt8)(i:Nat):Int:=((l.getD i 0).toNat:Int)
theorem Y5 {l:List UInt8}{i:Nat}(h:i<l.length):byteAt l i=(l[i].toNat:Int):=by
 unfold byteAt;rw[List.getD_eq_getElem?_getD,List.getElem?_eq_getElem h];rfl
section
variable (fr : Fr) (st : St)
theorem JtG (x:Opd):evOp fr st (.mv x)=some (x.ev fr, .no):=of_eq_true (eq_self _)
def pickV (c a b:V):Option (V×Eff):=match c with
 | .bool t=>some (if t then a else b, .no)
 |_=>none
theorem JnE (c a b:Opd):evOp fr st (.pick c a b)=pickV (c.ev fr) (a.ev fr) (b.ev fr):=of_eq_true (eq_self _)
theorem Jd7 (a b:V):pickV (.bool true) a b=some (a, .no):=of_eq_true (eq_self _)
theorem Jc5 (a b:V):pickV (.bool false) a b=some (b, .no):=of_eq_true (eq_self _)
theorem Jk7 (zs:List V):evOp fr st (.alloc zs)=some (.ptr st.nx 0, .new fun t=> .cells t zs):=of_eq_true (eq_self _)
theorem Jsj (x:Opd):evOp fr st (.box x)=boxV st (x.ev fr):=of_eq_true (eq_self _)
theorem Jk8 (zs:List V)(ps:List (Nat×Nat×Opd)):evOp fr st (.build zs ps)=buildV st zs (evps fr ps):=of_eq_true (eq_self _)
theorem Jsk (z n:Nat)(zs:List V)(ps:List (Nat×Nat×Opd)):evOp fr st (.bsl z n zs ps)=bslV st z n zs (evps fr ps):=of_eq_true (eq_self _)
def ld1 (r:Row)(o:Nat):Option (V×Eff):=match r with
 | .cells _ l=>(l[o]?).map fun v=>(v, .no)
 | .ro l=>(l[o]?).map fun v=>(v, .no)
 |_=>none
def load1V (st:St)(x:V):Option (V×Eff):=match x with
 | .ptr r o=>ld1 (st.row r) o
 |_=>none
theorem take1 (l:List V)(o:Nat):(if o+1<=l.length then some ((l.drop o).take 1)else none)=(l[o]?).map fun v=>[v]:=by
 by_cases h:o+1<=l.length
 ·rw[if_pos h,List.getElem?_eq_getElem (by omega),List.drop_eq_getElem_cons (by omega)];rfl
 ·rw[if_neg h,List.getElem?_eq_none (by omega)];rfl
theorem Jk9 (x:Opd):evOp fr st (.load1 x)=load1V st (x.ev fr):=by
 show(match loadN st 1 (x.ev fr)with
  |some [v]=>some (v,Eff.no)
  |_=>none)=_
 cases x.ev fr<;>try rfl
 rename_i r o
 simp only[loadN,load1V]
 cases st.row r with
 | cells t l=>
   simp only[take1,ld1]
   cases l[o]? <;>rfl
 | ro l=>
   simp only[take1,ld1]
   cases l[o]? <;>rfl
 |_=>rfl
def ldn (r:Row)(o n:Nat):Option (V×Eff):=match r with
 | .cells _ l=>if o+n<=l.length then some (.agg ((l.drop o).take n), .no)else none
 | .ro l=>if o+n<=l.length then some (.agg ((l.drop o).take n), .no)else none
 |_=>none
def loadnV (st:St)(n:Nat)(x:V):Option (V×Eff):=match x with
 | .ptr r o=>ldn (st.row r) o n
 |_=>none
theorem JbC (n:Nat)(x:Opd):evOp fr st (.loadn n x)=loadnV st n (x.ev fr):=by
 show(loadN st n (x.ev fr)).map _=_
 cases x.ev fr<;>try rfl
 rename_i r o
 simp only[loadN,loadnV]
 cases st.row r with
 |cells t l=>simp only[ldn];split<;>rfl
 |ro l=>simp only[ldn];split<;>rfl
 |_=>rfl
theorem jx (t:Nat)(l:List V)(o:Nat):ld1 (.cells t l) o=(l[o]?).map fun v=>(v, .no):=of_eq_true (eq_self _)
theorem Jg7 (l:List V)(o:Nat):ld1 (.ro l) o=(l[o]?).map fun v=>(v, .no):=of_eq_true (eq_self _)
theorem jy (t:Nat)(l:List V)(o n:Nat):ldn (.cells t l) o n=if o+n<=l.length then some (.agg ((l.drop o).take n), .no)else none:=of_eq_true (eq_self _)
theorem Jg8 (l:List V)(o n:Nat):ldn (.ro l) o n=if o+n<=l.length then some (.agg ((l.drop o).take n), .no)else none:=of_eq_true (eq_self _)
theorem Jd8 (r:Pt)(o:Nat):load1V st (.ptr r o)=ld1 (st.row r) o:=of_eq_true (eq_self _)
theorem Jd9 (n:Nat)(r:Pt)(o:Nat):loadnV st n (.ptr r o)=ldn (st.row r) o n:=of_eq_true (eq_self _)
def nilckV (x:V):Option (V×Eff):=match x with
 | .ptr r o=>some (.ptr r o, .no)
 | .fn f a b=>some (.fn f a b, .no)
 |_=>none
theorem Jla (x:Opd):evOp fr st (.nilck x)=nilckV (x.ev fr):=of_eq_true (eq_self _)
theorem Jea (r:Pt)(o:Nat):nilckV (.ptr r o)=some (.ptr r o, .no):=of_eq_true (eq_self _)
theorem JfS (f:Nat)(a b:List V):nilckV (.fn f a b)=some (.fn f a b, .no):=of_eq_true (eq_self _)
def eqV (e:EK)(neg:Bool)(x y:V):Option (V×Eff):=(e.eq x y).map fun t=>(.bool (t !=neg), .no)
theorem JtH (e:EK)(neg:Bool)(x y:Opd):evOp fr st (.eq e neg x y)=eqV e neg (x.ev fr) (y.ev fr):=of_eq_true (eq_self _)
theorem Jlb (k:IntKind)(a b:Int):eqV (.one .i) false (.int k a) (.int k b)=some (.bool (decide (a=b)), .no):=by
 simp[eqV,EK.eq,keq];by_cases h:a=b<;>simp[h]
theorem Jlc (k:IntKind)(a b:Int):eqV (.one .i) true (.int k a) (.int k b)=some (.bool (decide (a≠b)), .no):=by
 simp[eqV,EK.eq,keq];by_cases h:a=b<;>simp[h]
theorem JbD (a b:List UInt8):(a.length==b.length&&snum a==snum b)=decide (a=b):=by
 rw[Bool.eq_iff_iff,decide_eq_true_eq,Bool.and_eq_true,beq_iff_eq,beq_iff_eq];exact⟨fun⟨h1,h2⟩=>qq h1 h2,fun h=>by rw[h];exact⟨rfl,rfl⟩⟩
theorem Jld (a b:List UInt8):eqV (.one .s) false (ofL a) (ofL b)=some (.bool (decide (a=b)), .no):=by
 simp only[eqV,EK.eq,keq,ofL,JbD,Option.map_some,Bool.bne_false]
theorem Jle (a b:List UInt8):eqV (.one .s) true (ofL a) (ofL b)=some (.bool (decide (a≠b)), .no):=by
 simp only[eqV,EK.eq,keq,ofL,JbD,Option.map_some,Bool.bne_true,decide_not]
theorem Jh9 (a b:Bool):eqV (.one .b) false (.bool a) (.bool b)=some (.bool (decide (a=b)), .no):=by
 cases a<;>cases b<;>rfl
theorem Jia (a b:Bool):eqV (.one .b) true (.bool a) (.bool b)=some (.bool (decide (a≠b)), .no):=by
 cases a<;>cases b<;>rfl
def binV (op:BinOp)(x y:V):Option (V×Eff):=(arith op x y).map fun v=>(v, .no)
theorem Jsl (op:BinOp)(x y:Opd):evOp fr st (.bin op x y)=binV op (x.ev fr) (y.ev fr):=of_eq_true (eq_self _)
theorem Jib (k:IntKind)(a b:Int):binV .add (.int k a) (.int k b)=some (.int k (k.wrap (a+b)), .no):=by simp[binV,arith]
theorem Jic (k:IntKind)(a b:Int):binV .sub (.int k a) (.int k b)=some (.int k (k.wrap (a-b)), .no):=by simp[binV,arith]
theorem Jid (k:IntKind)(a b:Int):binV .mul (.int k a) (.int k b)=some (.int k (k.wrap (a*b)), .no):=by simp[binV,arith]
theorem Jie (k:IntKind)(a b:Int):binV .rem (.int k a) (.int k b)=if b≠0 then some (.int k (a.tmod b), .no)else none:=by
 by_cases h:b=0<;>simp[binV,arith,h]
theorem Jif (k:IntKind)(a b:Int):binV .quo (.int k a) (.int k b)=if b≠0 then some (.int k (k.wrap (a.tdiv b)), .no)else none:=by
 by_cases h:b=0<;>simp[binV,arith,h]
theorem Jig (k:IntKind)(a b:Int):binV .lss (.int k a) (.int k b)=some (.bool (decide (a<b)), .no):=by simp[binV,arith]
theorem Jih (k:IntKind)(a b:Int):binV .leq (.int k a) (.int k b)=some (.bool (decide (a<=b)), .no):=by simp[binV,arith]
theorem Jii (k:IntKind)(a b:Int):binV .gtr (.int k a) (.int k b)=some (.bool (decide (b<a)), .no):=by simp[binV,arith]
theorem Jij (k:IntKind)(a b:Int):binV .geq (.int k a) (.int k b)=some (.bool (decide (b<=a)), .no):=by simp[binV,arith]
theorem Jik (a b:List UInt8):binV .add (ofL a) (ofL b)=if a.length+b.length<2^62 then some (ofL (a++b), .no)else none:=by
 simp only[binV,arith,ofL]
 split
 ·simp[JkV]
 ·rfl
theorem Jeb (a b:List UInt8):binV .lss (ofL a) (ofL b)=some (.bool (Op.bytesLess a b), .no):=by
 simp only[binV,arith,ofL,qr,Option.map_some]
theorem qW (a b:List UInt8):binV .geq (ofL a) (ofL b)=some (.bool (!Op.bytesLess a b), .no):=by
 simp only[binV,arith,ofL,qr,Option.map_some]
def notV (x:V):Option (V×Eff):=match x with
 | .bool t=>some (.bool !t, .no)
 |_=>none
theorem Jsm (x:Opd):evOp fr st (.not x)=notV (x.ev fr):=of_eq_true (eq_self _)
theorem JfT (b:Bool):notV (.bool b)=some (.bool !b, .no):=of_eq_true (eq_self _)
theorem Jlf (k:IntKind)(x:Opd):evOp fr st (.toint k x)=tointV st k (x.ev fr):=of_eq_true (eq_self _)
theorem Jec (k k':IntKind)(n:Int):tointV st k (.int k' n)=some (.int k (k.wrap n), .no):=of_eq_true (eq_self _)
theorem Jlg (x:Opd):evOp fr st (.tostr x)=tostrV st (x.ev fr):=of_eq_true (eq_self _)
theorem Jed (l:List UInt8):tostrV st (ofL l)=some (ofL l, .no):=of_eq_true (eq_self _)
theorem JnF (f:Nat)(a b:List Opd):evOp fr st (.mkfn f a b)=some (.fn f (evs fr a) (evs fr b), .no):=of_eq_true (eq_self _)
theorem JnG (x:Opd)(lo hi:Option Opd):evOp fr st (.cutS x lo hi)=cutSV st (x.ev fr) (lo.map (Opd.ev fr)) (hi.map (Opd.ev fr)):=of_eq_true (eq_self _)
theorem kC (k:IntKind)(n:Int):natOf (.int k n)=if 0<=n then some n.toNat else none:=of_eq_true (eq_self _)
theorem Jlh (l:List UInt8)(k:IntKind)(a:Int):cutSV st (ofL l) (some (.int k a)) none=if 0<=a/\a<=l.length then some (ofL (l.drop a.toNat), .no)else none:=by
 simp only[cutSV,ofL,optNat,kC];by_cases h:0<=a
 ·simp only[h,if_true,true_and];by_cases h2:a<=l.length
  ·rw[if_pos ⟨by omega,Nat.le_refl _⟩,if_pos h2,Jbm,List.length_drop,List.take_of_length_le (by simp)]
  ·rw[if_neg (fun e=>h2 (by omega)),if_neg h2]
 ·simp[h]
theorem Jli (l:List UInt8)(k:IntKind)(b:Int):cutSV st (ofL l) none (some (.int k b))=if 0<=b/\b<=l.length then some (ofL (l.take b.toNat), .no)else none:=by
 simp only[cutSV,ofL,optNat,kC];by_cases h:0<=b
 ·simp only[h,if_true,true_and];by_cases h2:b<=l.length
  ·rw[if_pos ⟨Nat.zero_le _,by omega⟩,if_pos h2,Jbm,List.length_take,List.drop_zero,Nat.min_eq_left (by omega)];rfl
  ·rw[if_neg (fun e=>h2 (by omega)),if_neg h2]
 ·simp[h]
theorem JfU (l:List UInt8)(k k':IntKind)(a b:Int):cutSV st (ofL l) (some (.int k a)) (some (.int k' b))=if 0<=a/\a<=b/\b<=l.length then some (ofL ((l.drop a.toNat).take (b.toNat-a.toNat)), .no)else none:=by
 simp only[cutSV,ofL,optNat,kC];by_cases h:0<=a
 ·by_cases h1:0<=b
  ·simp only[h,h1,if_true,true_and];by_cases h2:a<=b/\b<=l.length
   ·rw[if_pos ⟨by omega,by omega⟩,if_pos h2,Jbm,List.length_take,List.length_drop,Nat.min_eq_left (by omega)]
   ·rw[if_neg (fun e=>h2 ⟨by omega,by omega⟩),if_neg h2]
  ·simp only[h,h1,if_true,if_false,true_and];rw[if_neg (fun e=>h1 (by omega))]
 ·simp[h]
theorem Jil (l:List UInt8):cutSV st (ofL l) none none=some (ofL l, .no):=by
 simp only[cutSV,ofL,optNat];rw[if_pos ⟨Nat.zero_le _,Nat.le_refl _⟩,Jbm];simp
theorem JnH (z:Nat)(x:Opd)(lo hi mx:Option Opd):evOp fr st (.cutL z x lo hi mx)=cutLV st z (x.ev fr) (lo.map (Opd.ev fr)) (hi.map (Opd.ev fr)) (mx.map (Opd.ev fr)):=of_eq_true (eq_self _)
def faddrV (o:Nat)(x:V):Option (V×Eff):=match x with
 | .ptr r q=>some (.ptr r (q+o), .no)
 |_=>none
theorem Jlj (o:Nat)(x:Opd):evOp fr st (.faddr o x)=faddrV o (x.ev fr):=of_eq_true (eq_self _)
theorem Jee (o:Nat)(r:Pt)(q:Nat):faddrV o (.ptr r q)=some (.ptr r (q+o), .no):=of_eq_true (eq_self _)
def fldV (o:Nat)(n:Option Nat)(x:V):Option (V×Eff):=match x with
 | .agg l=>match n with
   |some n=>if o+n<=l.length then some (.agg ((l.drop o).take n), .no)else none
   |none=>(l[o]?).map fun v=>(v, .no)
 |_=>none
theorem Jsn (o:Nat)(n:Option Nat)(x:Opd):evOp fr st (.fld o n x)=fldV o n (x.ev fr):=by
 simp only[evOp,fldV]
 split
 ·rename_i l h;rw[h];rfl
 ·rename_i h
  split
  ·rename_i l h2;exact absurd h2 (h l)
  ·rfl
theorem Jim (o:Nat)(l:List V):fldV o none (.agg l)=(l[o]?).map fun v=>(v, .no):=of_eq_true (eq_self _)
theorem JfV (o n:Nat)(l:List V):fldV o (some n) (.agg l)=if o+n<=l.length then some (.agg ((l.drop o).take n), .no)else none:=of_eq_true (eq_self _)
def iaddrSV (z:Nat)(x i:V):Option (V×Eff):=match natOf i,x with
 |some i, .sl r o n z'=>if i<n/\z=z' then some (.ptr r (o+i*z), .no)else none
 |some i, .slx r o n z' _=>if i<n/\z=z' then some (.ptr r (o+i*z), .no)else none
 |_,_=>none
theorem Jin (z:Nat)(x i:Opd):evOp fr st (.iaddrS z x i)=iaddrSV z (x.ev fr) (i.ev fr):=of_eq_true (eq_self _)
theorem Yg (z:Nat)(r:Pt)(o n:Nat)(k:IntKind)(i:Int):iaddrSV z (.sl r o n z) (.int k i)=if 0<=i/\i<n then some (.ptr r (o+i.toNat*z), .no)else none:=by
 simp only[iaddrSV,kC];by_cases h:0<=i
 ·simp only[h,if_true,true_and,and_true];by_cases h2:i<n
  ·rw[if_pos (by omega),if_pos h2]
  ·rw[if_neg (by omega),if_neg h2]
 ·simp[h]
theorem Yn (z:Nat)(r:Pt)(o n c:Nat)(k:IntKind)(i:Int):iaddrSV z (.slx r o n z c) (.int k i)=if 0<=i/\i<n then some (.ptr r (o+i.toNat*z), .no)else none:=by
 simp only[iaddrSV,kC];by_cases h:0<=i
 ·simp only[h,if_true,true_and,and_true];by_cases h2:i<n
  ·rw[if_pos (by omega),if_pos h2]
  ·rw[if_neg (by omega),if_neg h2]
 ·simp[h]
theorem Jio (n z:Nat)(x i:Opd):evOp fr st (.iaddrA n z x i)=iaddrAV st n z (x.ev fr) (i.ev fr):=of_eq_true (eq_self _)
theorem Jef (n z:Nat)(r:Pt)(o:Nat)(k:IntKind)(i:Int):iaddrAV st n z (.ptr r o) (.int k i)=if 0<=i/\i<n then some (.ptr r (o+i.toNat*z), .no)else none:=by
 simp only[iaddrAV,kC];by_cases h:0<=i
 ·simp only[h,if_true,true_and];by_cases h2:i<n
  ·rw[if_pos (by omega),if_pos h2]
  ·rw[if_neg (by omega),if_neg h2]
 ·simp[h]
def idxSV (x i:V):Option (V×Eff):=match natOf i,x with
 |some i, .str n v=>if i<n then some (.int .u8 (sbyte v i), .no)else none
 |_,_=>none
theorem JnI (x i:Opd):evOp fr st (.idxS x i)=idxSV (x.ev fr) (i.ev fr):=of_eq_true (eq_self _)
theorem Jip (l:List UInt8)(k:IntKind)(i:Int):idxSV (ofL l) (.int k i)=if 0<=i/\i<l.length then some (.int .u8 (byteAt l i.toNat), .no)else none:=by
 simp only[idxSV,kC,ofL];by_cases h:0<=i
 ·simp only[h,if_true,true_and];by_cases h2:i<l.length
  ·have h3:i.toNat<l.length:=by omega
   rw[if_pos h3,if_pos h2,Jbn l i.toNat _ (List.getElem?_eq_getElem h3),Y5 h3]
  ·rw[if_neg (by omega),if_neg h2]
 ·simp[h]
theorem JnJ (n z:Nat)(g:Bool)(x i:Opd):evOp fr st (.idxA n z g x i)=idxAV st n z g (x.ev fr) (i.ev fr):=of_eq_true (eq_self _)
def extV (n:Nat)(x:V):Option (V×Eff):=match x with
 | .tup l=>(l[n]?).map fun v=>(v, .no)
 |_=>none
theorem Jso (n:Nat)(x:Opd):evOp fr st (.ext n x)=extV n (x.ev fr):=of_eq_true (eq_self _)
theorem Jiq (n:Nat)(l:List V):extV n (.tup l)=(l[n]?).map fun v=>(v, .no):=of_eq_true (eq_self _)
def lenSV (x:V):Option (V×Eff):=match x with
 | .str n _=>some (.int .i64 n, .no)
 |_=>none
theorem JnK (x:Opd):evOp fr st (.lenS x)=lenSV (x.ev fr):=of_eq_true (eq_self _)
theorem Jir (l:List UInt8):lenSV (ofL l)=some (.int .i64 l.length, .no):=of_eq_true (eq_self _)
def lenLV (x:V):Option (V×Eff):=(slen x).map fun n=>(.int .i64 n, .no)
theorem JnL (x:Opd):evOp fr st (.lenL x)=lenLV (x.ev fr):=of_eq_true (eq_self _)
theorem Jis :lenLV .snil=some (.int .i64 0, .no):=of_eq_true (eq_self _)
theorem Jg9 (r:Pt)(o n z:Nat):lenLV (.sl r o n z)=some (.int .i64 n, .no):=of_eq_true (eq_self _)
theorem Jit (r:Pt)(o n z c:Nat):lenLV (.slx r o n z c)=some (.int .i64 n, .no):=of_eq_true (eq_self _)
theorem JbE (z:Nat)(s x:Opd):evOp fr st (.app z s x)=appV st z (s.ev fr) (x.ev fr):=of_eq_true (eq_self _)
theorem Jsp (x y:Opd):evOp fr st (.min x y)=minV st (x.ev fr) (y.ev fr):=of_eq_true (eq_self _)
theorem Jsq (x y:Opd):evOp fr st (.max x y)=maxV st (x.ev fr) (y.ev fr):=of_eq_true (eq_self _)
theorem Jiu (k:IntKind)(a b:Int):minV st (.int k a) (.int k b)=some (.int k (if b<a then b else a), .no):=by simp[minV]
theorem Jiv (k:IntKind)(a b:Int):maxV st (.int k a) (.int k b)=some (.int k (if b>a then b else a), .no):=by simp[maxV]
theorem JsY (x:Opd):evOp fr st (.rngS x)=rngSV st (x.ev fr):=of_eq_true (eq_self _)
theorem JnM (l:List UInt8):rngSV st (ofL l)=some (.ptr st.nx 0, .new fun t=> .sit t l.length (snum l) 0):=of_eq_true (eq_self _)
theorem Jlk (x:Opd):evOp fr st (.nextS x)=nextSV st (x.ev fr):=of_eq_true (eq_self _)
end
theorem Jx {n:Int}(h1: -9223372036854775808<=n)(h2:n<9223372036854775808):IntKind.i64.wrap n=n:=by
 simp[IntKind.wrap,IntKind.bits,IntKind.signed];omega
theorem Jsr {n:Int}(h1:0<=n)(h2:n<256):IntKind.u8.wrap n=n:=by
 simp only[IntKind.wrap,IntKind.bits,IntKind.signed];simp;omega
theorem JnN {n:Int}(h1: -2147483648<=n)(h2:n<2147483648):IntKind.i32.wrap n=n:=by
 simp[IntKind.wrap,IntKind.bits,IntKind.signed];omega
theorem JnO (fr:Fr)(i:Nat)(v:V)(j:Nat):put fr (some i) v j=if j=i then v else fr j:=of_eq_true (eq_self _)
theorem Jiw (fr:Fr)(v:V):put fr none v=fr:=of_eq_true (eq_self _)
theorem Jss (st:St):st.ap .no=st:=of_eq_true (eq_self _)
theorem Jcn (st:St)(f:Nat->Row):st.ap (.new f)=st.new f:=of_eq_true (eq_self _)
theorem Jll (st:St)(p:Pt)(t:Nat)(f:Nat->Row):st.ap (.wr p t f)=st.wr p t f:=of_eq_true (eq_self _)
theorem JnP (st:St)(p:Pt)(t:Nat)(f:Nat->Row):st.ap (.dn p t f)=(st.wr p t .dead).new f:=of_eq_true (eq_self _)
theorem JtI (fr:Fr)(i:Nat):Opd.ev fr (.s i)=fr i:=of_eq_true (eq_self _)
theorem JtJ (fr:Fr)(v:V):Opd.ev fr (.c v)=v:=of_eq_true (eq_self _)
theorem Jlm (fr:Fr):evs fr []=[]:=of_eq_true (eq_self _)
theorem Jix (fr:Fr)(x:Opd)(l:List Opd):evs fr (x::l)=x.ev fr::evs fr l:=of_eq_true (eq_self _)
theorem JfW (args:List V)(i:Nat):initFr args i=(args[i]?).getD undefV:=of_eq_true (eq_self _)
def wW (r:Option (V×Eff))(st:St)(R:V->St->Prop):Prop:=match r with
 |some (v,e)=>R v (st.ap e)
 |none=>False
theorem JbF (v:V)(e:Eff)(st:St)(R:V->St->Prop):wW (some (v,e)) st R=R v (st.ap e):=propext Iff.rfl
theorem JnQ (c:Prop)[Decidable c](x:Option (V×Eff))(st:St)(R:V->St->Prop):wW (if c then x else none) st R=(c/\wW x st R):=by
 by_cases h:c<;>simp[h,wW]
def oK (T:Table)(d:Bool)(fr:Fr)(dst:Option Nat)(r:List Ins)(R:Fr->St->Prop):V->St->Prop:=fun v st=>wR T d r (put fr dst v) st R
def rN (K:Out->Prop):Fr->St->Prop:=fun fr st=>K (.norm fr st)
def rD (chk:List (List Nat×List Nat))(K:Out->Prop):Fr->St->Prop:=fun fr st=>Ky fr chk=true/\K (.norm fr st)
def cK (T:Table)(lf:Nat)(b:C)(K:Out->Prop):Out->Prop:=kSeq (wC T lf b) K
def wGd (x:V)(want:Bool)(T:Table)(d:Bool)(ow:Option (List Nat))(op:Iop)(fr:Fr)(st:St)(dst:Option Nat)(r:List Ins)(R:Fr->St->Prop):Prop:=
 wG x want (wO T d ow op fr st (oK T d fr dst r R)) (wR T d r (put fr dst undefV) st R)
def bP (x:V)(T:Table)(lf:Nat)(a b:C)(fr:Fr)(st:St)(K:Out->Prop):Prop:=boolP x (wC T lf a fr st K) (wC T lf b fr st K)
theorem Jiy (T:Table)(d:Bool)(fr:Fr)(dst:Option Nat)(r:List Ins)(R:Fr->St->Prop)(v:V)(st:St):oK T d fr dst r R v st=wR T d r (put fr dst v) st R:=propext Iff.rfl
theorem Jst (K:Out->Prop)(fr:Fr)(st:St):rN K fr st=K (.norm fr st):=propext Iff.rfl
theorem Jsu (chk:List (List Nat×List Nat))(K:Out->Prop)(fr:Fr)(st:St):rD chk K fr st=(Ky fr chk=true/\K (.norm fr st)):=propext Iff.rfl
theorem Jln (T:Table)(lf:Nat)(b:C)(K:Out->Prop)(fr:Fr)(st:St):cK T lf b K (.norm fr st)=wC T lf b fr st K:=propext Iff.rfl
theorem Jlo (T:Table)(lf:Nat)(b:C)(K:Out->Prop)(i:Nat)(fr:Fr)(st:St):cK T lf b K (.exit i fr st)=K (.exit i fr st):=propext Iff.rfl
theorem JnR (T:Table)(lf:Nat)(b:C)(K:Out->Prop)(fr:Fr)(st:St):cK T lf b K (.ret fr st)=K (.ret fr st):=propext Iff.rfl
theorem JfX (id:Nat)(K:Out->Prop)(fr:Fr)(st:St):kBlk id K (.norm fr st)=K (.norm fr st):=propext Iff.rfl
theorem JfY (id:Nat)(K:Out->Prop)(fr:Fr)(st:St):kBlk id K (.exit id fr st)=K (.norm fr st):=by simp[kBlk]
theorem JbG (id:Nat)(K:Out->Prop)(i:Nat)(fr:Fr)(st:St)(h:i≠id):kBlk id K (.exit i fr st)=K (.exit i fr st):=by simp[kBlk,h]
theorem Jiz (id:Nat)(K:Out->Prop)(fr:Fr)(st:St):kBlk id K (.ret fr st)=K (.ret fr st):=propext Iff.rfl
theorem Jeg (I:Nat->Fr->St->Prop)(k:Nat)(K:Out->Prop)(fr:Fr)(st:St):kLoop I k K (.norm fr st)=∃j,j<k/\I j fr st:=propext Iff.rfl
theorem Jeh (I:Nat->Fr->St->Prop)(k:Nat)(K:Out->Prop)(i:Nat)(fr:Fr)(st:St):kLoop I k K (.exit i fr st)=K (.exit i fr st):=propext Iff.rfl
theorem JfZ (I:Nat->Fr->St->Prop)(k:Nat)(K:Out->Prop)(fr:Fr)(st:St):kLoop I k K (.ret fr st)=K (.ret fr st):=propext Iff.rfl
theorem Jf0 (res:List RS)(Q:V->St->Prop)(fr:Fr)(st:St):kRet res Q (.norm fr st)=resP st fr res Q:=propext Iff.rfl
theorem JiA (res:List RS)(Q:V->St->Prop)(fr:Fr)(st:St):kRet res Q (.ret fr st)=resP st fr res Q:=propext Iff.rfl
theorem Jlp (T:Table)(lf:Nat)(a b:C)(fr:Fr)(st:St)(K:Out->Prop):bP (.bool true) T lf a b fr st K=wC T lf a fr st K:=propext Iff.rfl
theorem JiB (T:Table)(lf:Nat)(a b:C)(fr:Fr)(st:St)(K:Out->Prop):bP (.bool false) T lf a b fr st K=wC T lf b fr st K:=propext Iff.rfl
theorem JnS (T:Table)(d:Bool)(ow:Option (List Nat))(op:Iop)(fr:Fr)(st:St)(dst:Option Nat)(r:List Ins)(R:Fr->St->Prop):wGd (.bool true) true T d ow op fr st dst r R=wO T d ow op fr st (oK T d fr dst r R):=propext Iff.rfl
theorem JnT (T:Table)(d:Bool)(ow:Option (List Nat))(op:Iop)(fr:Fr)(st:St)(dst:Option Nat)(r:List Ins)(R:Fr->St->Prop):wGd (.bool false) false T d ow op fr st dst r R=wO T d ow op fr st (oK T d fr dst r R):=propext Iff.rfl
theorem JnU (T:Table)(d:Bool)(ow:Option (List Nat))(op:Iop)(fr:Fr)(st:St)(dst:Option Nat)(r:List Ins)(R:Fr->St->Prop):wGd (.bool true) false T d ow op fr st dst r R=wR T d r (put fr dst undefV) st R:=propext Iff.rfl
theorem JnV (T:Table)(d:Bool)(ow:Option (List Nat))(op:Iop)(fr:Fr)(st:St)(dst:Option Nat)(r:List Ins)(R:Fr->St->Prop):wGd (.bool false) true T d ow op fr st dst r R=wR T d r (put fr dst undefV) st R:=propext Iff.rfl
theorem Jlq (l:List V)(want:Bool)(T:Table)(d:Bool)(ow:Option (List Nat))(op:Iop)(fr:Fr)(st:St)(dst:Option Nat)(r:List Ins)(R:Fr->St->Prop):wGd (.tup l) want T d ow op fr st dst r R=wR T d r (put fr dst undefV) st R:=propext Iff.rfl
theorem Jlr (T:Table)(lf:Nat)(fr:Fr)(st:St)(K:Out->Prop):wC T lf .skip fr st K=K (.norm fr st):=propext Iff.rfl
theorem JnW (T:Table)(lf:Nat)(l:List Ins)(fr:Fr)(st:St)(K:Out->Prop):wC T lf (.reg l) fr st K=wR T false l fr st (rN K):=propext Iff.rfl
theorem JnX (T:Table)(lf:Nat)(l:List Ins)(chk:List (List Nat×List Nat))(fr:Fr)(st:St)(K:Out->Prop):wC T lf (.drw l chk) fr st K=wR T true l fr st (rD chk K):=propext Iff.rfl
theorem Jb (T:Table)(lf:Nat)(a b:C)(fr:Fr)(st:St)(K:Out->Prop):wC T lf (.seq a b) fr st K=wC T lf a fr st (cK T lf b K):=propext Iff.rfl
theorem Jl (T:Table)(lf:Nat)(l:List Nat)(a b:C)(fr:Fr)(st:St)(K:Out->Prop):wC T lf (.seqj l a b) fr st K=wC T lf a fr st (cK T lf b K):=propext Iff.rfl
theorem Jls (T:Table)(lf:Nat)(c:Opd)(a b:C)(fr:Fr)(st:St)(K:Out->Prop):wC T lf (.cond c a b) fr st K=bP (c.ev fr) T lf a b fr st K:=propext Iff.rfl
theorem JiC (T:Table)(lf:Nat)(id:Nat)(b:C)(fr:Fr)(st:St)(K:Out->Prop):wC T lf (.block id b) fr st K=wC T lf b fr st (kBlk id K):=propext Iff.rfl
theorem Jlt (T:Table)(lf:Nat)(id:Nat)(fr:Fr)(st:St)(K:Out->Prop):wC T lf (.exit id) fr st K=K (.exit id fr st):=propext Iff.rfl
theorem JnY (T:Table)(lf:Nat)(fr:Fr)(st:St)(K:Out->Prop):wC T lf .ret fr st K=K (.ret fr st):=propext Iff.rfl
theorem JK {T:Table}{lf:Nat}{l:List Nat}{b:C}{fr:Fr}{st:St}{K:Out->Prop}(I:Nat->Fr->St->Prop)(m:Nat)(hm:m<lf)(h:I m fr st)(hs:∀k fr st,I k fr st->wC T lf b fr st (kLoop I k K)):wC T lf (.loop l b) fr st K:=⟨I,⟨m,hm,h⟩,hs⟩
theorem JnZ (T:Table)(d:Bool)(fr:Fr)(st:St)(R:Fr->St->Prop):wR T d [] fr st R=R fr st:=propext Iff.rfl
theorem Jsv (T:Table)(d:Bool)(dst:Option Nat)(op:Iop)(ow:Option (List Nat))(r:List Ins)(fr:Fr)(st:St)(R:Fr->St->Prop):
  wR T d (⟨dst,op,none,ow⟩::r) fr st R=wO T d ow op fr st (oK T d fr dst r R):=propext Iff.rfl
theorem Jsw (T:Table)(d:Bool)(dst:Option Nat)(op:Iop)(g:Nat)(want:Bool)(ow:Option (List Nat))(r:List Ins)(fr:Fr)(st:St)(R:Fr->St->Prop):
  wR T d (⟨dst,op,some (g,want),ow⟩::r) fr st R=wGd (fr g) want T d ow op fr st dst r R:=propext Iff.rfl
theorem Jlu (T:Table)(d:Bool)(ow:Option (List Nat))(f:Nat)(as:List Opd)(fr:Fr)(st:St)(R:V->St->Prop):wO T d ow (.call f as) fr st R=wCall T d ow f (evs fr as) fr st R:=propext Iff.rfl
theorem JiD (T:Table)(d:Bool)(ow:Option (List Nat))(x:Opd)(as:List Opd)(fr:Fr)(st:St)(R:V->St->Prop):wO T d ow (.callv x as) fr st R=wFn T d ow (x.ev fr) (evs fr as) fr st R:=propext Iff.rfl
theorem Jn0 (T:Table)(d:Bool)(ow:Option (List Nat))(f:Nat)(a b as:List V)(fr:Fr)(st:St)(R:V->St->Prop):wFn T d ow (.fn f a b) as fr st R=wCall T d ow f (a++as++b) fr st R:=propext Iff.rfl
theorem Jsx (T:Table)(d:Bool)(ow:Option (List Nat))(x:Opd)(fr:Fr)(st:St)(R:V->St->Prop):wO T d ow (.mv x) fr st R=wW (evOp fr st (.mv x)) st R:=propext Iff.rfl
theorem Jlv (T:Table)(d:Bool)(ow:Option (List Nat))(c a b:Opd)(fr:Fr)(st:St)(R:V->St->Prop):wO T d ow (.pick c a b) fr st R=wW (evOp fr st (.pick c a b)) st R:=propext Iff.rfl
theorem JiE (T:Table)(d:Bool)(ow:Option (List Nat))(zs:List V)(fr:Fr)(st:St)(R:V->St->Prop):wO T d ow (.alloc zs) fr st R=wW (evOp fr st (.alloc zs)) st R:=propext Iff.rfl
theorem Jn1 (T:Table)(d:Bool)(ow:Option (List Nat))(x:Opd)(fr:Fr)(st:St)(R:V->St->Prop):wO T d ow (.box x) fr st R=wW (evOp fr st (.box x)) st R:=propext Iff.rfl
theorem JiF (T:Table)(d:Bool)(ow:Option (List Nat))(zs:List V)(ps:List (Nat×Nat×Opd))(fr:Fr)(st:St)(R:V->St->Prop):wO T d ow (.build zs ps) fr st R=wW (evOp fr st (.build zs ps)) st R:=propext Iff.rfl
theorem Jn2 (T:Table)(d:Bool)(ow:Option (List Nat))(z n:Nat)(zs:List V)(ps:List (Nat×Nat×Opd))(fr:Fr)(st:St)(R:V->St->Prop):wO T d ow (.bsl z n zs ps) fr st R=wW (evOp fr st (.bsl z n zs ps)) st R:=propext Iff.rfl
theorem JiG (T:Table)(d:Bool)(ow:Option (List Nat))(x:Opd)(fr:Fr)(st:St)(R:V->St->Prop):wO T d ow (.load1 x) fr st R=wW (evOp fr st (.load1 x)) st R:=propext Iff.rfl
theorem JiH (T:Table)(d:Bool)(ow:Option (List Nat))(n:Nat)(x:Opd)(fr:Fr)(st:St)(R:V->St->Prop):wO T d ow (.loadn n x) fr st R=wW (evOp fr st (.loadn n x)) st R:=propext Iff.rfl
theorem JiI (T:Table)(d:Bool)(ow:Option (List Nat))(n:Nat)(x v:Opd)(fr:Fr)(st:St)(R:V->St->Prop):wO T d ow (.store n x v) fr st R=wW (evOp fr st (.store n x v)) st R:=propext Iff.rfl
theorem JiJ (T:Table)(d:Bool)(ow:Option (List Nat))(x:Opd)(fr:Fr)(st:St)(R:V->St->Prop):wO T d ow (.nilck x) fr st R=wW (evOp fr st (.nilck x)) st R:=propext Iff.rfl
theorem Jsy (T:Table)(d:Bool)(ow:Option (List Nat))(e:EK)(neg:Bool)(x y:Opd)(fr:Fr)(st:St)(R:V->St->Prop):wO T d ow (.eq e neg x y) fr st R=wW (evOp fr st (.eq e neg x y)) st R:=propext Iff.rfl
theorem Jn3 (T:Table)(d:Bool)(ow:Option (List Nat))(op:BinOp)(x y:Opd)(fr:Fr)(st:St)(R:V->St->Prop):wO T d ow (.bin op x y) fr st R=wW (evOp fr st (.bin op x y)) st R:=propext Iff.rfl
theorem Jn4 (T:Table)(d:Bool)(ow:Option (List Nat))(x:Opd)(fr:Fr)(st:St)(R:V->St->Prop):wO T d ow (.not x) fr st R=wW (evOp fr st (.not x)) st R:=propext Iff.rfl
theorem JiK (T:Table)(d:Bool)(ow:Option (List Nat))(k:IntKind)(x:Opd)(fr:Fr)(st:St)(R:V->St->Prop):wO T d ow (.toint k x) fr st R=wW (evOp fr st (.toint k x)) st R:=propext Iff.rfl
theorem JiL (T:Table)(d:Bool)(ow:Option (List Nat))(x:Opd)(fr:Fr)(st:St)(R:V->St->Prop):wO T d ow (.tostr x) fr st R=wW (evOp fr st (.tostr x)) st R:=propext Iff.rfl
theorem Jn5 (T:Table)(d:Bool)(ow:Option (List Nat))(x:Opd)(fr:Fr)(st:St)(R:V->St->Prop):wO T d ow (.bts x) fr st R=wW (evOp fr st (.bts x)) st R:=propext Iff.rfl
theorem Jlw (T:Table)(d:Bool)(ow:Option (List Nat))(f:Nat)(a b:List Opd)(fr:Fr)(st:St)(R:V->St->Prop):wO T d ow (.mkfn f a b) fr st R=wW (evOp fr st (.mkfn f a b)) st R:=propext Iff.rfl
theorem Jlx (T:Table)(d:Bool)(ow:Option (List Nat))(x:Opd)(lo hi:Option Opd)(fr:Fr)(st:St)(R:V->St->Prop):wO T d ow (.cutS x lo hi) fr st R=wW (evOp fr st (.cutS x lo hi)) st R:=propext Iff.rfl
theorem Jly (T:Table)(d:Bool)(ow:Option (List Nat))(z:Nat)(x:Opd)(lo hi mx:Option Opd)(fr:Fr)(st:St)(R:V->St->Prop):wO T d ow (.cutL z x lo hi mx) fr st R=wW (evOp fr st (.cutL z x lo hi mx)) st R:=propext Iff.rfl
theorem JiM (T:Table)(d:Bool)(ow:Option (List Nat))(o:Nat)(x:Opd)(fr:Fr)(st:St)(R:V->St->Prop):wO T d ow (.faddr o x) fr st R=wW (evOp fr st (.faddr o x)) st R:=propext Iff.rfl
theorem Jn6 (T:Table)(d:Bool)(ow:Option (List Nat))(o:Nat)(n:Option Nat)(x:Opd)(fr:Fr)(st:St)(R:V->St->Prop):wO T d ow (.fld o n x) fr st R=wW (evOp fr st (.fld o n x)) st R:=propext Iff.rfl
theorem Jf1 (T:Table)(d:Bool)(ow:Option (List Nat))(z:Nat)(x i:Opd)(fr:Fr)(st:St)(R:V->St->Prop):wO T d ow (.iaddrS z x i) fr st R=wW (evOp fr st (.iaddrS z x i)) st R:=propext Iff.rfl
theorem Jf2 (T:Table)(d:Bool)(ow:Option (List Nat))(n z:Nat)(x i:Opd)(fr:Fr)(st:St)(R:V->St->Prop):wO T d ow (.iaddrA n z x i) fr st R=wW (evOp fr st (.iaddrA n z x i)) st R:=propext Iff.rfl
theorem Jlz (T:Table)(d:Bool)(ow:Option (List Nat))(x i:Opd)(fr:Fr)(st:St)(R:V->St->Prop):wO T d ow (.idxS x i) fr st R=wW (evOp fr st (.idxS x i)) st R:=propext Iff.rfl
theorem JlA (T:Table)(d:Bool)(ow:Option (List Nat))(n z:Nat)(g:Bool)(x i:Opd)(fr:Fr)(st:St)(R:V->St->Prop):wO T d ow (.idxA n z g x i) fr st R=wW (evOp fr st (.idxA n z g x i)) st R:=propext Iff.rfl
theorem Jn7 (T:Table)(d:Bool)(ow:Option (List Nat))(n:Nat)(x:Opd)(fr:Fr)(st:St)(R:V->St->Prop):wO T d ow (.ext n x) fr st R=wW (evOp fr st (.ext n x)) st R:=propext Iff.rfl
theorem JlB (T:Table)(d:Bool)(ow:Option (List Nat))(x:Opd)(fr:Fr)(st:St)(R:V->St->Prop):wO T d ow (.lenS x) fr st R=wW (evOp fr st (.lenS x)) st R:=propext Iff.rfl
theorem JlC (T:Table)(d:Bool)(ow:Option (List Nat))(x:Opd)(fr:Fr)(st:St)(R:V->St->Prop):wO T d ow (.lenL x) fr st R=wW (evOp fr st (.lenL x)) st R:=propext Iff.rfl
theorem Jn8 (T:Table)(d:Bool)(ow:Option (List Nat))(z:Nat)(s x:Opd)(fr:Fr)(st:St)(R:V->St->Prop):wO T d ow (.app z s x) fr st R=wW (evOp fr st (.app z s x)) st R:=propext Iff.rfl
theorem Jn9 (T:Table)(d:Bool)(ow:Option (List Nat))(x y:Opd)(fr:Fr)(st:St)(R:V->St->Prop):wO T d ow (.min x y) fr st R=wW (evOp fr st (.min x y)) st R:=propext Iff.rfl
theorem Joa (T:Table)(d:Bool)(ow:Option (List Nat))(x y:Opd)(fr:Fr)(st:St)(R:V->St->Prop):wO T d ow (.max x y) fr st R=wW (evOp fr st (.max x y)) st R:=propext Iff.rfl
theorem JlD (T:Table)(d:Bool)(ow:Option (List Nat))(x:Opd)(fr:Fr)(st:St)(R:V->St->Prop):wO T d ow (.rngS x) fr st R=wW (evOp fr st (.rngS x)) st R:=propext Iff.rfl
theorem JiN (T:Table)(d:Bool)(ow:Option (List Nat))(x:Opd)(fr:Fr)(st:St)(R:V->St->Prop):wO T d ow (.nextS x) fr st R=wW (evOp fr st (.nextS x)) st R:=propext Iff.rfl
theorem JiO (T:Table)(d:Bool)(ow:Option (List Nat))(fr:Fr)(st:St)(R:V->St->Prop):wO T d ow .mkmap fr st R=wW (evOp fr st .mkmap) st R:=propext Iff.rfl
theorem JlE (T:Table)(d:Bool)(ow:Option (List Nat))(z:Nat)(zs:List V)(n c:Opd)(fr:Fr)(st:St)(R:V->St->Prop):wO T d ow (.mksl z zs n c) fr st R=wW (evOp fr st (.mksl z zs n c)) st R:=propext Iff.rfl
theorem Jf3 (T:Table)(d:Bool)(ow:Option (List Nat))(e:EK)(z:V)(ok:Bool)(m k:Opd)(fr:Fr)(st:St)(R:V->St->Prop):wO T d ow (.lookup e z ok m k) fr st R=wW (evOp fr st (.lookup e z ok m k)) st R:=propext Iff.rfl
theorem JlF (T:Table)(d:Bool)(ow:Option (List Nat))(e:EK)(m k v:Opd)(fr:Fr)(st:St)(R:V->St->Prop):wO T d ow (.mupd e m k v) fr st R=wW (evOp fr st (.mupd e m k v)) st R:=propext Iff.rfl
theorem JlG (T:Table)(d:Bool)(ow:Option (List Nat))(x:Opd)(fr:Fr)(st:St)(R:V->St->Prop):wO T d ow (.lenM x) fr st R=wW (evOp fr st (.lenM x)) st R:=propext Iff.rfl
theorem JlH (T:Table)(d:Bool)(ow:Option (List Nat))(z:Nat)(y x:Opd)(fr:Fr)(st:St)(R:V->St->Prop):wO T d ow (.copy z y x) fr st R=wW (evOp fr st (.copy z y x)) st R:=propext Iff.rfl
theorem JlI (T:Table)(d:Bool)(ow:Option (List Nat))(n z:Nat)(x:Opd)(lo hi mx:Option Opd)(fr:Fr)(st:St)(R:V->St->Prop):wO T d ow (.cutA n z x lo hi mx) fr st R=wW (evOp fr st (.cutA n z x lo hi mx)) st R:=propext Iff.rfl
noncomputable def fnD (lf:Nat)(cf:Fn):E:={k:=deadK,b:=evFn lf cf}
theorem Jq {lf : Nat} {P : Program} {ρ : Nat -> Value} {base : Bs} {f : Nat} {fn : Func} {hs : List (List Nat)} {cf : Fn} (h : compFn P fn hs = some cf) (hf : P.funcs[f]? = some fn) (hn : fn.name ≠ "runtime.NumGoroutine")
  (hρ:∀i,(ρ i).oneCell'=true) (hm:P.follows .mixedOrders=true):BodyOK P ρ base f (fnD lf cf).b:=JtE hρ hm hf h hn lf
theorem Jf4 {T:Table}{f:Nat}{g:List V->Option V}(hT:T f=some (hookE g).b){args:List V}{v:V}(hg:g args=some v){st:St}{Q:V->St->Prop}(h:Q v st):Does T f args st Q:=by
 refine⟨v,st,h,1,fun n hn=> ?_⟩;obtain⟨n,rfl⟩:∃k,n=k+1:=⟨n-1,by omega⟩
 simp only[run,hT,hookE,hg]
theorem Jkf {P:Program}{ρ:Nat->Value}{w:World}{t:BT}(hB:t.all fun i e=>BodyOK P ρ ⟨w.heap.size,w⟩ i e.b){L:List (List V)}{locs:Nat->Loc}
  (hl:∀i,i<L.length->RowOK (rosG L.length locs) ρ (locs i) (.ro (L.getD (L.length-1-i) [])) w/\(locs i).b<w.heap.size)
  {f:Nat} {args:List V} (h:Does (tabT t) f args (rosR L) fun v _=>v= .bool true) {xs:List Value} (hx:RL (rosG L.length locs) ρ args xs):
  Calls P f xs.toArray w fun e w'=>e= .returned (.bool true)/\Below w.heap.size w w':=by
 obtain⟨v,st',e0,N,h1⟩:=h;subst e0;refine(Jg6 (P:=P) (T:=tabT t) (fun f b hb=> ?_) hl (h1 N (Nat.le_refl _)) hx).mono fun e w' ⟨y,γ',e1,e2,e3⟩=>⟨?_,e3⟩
 ·simp only[tabT,Option.some.injEq]at hb;subst hb;exact JtF hB f
 ·have e2:y= .bool true:=e2;rw[e1,e2]
def rune (l:List UInt8)(p:Nat):Nat×Nat:=if(l.getD p 0).toNat<128 then((l.getD p 0).toNat,1)else Utf8.decode ⟨l.toArray⟩ p
theorem Jkg {l:List UInt8}{p:Nat}(hp:p<l.length):(rune l p).1<2147483648:=by
 unfold rune
 split
 ·omega
 ·unfold Utf8.decode;simp only[Utf8.runeError];have k:=fun i=>UInt8.toNat_lt ((⟨l.toArray⟩:ByteArray).get! i);have k0:=k (p+0);have k1:=k (p+1);have k2:=k (p+2);have k3:=k (p+3)
  repeat' split
  all_goals (simp only;omega)
theorem Jkh {st:St}{r:Pt}{t p:Nat}{l:List UInt8}(hr:st.row r= .sit t l.length (snum l) p)(hp:p<l.length):
  nextSV st (.ptr r 0)=some (.tup [.bool true, .int .i64 p, .int .i32 (rune l p).1], .wr r t fun u=> .sit u l.length (snum l) (p+(rune l p).2)):=by
 have hsb:sbyte (snum l) p=(l.getD p 0).toNat:=by
  rw[Jbn l p _ (List.getElem?_eq_getElem hp),List.getD_eq_getElem?_getD,List.getElem?_eq_getElem hp];rfl
 have hby:sbytes l.length (snum l)=⟨l.toArray⟩:=by
  have:=JcV (⟨l.toArray⟩:ByteArray);simpa using this
 simp only[nextSV,hr,hp,if_true,hsb,hby,rune]
 split<;>rfl
theorem Jki {st:St}{r:Pt}{t p:Nat}{l:List UInt8}(hr:st.row r= .sit t l.length (snum l) p)(hp:¬p<l.length):nextSV st (.ptr r 0)=some (.tup [.bool false], .no):=by
 simp only[nextSV,hr,hp,if_false]
def IntsAt (st:St)(v:V)(zs:List Int):Prop:=(v= .snil/\zs=[])\/∃r,v= .sl r 0 zs.length 1/\st.row r= .ro (zs.map (V.int .i64))
theorem IntsAt.len {st:St}{v:V}{zs:List Int}(h:IntsAt st v zs):lenLV v=some (.int .i64 zs.length, .no):=by
 rcases h with⟨rfl,rfl⟩|⟨r,rfl,_⟩
 ·rfl
 ·rfl
theorem IntsAt.gr {a b:St}{v:V}{zs:List Int}(h:IntsAt a v zs)(g:Gr a b):IntsAt b v zs:=by
 rcases h with h|⟨r,h1,h2⟩
 ·exact .inl h
 ·exact .inr ⟨r,h1,g.ro h2⟩
theorem IntsAt.at {st:St}{v:V}{zs:List Int}(h:IntsAt st v zs){i:Nat}(hi:i<zs.length):∃r,iaddrSV 1 v (.int .i64 i)=some (.ptr r i, .no)/\st.row r= .ro (zs.map (V.int .i64)):=by
 rcases h with⟨_,rfl⟩|⟨r,rfl,hr⟩
 ·exact absurd hi (by simp)
 ·refine⟨r, ?_,hr⟩;rw[Yg,if_pos (by omega)];simp
theorem Job {zs:List Int}{i:Nat}(hi:i<zs.length):(zs.map (V.int .i64))[i]? =some (.int .i64 zs[i]):=by
 rw[List.getElem?_map,List.getElem?_eq_getElem hi];rfl
theorem Joc {r:Option (V×Eff)}{v:V}{e:Eff}(h:r=some (v,e)){st:St}{R:V->St->Prop}(k:R v (st.ap e)):wW r st R:=by rw[h];exact k
end Eva
namespace Eva
open Go Go.RowKit Go.ChangeShapes
def IntsIn (w:World)(v:Value)(zs:List Int):Prop:=(v= .slice none 0 0/\zs=[])\/(∃a,v= .slice (some a) 0 0/\zs=[])\/
 ∃b off cap,v= .slice (some ⟨b,off,none⟩) zs.length cap/\zs.length<=cap/\b<w.heap.size/\∀i (h:i<zs.length),w.cell? ⟨b,off+i,none⟩=some (.int .i64 zs[i])
theorem JbH {w:World}{b o:Nat}{x:Value}(h:w.cell? ⟨b,o,none⟩=some x):∃arr elem fz,w.heap[b]? =some (.cells arr elem fz)/\arr[o]? =some x:=by
 unfold World.cell? at h
 split at h
 ·rename_i cells t fz hc
  refine⟨cells,t,fz,hc, ?_⟩;simpa using h
 ·cases h
theorem JiP {w:World}{v:Value}{zs:List Int}(h:IntsIn w v zs)(h0:0<w.heap.size):
  ∃lo:Loc,lo.b<w.heap.size/\(∀γ ρ,RowOK γ ρ lo (.ro (zs.map (V.int .i64))) w)/\∀r:Pt,∃u:V,((u= .snil/\zs=[])\/u= .sl r 0 zs.length 1)/\∀γ ρ,γ r=some lo->R γ ρ u v:=by
 rcases h with⟨rfl,rfl⟩|⟨a,rfl,rfl⟩|⟨b,off,cap,rfl,h1,h2,h3⟩
 ·exact⟨⟨0,0,0⟩,h0,fun γ ρ i v hi=>by simp at hi,fun r=>⟨.snil, .inl ⟨rfl,rfl⟩,fun γ ρ _=>rfl⟩⟩
 ·exact⟨⟨0,0,0⟩,h0,fun γ ρ i v hi=>by simp at hi,fun r=>⟨.sl r 0 0 1, .inr rfl,fun γ ρ hr=>⟨⟨0,0,0⟩,a,0,hr,rfl,Nat.le_refl _,fun e=>absurd rfl e,Nat.le_refl _⟩⟩⟩
 ·refine⟨⟨b,off,cap⟩,h2,fun γ ρ i v hi=> ?_,fun r=>⟨.sl r 0 zs.length 1, .inr rfl,fun γ ρ hr=>⟨⟨b,off,cap⟩,⟨b,off,none⟩,cap,hr,rfl,h1,fun _=>rfl,by simp⟩⟩⟩;rw[List.getElem?_map]at hi;obtain⟨z,hz,rfl⟩:=Option.map_eq_some_iff.1 hi;obtain⟨hi',rfl⟩:=List.getElem?_eq_some_iff.1 hz;obtain⟨arr,elem,fz,e1,e2⟩:=JbH (h3 i hi');exact⟨arr,elem,fz,_,e1,e2,rfl⟩
section
variable {H : Type} {enc : TypeId × Value -> H} {P : Program} {W : World}
theorem Jqo {t e:TypeId}{r:Reach}{b0:Nat}{v:Value}{d:DataW H}{p:List MemPlace}(ht:P.underlying t=some (.slice e))(he:P.underlying e=some (.int .i64))(hc:P.cellsOf e=1)
  (hval:Value.okWide P W r b0 t v) (h:DataW.Trod enc P W 0 (fun _=>true) true t v d p):
  ∃zs:List Int,IntsIn W v zs/\(∀z∈zs,-9223372036854775808<=z/\z<9223372036854775808)/\zs.length<=maxLen:=by
 obtain⟨a,len,cap,rfl⟩:=WideShapes.okWide_slice ht hval;obtain⟨fuel,hf⟩:=h;have hcs:(Value.slice a len cap).cells.toList=[.slice a len cap]:=by simp[Value.cells]
 rcases open_ints ht he hc hf with⟨h1,_⟩|⟨a',len',cap',zs,h1,_,h2,h3,h4,_,h5,h6⟩
 ·rw[hcs]at h1;injection h1 with h1;exact⟨[], .inl ⟨h1,rfl⟩,by simp,Nat.zero_le _⟩
 ·rw[hcs]at h1;injection h1 with h1;have h4:zs.length=cap':=by simpa using h4
  rw[h1];refine⟨zs.take len', ?_,fun z hz=> ?_,by rw[List.length_take];omega⟩
  ·have hl:(zs.take len').length=len':=by rw[List.length_take];omega
   by_cases h0:cap'=0
   ·have:len'=0:=by omega
    subst this;subst h0;exact .inr (.inl ⟨a',rfl,by simp⟩)
   ·right;right;have c0:=h5 0 (by omega);have hsp:(a'.add 0).spot=none:=World.cell?_spot c0;obtain⟨b,off,spot⟩:=a';have hsp:spot=none:=by simpa[Addr.add]using hsp
    subst hsp;have hadd:∀i,(⟨b,off,none⟩:Addr).add i=⟨b,off+i,none⟩:=fun i=>by
     unfold Addr.add
     split
     ·rename_i e;subst e;rfl
     ·rfl
    refine⟨b,off,cap',by rw[hl],by omega, ?_,fun i hi=> ?_⟩
    ·obtain⟨arr,elem,fz,e1,_⟩:=JbH (by rw[hadd]at c0;exact c0);exact(Array.getElem?_eq_some_iff.1 e1).1
    ·have:=h5 i (by omega);rw[hadd]at this;rw[this,List.getElem_take,List.getD_eq_getElem?_getD,List.getElem?_eq_getElem (by omega)];rfl
  ·have:=h6 z (List.mem_of_mem_take hz);have: -9223372036854775808<=z/\z<=9223372036854775807:=by simpa[Lit.wf,IntKind.min,IntKind.max,IntKind.bits,IntKind.signed]using this
   omega
end
end Eva
namespace Eva
open Go Go.RowKit
def RecsAt (a st:St)(v:V)(z n:Nat)(cs:List V):Prop:=cs.length=n*z/\((v= .snil/\n=0)\/∃r t,v= .sl r 0 n z/\st.row r= .cells t cs/\a.row r= .none)
theorem RecsAt.nil (a st:St)(z:Nat):RecsAt a st .snil z 0 []:=⟨by simp, .inl ⟨rfl,rfl⟩⟩
theorem RecsAt.len {a st:St}{v:V}{z n:Nat}{cs:List V}(h:RecsAt a st v z n cs):lenLV v=some (.int .i64 n, .no):=by
 rcases h.2 with⟨rfl,rfl⟩|⟨r,t,rfl,_⟩
 ·rfl
 ·rfl
theorem RecsAt.gr {a st st':St}{v:V}{z n:Nat}{cs:List V}(h:RecsAt a st v z n cs)(g:Gr st st'):RecsAt a st' v z n cs:=by
 refine⟨h.1, ?_⟩;rcases h.2 with h|⟨r,t,h1,h2,h3⟩
 ·exact .inl h
 ·exact .inr ⟨r,t,h1,g.cells h2,h3⟩
theorem RecsAt.early {a a' st:St}{v:V}{z n:Nat}{cs:List V}(h:RecsAt a st v z n cs)(g:Gr a' a):RecsAt a' st v z n cs:=by
 refine⟨h.1, ?_⟩;rcases h.2 with h|⟨r,t,h1,h2,h3⟩
 ·exact .inl h
 ·refine .inr ⟨r,t,h1,h2, ?_⟩;apply Classical.byContradiction;intro e;exact e (by rw[<-g.same r e,h3])
theorem RecsAt.at {a st:St}{v:V}{z n:Nat}{cs:List V}(h:RecsAt a st v z n cs){i:Nat}(hi:i<n):
  ∃r t,iaddrSV z v (.int .i64 i)=some (.ptr r (i*z), .no)/\st.row r= .cells t cs:=by
 rcases h.2 with⟨_,rfl⟩|⟨r,t,rfl,hr,_⟩
 ·exact absurd hi (by simp)
 ·refine⟨r,t, ?_,hr⟩;rw[Yg,if_pos (by omega)];simp
theorem Gr.fresh {a st:St}(h:Gr a st):a.row st.nx= .none:=by
 apply Classical.byContradiction;intro e;exact e (by rw[<-h.same _ e,Q3 h.wf])
theorem Jqp {a st:St}{v:V}{z n:Nat}{cs:List V}(hg:Gr a st)(h:RecsAt a st v z n cs){q:Pt}{tq:Nat}{new:List V}(hq:st.row q= .cells tq new)(hqn:new.length=z)(hsc:allSc new=true)(hn:n+1<=2^24):
  ∃v' e,appV st z v (.slx q 0 1 z 1)=some (v',e)/\RecsAt a (st.ap e) v' z (n+1) (cs++new)/\Gr a (st.ap e):=by
 have hload:JD st z 1 (.slx q 0 1 z 1)=some new:=by
  simp only[JD,Nat.le_refl,true_and,if_true,loadN,hq];rw[if_pos (by omega)];simp[<-hqn]
 have hlen:(cs++new).length=(n+1)*z:=by rw[List.length_append,h.1,hqn,Nat.succ_mul]
 have happ:appV st z v (.slx q 0 1 z 1)=JV st z 1 new v:=by
  simp only[appV,slen,hload];rw[if_pos ⟨by decide,hsc⟩]
 rw[happ];rcases h.2 with⟨rfl,rfl⟩|⟨r,t,rfl,hr,hf⟩
 ·have hcs:cs=[]:=List.length_eq_zero_iff.1 (by rw[h.1];simp);subst hcs;have hgn:Gr st (st.new fun t=> .cells t new):=Gr.new hg.wf fun u=>⟨rfl,fun e=>by cases e⟩
  exact⟨.sl st.nx 0 1 z, .new fun t=> .cells t new,rfl,⟨by simpa using hlen, .inr ⟨st.nx,st.t,rfl,by rw[Jcn,Ka];rfl,hg.fresh⟩⟩,hg.trans hgn⟩
 ·have hgd:Gr a ((st.wr r t .dead).new fun u=> .cells u (cs++new)):=hg.dn hf (by rw[hr];exact fun e=>by cases e) (by rw[hr];rfl) fun u=>⟨rfl,fun e=>by cases e⟩
  refine⟨.sl st.nx 0 (n+1) z, .dn r t fun u=> .cells u (cs++new), ?_,⟨hlen, .inr ⟨st.nx,st.t+1,rfl, ?_,hg.fresh⟩⟩,hgd⟩
  ·simp only[JV,hr];rw[if_neg (by decide),if_neg (by omega),if_pos (by rw[h.1];omega)];simp[<-h.1]
  ·rw[JnP];exact Ka (st.wr r t .dead) _
def storV (st:St)(n:Nat)(x v:V):Option (V×Eff):=match v.cells with
 |some vs=>if vs.length=n then(JJ st x vs).map fun e=>(undefV,e)else none
 |none=>none
theorem Jod (fr:Fr)(st:St)(n:Nat)(x v:Opd):evOp fr st (.store n x v)=storV st n (x.ev fr) (v.ev fr):=of_eq_true (eq_self _)
section
variable {T : Table}
theorem Jkj {okW:Option (List Nat)}{fr:Fr}{st st':St}{Q Q':St->Prop}(k:∀s,Q s->Q' s)(h:markP okW fr st st' Q):markP okW fr st st' Q':=by
 unfold markP at h⊢
 split
 ·rename_i e
  rw[if_pos e]at h
  cases okW with
  |none=>exact h
  |some l=>exact⟨h.1,k _ h.2⟩
 ·rename_i e
  rw[if_neg e]at h;exact k _ h
theorem Jei {m:Bool}{okW:Option (List Nat)}{f:Nat}{args:List V}{fr:Fr}{st:St}{Q Q':V->St->Prop}(k:∀v s,Q v s->Q' v s)(h:wCall T m okW f args fr st Q):wCall T m okW f args fr st Q':=by
 unfold wCall at h⊢
 cases m with
 |false=>exact Does.mono h k
 |true=>exact Does.mono h fun v s hs=>Jkj (k v) hs
theorem Jqq {r:Option (V×Eff)}{Q Q':V->Eff->Prop}(k:∀v e,Q v e->Q' v e)(h:wV r Q):wV r Q':=by
 unfold wV at h⊢
 split at h
 ·exact k _ _ h
 ·exact h
theorem Joe {m:Bool}{okW:Option (List Nat)}{op:Iop}{fr:Fr}{st:St}{Q:V->St->Prop}(hc:op.calls=false):wO T m okW op fr st Q=wV (evOp fr st op) fun v e=>Q v (st.ap e):=by
 cases op
 case call=>cases hc
 case callv=>cases hc
 all_goals rfl
theorem JlJ {m:Bool}{okW:Option (List Nat)}{op:Iop}{fr:Fr}{st:St}{Q Q':V->St->Prop}(k:∀v s,Q v s->Q' v s)(h:wO T m okW op fr st Q):wO T m okW op fr st Q':=by
 cases hc:op.calls with
 | false=>
   rw[Joe hc]at h⊢;exact Jqq (fun v e=>k v _) h
 | true=>
   cases op
   case call f as=>exact Jei k h
   case callv x as=>
    have h:wFn T m okW (x.ev fr) (evs fr as) fr st Q:=h;show wFn T m okW (x.ev fr) (evs fr as) fr st Q';unfold wFn at h⊢
    split at h
    ·exact Jei k h
    ·exact h
   all_goals cases hc
theorem Jqr {x:V}{want:Bool}{P P' Z Z':Prop}(k:P->P')(j:Z->Z')(h:wG x want P Z):wG x want P' Z':=by
 unfold wG at h⊢
 split at h
 ·split at h
  ·rename_i e;rw[if_pos e];exact k h
  ·rename_i e;rw[if_neg e];exact j h
 ·exact j h
 ·exact h
theorem Jqs {d:Bool}{i:Ins}{fr:Fr}{st:St}{Q Q':Fr->St->Prop}(k:∀f s,Q f s->Q' f s)(h:wI T d i fr st Q):wI T d i fr st Q':=by
 obtain⟨dst,op,g,ow⟩:=i
 cases g with
 |none=>exact JlJ (fun v s=>k _ _) h
 |some p=>exact Jqr (fun h=>JlJ (fun v s=>k _ _) h) (k _ _) h
theorem Jha {d:Bool}:∀{l:List Ins} {fr:Fr} {st:St} {Q Q':Fr->St->Prop},(∀f s,Q f s->Q' f s)->wR T d l fr st Q->wR T d l fr st Q'
 |[],_,_,_,_,k,h=>k _ _ h
 |_::_,_,_,_,_,k,h=>Jqs (fun _ _=>Jha k) h
theorem JlK {lf:Nat}(c:C):∀{fr:Fr} {st:St} {Q Q':Out->Prop},(∀o,Q o->Q' o)->wC T lf c fr st Q->wC T lf c fr st Q':=by
 induction c with
 |skip=>exact fun k h=>k _ h
 |exit id=>exact fun k h=>k _ h
 |ret=>exact fun k h=>k _ h
 |reg l=>exact fun k h=>Jha (fun f s=>k _) h
 |drw l chk=>exact fun k h=>Jha (fun f s h=>⟨h.1,k _ h.2⟩) h
 | seq a b iha ihb=>
   intro fr st Q Q' k h;refine iha (fun o ho=> ?_) h
   cases o with
   |norm f s=>exact ihb k ho
   |exit i f s=>exact k _ ho
   |ret f s=>exact k _ ho
 | seqj l a b iha ihb=>
   intro fr st Q Q' k h;refine iha (fun o ho=> ?_) h
   cases o with
   |norm f s=>exact ihb k ho
   |exit i f s=>exact k _ ho
   |ret f s=>exact k _ ho
 | cond c a b iha ihb=>
   intro fr st Q Q' k h;have h:boolP (c.ev fr) (wC T lf a fr st Q) (wC T lf b fr st Q):=h;show boolP (c.ev fr) (wC T lf a fr st Q') (wC T lf b fr st Q');unfold boolP at h⊢
   split at h
   ·split at h
    ·rename_i e;rw[if_pos e];exact iha k h
    ·rename_i e;rw[if_neg e];exact ihb k h
   ·exact h
 | block id b ih=>
   intro fr st Q Q' k h;refine ih (fun o ho=> ?_) h
   cases o with
   |norm f s=>exact k _ ho
   | exit i f s=>
     by_cases e:i=id
     ·have ho:Q (.norm f s):=by simpa[kBlk,e]using ho
      simpa[kBlk,e]using k _ ho
     ·have ho:Q (.exit i f s):=by simpa[kBlk,e]using ho
      simpa[kBlk,e]using k _ ho
   |ret f s=>exact k _ ho
 | loop l b ih=>
   intro fr st Q Q' k h;obtain⟨I,h0,hs⟩:=(show wLoop (wC T lf b) lf fr st Q from h)
   refine(show wLoop (wC T lf b) lf fr st Q' from⟨I,h0,fun n f s hI=>ih (fun o ho=> ?_) (hs n f s hI)⟩)
   cases o with
   |norm f s=>exact ho
   |exit i f s=>exact k _ ho
   |ret f s=>exact k _ ho
def kCut (I:Fr->St->Prop)(Q:Out->Prop):Out->Prop
 | .norm fr st=>I fr st
 | .exit i fr st=>Q (.exit i fr st)
 | .ret fr st=>Q (.ret fr st)
theorem Jf5 (I:Fr->St->Prop)(Q:Out->Prop)(fr:Fr)(st:St):kCut I Q (.norm fr st)=I fr st:=propext Iff.rfl
theorem Jf6 (I:Fr->St->Prop)(Q:Out->Prop)(i:Nat)(fr:Fr)(st:St):kCut I Q (.exit i fr st)=Q (.exit i fr st):=propext Iff.rfl
theorem JiQ (I:Fr->St->Prop)(Q:Out->Prop)(fr:Fr)(st:St):kCut I Q (.ret fr st)=Q (.ret fr st):=propext Iff.rfl
theorem Qc {lf:Nat}{l:List Nat}{a b:C}{fr:Fr}{st:St}{K:Out->Prop}(I:Fr->St->Prop)(h1:wC T lf a fr st (kCut I K))(h2:∀f s,I f s->wC T lf b f s K):wC T lf (.seqj l a b) fr st K:=
 JlK a (fun o ho=>by
  cases o with
  |norm f s=>exact h2 f s ho
  |exit i f s=>exact ho
  |ret f s=>exact ho) h1
end
end Eva
