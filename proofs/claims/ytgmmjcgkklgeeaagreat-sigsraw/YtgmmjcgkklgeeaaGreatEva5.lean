/- An evaluator of the model's code, proved to tell what the model does. Regions in order: -/
import Derived.Test.YtgmmjcgkklgeeaaGreatEva4
import Derived.LoopN
import Derived.Laws.Sem
import Derived.Lib.IndexMore
set_option linter.unusedVariables false
set_option linter.unusedSimpArgs false
set_option linter.unusedSectionVars false
namespace Eva
open Go Go.RowKit
section
variable {P : Program} {γ : Locs} {ρ : Nat -> Value} {base : Bs} {st : St} {c : Pt -> Row} {w : World} {fr : Fr} {a : Act}
structure At (P:Program) (γ:Locs) (ρ:Nat->Value) (base:Bs) (n:Nat) (st:St) (c:Pt->Row) (w:World) (fr:Fr) (a:Act):Prop where
 fr:FR γ ρ fr a
 act:JcK n a
 rel:Rel γ ρ base c w
 full:Full γ c st
 wf:WF st
theorem Ja1 {self:Self}(hself:Q0 P ρ base self){x:Ins}{fr':Fr}{st':St}(he:Qh self false fr st x=some (fr',st'))(hw:WF st):Mono st st':=by
 have go:evGo self false fr st x=some (fr',st')->Mono st st':=fun h=>by
  unfold evGo at h;simp only[Bool.false_and,Bool.false_eq_true,if_false]at h
  split at h
  ·rename_i v st2 hv
   injection h with h;injection h with _ h2;subst h2;exact YW hself hv hw
  ·cases h
 unfold Qh at he
 split at he
 ·exact go he
 ·split at he
  ·split at he
   ·exact go he
   ·injection he with he;injection he with _ h2;subst h2;exact Mono.refl hw
  ·injection he with he;injection he with _ h2;subst h2;exact Mono.refl hw
  ·cases he
theorem JaL {self:Self}(hself:Q0 P ρ base self):∀{l:List Ins} {fr fr':Fr} {st st':St},JU self false l fr st=some (fr',st')->WF st->Mono st st'
 | [],fr,fr',st,st',h,hw=>by
   simp only[JU,Option.some.injEq,Prod.mk.injEq]at h;rw[<-h.2];exact Mono.refl hw
 | x::l,fr,fr',st,st',h,hw=>by
   simp only[JU]at h
   split at h
   ·rename_i fr1 st1 h1
    have m1:=Ja1 hself h1 hw;exact m1.trans (JaL hself h m1.wf)
   ·cases h
theorem Yx.left {st1 st2:St}(h:Yx γ st st2)(m:Mono st1 st2):Yx γ st st1:=fun r h1 h2=>h r h1 (by have:=m.nx;omega)
theorem Yx.right {γ1:Locs}{st1 st2:St}(h:Yx γ st st2)(m:Mono st st1)(hn:∀r,γ1 r≠none->γ r≠none\/(st.nx.num<=r.num/\r.num<st1.nx.num)):Yx γ1 st1 st2:=fun r h1 h2=>by
 apply Classical.byContradiction;intro e;have h3:=m.nx;rcases hn r e with k|k
 ·exact k (h r (by omega) h2)
 ·omega
theorem Jq4 {self:Self}(hself:Q0 P ρ base self)(hρ:∀i,(ρ i).oneCell'=true){ops:Array Oper}{ntmps:Nat}{l:List Iop}{k:Nat}{o:Oper}{x:Iop}{ins:Ins}(hi:kY ops ntmps l false k o x=some ins)(hc:YA P o=some x)
  (h:At P γ ρ base ntmps st c w fr a) {fr':Fr} {st':St} (he:Qh self false fr st ins=some (fr',st')) (hf:Yx γ st st') {K:Act->World->Prop} {Q:Exit->Act->World->Prop}
  (hK:∀γ' c' a' w',At P γ' ρ base ntmps st' c' w' fr' a'->QQ γ ρ base c st st' w γ' c' w'->K a' w'):
  (if Region.wanted o (yielded ops a.tmps)then o.wp P a w K Q else K (a.put o.dst undef) w):=by
 have hm:=Ja1 hself he h.wf;obtain⟨q1,q2,q3,q4,q5⟩:=Q7 hi;rcases Je7 hi he h.act (fun s _=>h.fr s)with⟨h1,v,h2,h3⟩|⟨h1,h2,h3⟩
 ·rw[h1,if_pos rfl];simp only[Bool.false_and,Bool.false_eq_true,if_false]at h2;have fin:∀y γ' c' w',Post γ ρ base c st st' w v γ' c' y w'->K (a.put o.dst y) w':=fun y γ' c' w' p=>
   hK γ' c' _ w' ⟨by rw[h3];exact FR.put h.fr p.ext h.act q3 p.val,h.act.put _ _,p.rel,p.s.full h.wf h.full,hm.wf⟩ p.s
  cases hx:x.calls with
  |true=>exact Jj7 hself hc hx h2 h.wf (fun y _ xo hxo=>Jh hxo h.fr) h.rel h.full hf fin
  | false=>
    obtain⟨e,e1,e2⟩:=Jam hx h2;subst e2;exact Jp4 h.wf (jy e1).1 (JdC hρ hc e1 h.fr h.rel h.full.acc (Post.nofresh hf)) fin
 ·rw[h1,if_neg (by decide)];subst h2;exact hK γ c _ w ⟨by rw[h3];exact FR.put h.fr (Ext.refl _) h.act q3 ⟨[],rfl,rfl⟩,h.act.put _ _,h.rel,h.full,h.wf⟩ (QQ.refl h.rel)
theorem Jmv {self:Self}(hself:Q0 P ρ base self)(hρ:∀i,(ρ i).oneCell'=true){ops:Array Oper}{ntmps:Nat}{l:List Iop}{Q:Exit->Act->World->Prop}:
  ∀(os:List Oper) (xs:List Iop) (is:List Ins) (k:Nat),QB ops ntmps l false k os xs=some is->(∀(j:Nat) (o:Oper),os[j]? =some o->ops[k+j]? =some o)->os.mapM (YA P)=some xs->
  ∀{γ:Locs} {c:Pt->Row} {w:World} {a:Act} {fr fr':Fr} {st st':St},At P γ ρ base ntmps st c w fr a->JU self false is fr st=some (fr',st')->Yx γ st st'->
   (∀γ' c' a' w',At P γ' ρ base ntmps st' c' w' fr' a'->QQ γ ρ base c st st' w γ' c' w'->Q .normal a' w')->wpOps P ops Q (List.range' k os.length) a w
 | [],xs,is,k,h1,h2,h3,γ,c,w,a,fr,fr',st,st',h,he,hf,hQ=>by
   simp at h3;subst h3;simp only[QB,Option.some.injEq]at h1;subst h1;simp only[JU,Option.some.injEq,Prod.mk.injEq]at he;obtain⟨e1,e2⟩:=he;subst e1;subst e2;exact hQ _ _ _ _ h (QQ.refl h.rel)
 | o::os,xs,is,k,h1,h2,h3,γ,c,w,a,fr,fr',st,st',h,he,hf,hQ=>by
   rw[List.mapM_cons]at h3
   cases hc:YA P o with
   |none=>simp[hc]at h3
   | some x=>
     cases hcs:os.mapM (YA P)with
     |none=>simp[hc,hcs]at h3
     | some xs'=>
       simp[hc,hcs]at h3;subst h3;simp only[QB]at h1
       split at h1
       ·rename_i y r hy hr
        injection h1 with h1;subst h1;simp only[JU]at he
        split at he
        ·rename_i fr1 st1 he1
         have m1:=Ja1 hself he1 h.wf;have m2:=JaL hself he m1.wf;have ho:ops[k]? =some o:=h2 0 o rfl;have main:=Jq4 (K:=wpOps P ops Q (List.range' (k+1) os.length)) (Q:=Q) hself hρ hy hc h he1 (hf.left m2) fun γ1 c1 a1 w1 at1 p1=>
          Jmv hself hρ os xs' r (k+1) hr (fun j o' hj=>by have:=h2 (j+1) o' (by simpa using hj);rwa [show k+(j+1)=k+1+j by omega]at this) hcs at1 he (hf.right m1 p1.new)
           fun γ' c' a' w' at2 p2=>hQ γ' c' a' w' at2 (p1.trans p2 m1 m2 h.wf)
         simp only[List.length_cons,List.range'_succ,wpOps,ho]
         split
         ·rename_i hwn;rw[if_pos hwn]at main;exact .inl main
         ·rename_i hwn;rw[if_neg hwn]at main;exact main
        ·cases he
       ·cases h1
end
theorem Jbu (S:Nat->Prop)(acc:Array Nat)(hacc:∀k i,S k->(acc.getD k 0).testBit i=true->S i):∀(l:List Edge) (s:Nat),(∀e∈l,Region.binds .any e=true->S e.on)->(∀i,s.testBit i=true->S i)->
  ∀i,(l.foldl (fun s e=>if Region.binds .any e then s|||2^e.on|||acc.getD e.on 0 else s) s).testBit i=true->S i
 |[],s,_,hs,i,h=>hs i h
 | e::l,s,hl,hs,i,h=>by
   simp only[List.foldl_cons]at h;refine Jbu S acc hacc l _ (fun e' he'=>hl e' (by simp[he'])) (fun j hj=> ?_) i h
   split at hj
   ·rename_i hb
    have hon:=hl e (by simp) hb;simp only[Nat.testBit_or,Bool.or_eq_true]at hj;rcases hj with(hj|hj)|hj
    ·exact hs j hj
    ·rw[Nat.testBit_two_pow]at hj;have:e.on=j:=by simpa using hj
     rw[<-this];exact hon
    ·exact hacc e.on j hon hj
   ·exact hs j hj
theorem Je8 (S:Nat->Prop):∀(l:List Oper) (acc:Array Nat),(∀(j:Nat) (o:Oper),l[j]? =some o->S (acc.size+j)->∀e∈o.after,Region.binds .any e=true->S e.on)->
  (∀k i,S k->(acc.getD k 0).testBit i=true->S i)->
  ∀k i,S k->((l.foldl (fun acc o=>acc.push (o.after.foldl (fun s e=>if Region.binds .any e then s|||2^e.on|||acc.getD e.on 0 else s) 0)) acc).getD k 0).testBit i=true->S i
 |[],acc,_,hacc=>hacc
 | o::l,acc,hl,hacc=>by
   simp only[List.foldl_cons];refine Je8 S l _ (fun j o' hj hs=>hl (j+1) o' (by simpa using hj) (by rw[Array.size_push]at hs;rwa [show acc.size+(j+1)=acc.size+1+j by omega])) (fun k i hk hb=> ?_);by_cases hk2:k<acc.size
   ·refine hacc k i hk ?_;rw[Array.getD_eq_getD_getElem?,Array.getElem?_push,if_neg (by omega)]at hb
    rwa [Array.getD_eq_getD_getElem?]
   ·by_cases hk3:k=acc.size
    ·subst hk3;rw[Array.getD_eq_getD_getElem?,Array.getElem?_push,if_pos rfl,Option.getD_some,<-Array.foldl_toList]at hb;exact Jbu S acc hacc o.after.toList 0 (fun e he=>hl 0 o rfl hk e (by simpa using he)) (fun i h=>by simp at h) i hb
    ·rw[Array.getD_eq_getD_getElem?,Array.getElem?_push,if_neg hk3,Array.getElem?_eq_none (by omega)]at hb;simp at hb
theorem jo {ops:Array Oper}{S:Nat->Prop}(hS:∀(k:Nat) (o:Oper),ops[k]? =some o->S k->∀e∈o.after,Region.binds .any e=true->S e.on):
  ∀k i,S k->((Region.before ops).getD k 0).testBit i=true->S i:=by
 unfold Region.before;rw[<-Array.foldl_toList];exact Je8 S ops.toList #[] (fun j o hj hs=>hS j o (by simpa using hj) (by simpa using hs)) (fun k i _ h=>by simp at h)
theorem jU {α:Type}:∀{L:List (Option (List α))} {r:List α},JaU L=some r->∀o∈L,∃x,o=some x/\∀y∈x,y∈r
 |[],_,_,o,ho=>by simp at ho
 |none::_,_,h,_,_=>by simp[JaU]at h
 | some x::L,r,h,o,ho=>by
   simp only[JaU]at h
   split at h
   ·rename_i y hy
    injection h with h;subst h;rcases List.mem_cons.1 ho with e|e
    ·exact⟨x,e,fun z hz=>List.mem_append_left _ hz⟩
    ·obtain⟨u,h1,h2⟩:=jU hy o e;exact⟨u,h1,fun z hz=>List.mem_append_right _ (h2 z hz)⟩
   ·cases h
section
variable {ops : Array Oper} {l : List Iop}
theorem Jg9 {e:Nat}{r:List Nat}(h:okWs ops l e=some r){k:Nat}(hk:k<ops.size){y:Iop}(hy:l[k]? =some y)(hne:k≠e)(hf:y.free=false)(ho:ordered (Region.before ops) e k=false):
  ∃ys,y.aslots=some ys/\k<e/\y.writes=false/\(∀s∈ys,YB ops k s=true)/\∀s∈ys,s∈r:=by
 obtain⟨x,h1,h2⟩:=jU h (okW1 ops l (Region.before ops) e k) (List.mem_map.2 ⟨k,List.mem_range.2 hk,rfl⟩);simp only[okW1,hy,hf,ho,beq_eq_false_iff_ne.2 hne,Bool.or_false,Bool.false_eq_true,if_false]at h1
 split at h1
 ·cases h1
 ·rename_i ys hys
  split at h1
  ·rename_i hc
   injection h1 with h1;subst h1;simp only[Bool.and_eq_true,decide_eq_true_eq,Bool.not_eq_true',List.all_eq_true]at hc;exact⟨ys,hys,hc.1.1,hc.1.2,hc.2,h2⟩
  ·cases h1
theorem Jb8 {r:List (List Nat×List Nat)}(h:Jj0 ops l=some r){e k:Nat}(he:e<ops.size)(hk:k<ops.size){x y:Iop}(hx:l[e]? =some x)(hy:l[k]? =some y)(hne:e≠k)
  (hw:x.writes=true) (hc:x.calls=false) (hf:y.free=false) (ho:ordered (Region.before ops) e k=false):
  (JaV ops e k y x=true)\/∃ys,y.aslots=some ys/\x.wslots≠[]/\(∀s∈x.wslots,YB ops e s=true)/\(∀s∈ys,YB ops k s=true)/\(x.wslots,ys)∈r:=by
 obtain⟨q,h1,h2⟩:=jU h _ (List.mem_map.2 ⟨e,List.mem_range.2 he,rfl⟩);obtain⟨q',h3,h4⟩:=jU h1 _ (List.mem_map.2 ⟨k,List.mem_range.2 hk,rfl⟩);simp only[Jp0,hx,hy,beq_eq_false_iff_ne.2 hne,hw,hc,hf,ho,Bool.or_false,Bool.false_or,Bool.not_true]at h3
 split at h3
 ·rename_i ht;exact .inl ht
 ·split at h3
  ·cases h3
  ·rename_i ys hys
   split at h3
   ·rename_i hcc
    injection h3 with h3;subst h3;simp only[Bool.and_eq_true,Bool.not_eq_true',List.all_eq_true,List.isEmpty_eq_false_iff]at hcc;exact .inr ⟨ys,hys,hcc.1.1,hcc.1.2,hcc.2,h2 _ (h4 _ (by simp))⟩
   ·cases h3
theorem Jjl {i:Nat}{s:Nat}(h:YB ops i s=true){k:Nat}(hk:k<ops.size)(hi:i<=k):qw ops k≠some s:=by
 simp only[YB,List.all_eq_true,List.mem_range]at h;have:=h k hk;simp only[Bool.or_eq_true,decide_eq_true_eq,bne_iff_ne]at this;rcases this with h|h
 ·omega
 ·exact h
theorem Y8 {b:Array Nat}{i k:Nat}:ordered b i k=ordered b k i:=by
 unfold ordered;rw[Nat.max_comm,Nat.min_comm]
theorem Jbv (h:JaT ops l=true){i:Nat}{o:Oper}{x:Iop}(ho:ops[i]? =some o)(hx:l[i]? =some x){k d:Nat}(hk:k<ops.size)(hne:k≠i)(hd:qw ops k=some d)(hin:d∈names ops o x):
  ordered (Region.before ops) i k=true:=by
 have hi:i<ops.size:=(Array.getElem?_eq_some_iff.1 ho).1;simp only[JaT,List.all_eq_true,List.mem_range]at h;have h1:=h i hi;simp only[ho,hx,Bool.and_eq_true,List.all_eq_true,List.mem_range]at h1;have h2:=h1.2 k hk;have hk':ops[k]? =some ops[k]:=Array.getElem?_eq_getElem hk;simp only[qw,hk',Option.bind_some]at hd;simp only[beq_eq_false_iff_ne.2 hne,hk',hd,Bool.false_or]at h2;have h3:(names ops o x).contains d=true:=by simpa using hin
 rw[h3]at h2;simpa[ordered]using h2
def Closed (ops:Array Oper)(S:Nat->Prop):Prop:=∀(k:Nat) (o:Oper),ops[k]? =some o->S k->∀e∈o.after,Region.binds .any e=true->S e.on
theorem Ja2 {S:Nat->Prop}{k:Nat}(hS:Closed ops S)(hSk:Closed ops fun i=>S i\/i=k)(hk:¬S k){j:Nat}(hj:j≠k)(ho:ordered (Region.before ops) k j=true):S j<->j<k:=by
 unfold ordered at ho;constructor
 ·intro h;apply Classical.byContradiction;intro hn;rw[Nat.max_eq_right (by omega),Nat.min_eq_left (by omega)]at ho;exact hk (jo hS j k h ho)
 ·intro h;rw[Nat.max_eq_left (by omega),Nat.min_eq_right (by omega)]at ho;rcases jo hSk k j (.inr rfl) ho with e|e
  ·exact e
  ·exact absurd e hj
theorem JeX {i:Iop}{ys:List Nat}(h:i.aslots=some ys)(hf:i.free=false):∀s∈i.wslots,s∈ys:=by
 intro s hs
 cases i<;>simp only[Iop.aslots]at h<;>simp only[Iop.wslots]at hs<;>first
  |(simp at hs;done)
  |(cases h;done)
  |(injection h with h;subst h;first|exact hs|exact List.mem_append_left _ hs)
theorem Jha {i:Iop}(h:i.free=true):i.aslots=some []:=by
 cases i<;>first|rfl|cases h
theorem JcL {i:Iop}(h:i.writes=true):i.free=false:=by
 cases i<;>first|rfl|cases h
theorem YG {i:Iop}(h:i.calls=true):i.free=false/\i.aslots=none:=by
 cases i<;>first|exact⟨rfl,rfl⟩|cases h
end
section
variable {P : Program} {γ : Locs} {ρ : Nat -> Value} {base : Bs} {st : St} {c : Pt -> Row} {w : World} {fr : Fr} {a : Act}
theorem trace {self:Self}{draw:Bool}:∀{is:List Ins} {fr fr':Fr} {st st':St},JU self draw is fr st=some (fr',st')->
  ∃F:Nat->Fr×St,F 0=(fr,st)/\F is.length=(fr',st')/\∀i x,is[i]? =some x->Qh self draw (F i).1 (F i).2 x=some (F (i+1))
 | [],fr,fr',st,st',h=>by
   simp only[JU,Option.some.injEq,Prod.mk.injEq]at h;exact⟨fun _=>(fr,st),rfl,by simp[h.1,h.2],fun i x hx=>by simp at hx⟩
 | x::is,fr,fr',st,st',h=>by
   simp only[JU]at h
   split at h
   ·rename_i fr1 st1 h1
    obtain⟨F,f1,f2,f3⟩:=trace h;refine⟨fun i=>match i with|0=>(fr,st)|i+1=>F i,rfl,f2,fun i y hy=> ?_⟩
    cases i with
    |zero=>simp at hy;subst hy;show Qh self draw fr st x=some (F 0);rw[f1];exact h1
    |succ i=>exact f3 i y (by simpa using hy)
   ·cases h
theorem jV {self:Self}{okW:Option (List Nat)}{x:Iop}{v:V}{st':St}(he:Ke self okW fr st x=some (v,st')):
  ∃st2 lo,Kn self fr {st with low:=st.t} x=some (v,st2)/\st'={st2 with low:=lo}/\lo<=st.low/\(st2.low<st.t->lo<=st2.low/\∃l,okW=some l/\still fr st2 st.t l=true):=by
 unfold Ke at he
 split at he
 ·rename_i u st2 h1
  split at he
  ·rename_i hlt
   split at he
   ·cases he
   ·rename_i l
    split at he
    ·rename_i hs
     injection he with he;injection he with e1 e2;subst e1;refine⟨st2,_,h1,e2.symm, ?_,fun _=>⟨?_,l,rfl,hs⟩⟩<;>split<;>omega
    ·cases he
  ·rename_i hlt
   injection he with he;injection he with e1 e2;subst e1;exact⟨st2,_,h1,e2.symm,Nat.le_refl _,fun h=>absurd h hlt⟩
 ·cases he
theorem JD (h:WF st)(n:Nat):WF {st with low:=n}:=⟨h.nx,h.t⟩
theorem JaM {self:Self}(hself:Q0 P ρ base self){okW:Option (List Nat)}{x:Iop}{v:V}{st':St}(he:Ke self okW fr st x=some (v,st'))(hw:WF st):Mono st st':=by
 obtain⟨st2,lo,h1,h2,h3,h4⟩:=jV he;have m:=YW hself h1 (JD hw _);subst h2;refine⟨⟨m.wf.nx,m.wf.t⟩,m.t,m.nx,m.row,h3,fun r e1 e2=> ?_,m.born⟩;have h5:st2.low<=(st.row r).time:=m.old r e1 e2;have h6:=hw.t r e1;have h7:=(h4 (by omega)).1;show lo<=_;omega
theorem kn {self:Self}{draw:Bool}{x:Ins}{fr':Fr}{st':St}(he:Qh self draw fr st x=some (fr',st')):
  ∃v,fr'=put fr x.dst v/\(st'=st\/(if draw&&x.op.calls then Ke self x.okW fr st x.op else Kn self fr st x.op)=some (v,st')):=by
 have go:evGo self draw fr st x=some (fr',st')->∃v,fr'=put fr x.dst v/\(if draw&&x.op.calls then Ke self x.okW fr st x.op else Kn self fr st x.op)=some (v,st'):=fun h=>by
  unfold evGo at h
  split at h
  ·rename_i v st2 hv
   injection h with h;injection h with h1 h2;subst h2;exact⟨v,h1.symm,hv⟩
  ·cases h
 unfold Qh at he
 split at he
 ·obtain⟨v,h1,h2⟩:=go he;exact⟨v,h1, .inr h2⟩
 ·split at he
  ·split at he
   ·obtain⟨v,h1,h2⟩:=go he;exact⟨v,h1, .inr h2⟩
   ·injection he with he;injection he with h1 h2;exact⟨_,h1.symm, .inl h2.symm⟩
  ·injection he with he;injection he with h1 h2;exact⟨_,h1.symm, .inl h2.symm⟩
  ·cases he
structure Canon (P:Program) (γ₀:Locs) (ρ:Nat->Value) (base:Bs) (c₀:Pt->Row) (ops:Array Oper) (ntmps:Nat) (l:List Iop) (slf:Self) (F:Nat->Fr×St):Prop where
 hself:Q0 P ρ base slf
 rho:∀i,(ρ i).oneCell'=true
 op:∀(i:Nat) (o:Oper),ops[i]? =some o->∃x y,l[i]? =some x/\YA P o=some x/\kY ops ntmps l true i o x=some y/\Qh slf true (F i).1 (F i).2 y=some (F (i+1))
 wf0:WF (F 0).2
 draw:JaT ops l=true
 chk:∃r,Jj0 ops l=some r/\JZ (F ops.size).1 r=true
 fresh:Yx γ₀ (F 0).2 (F ops.size).2
 full:Full γ₀ c₀ (F 0).2
def born (F:Nat->Fr×St)(j:Nat)(r:Pt):Prop:=(F j).2.nx.num<=r.num/\r.num<(F (j+1)).2.nx.num
def tch (F:Nat->Fr×St)(j:Nat)(r:Pt):Prop:=(F (j+1)).2.row r≠(F j).2.row r
section
variable {γ₀ : Locs} {c₀ : Pt -> Row} {ops : Array Oper} {ntmps : Nat} {l : List Iop} {self : Self} {F : Nat -> Fr × St}
theorem Canon.get (h:Canon P γ₀ ρ base c₀ ops ntmps l self F){i:Nat}(hi:i<ops.size):∃o x y,ops[i]? =some o/\l[i]? =some x/\YA P o=some x/\kY ops ntmps l true i o x=some y/\Qh self true (F i).1 (F i).2 y=some (F (i+1)):=by
 obtain⟨x,y,h1⟩:=h.op i ops[i] (Array.getElem?_eq_getElem hi);exact⟨_,x,y,Array.getElem?_eq_getElem hi,h1⟩
theorem Canon.mono1 (h:Canon P γ₀ ρ base c₀ ops ntmps l self F){i:Nat}(hi:i<ops.size)(hw:WF (F i).2):Mono (F i).2 (F (i+1)).2:=by
 obtain⟨o,x,y,h1,h2,h3,h4,h5⟩:=h.get hi;obtain⟨v,h6,h7⟩:=kn (fr':=(F (i+1)).1) (st':=(F (i+1)).2) h5;rcases h7 with h7|h7
 ·rw[h7];exact Mono.refl hw
 ·split at h7
  ·exact JaM h.hself h7 hw
  ·exact YW h.hself h7 hw
theorem Canon.wf (h:Canon P γ₀ ρ base c₀ ops ntmps l self F):∀i,i<=ops.size->WF (F i).2
 |0,_=>h.wf0
 |i+1,hi=>(h.mono1 (by omega) (h.wf i (by omega))).wf
theorem Canon.mono (h:Canon P γ₀ ρ base c₀ ops ntmps l self F){i:Nat}:∀d,i+d<=ops.size->Mono (F i).2 (F (i+d)).2
 |0,hi=>Mono.refl (h.wf i hi)
 |d+1,hi=>(h.mono d (by omega)).trans (h.mono1 (i:=i+d) (by omega) (h.wf _ (by omega)))
theorem Canon.mono' (h:Canon P γ₀ ρ base c₀ ops ntmps l self F){i j:Nat}(hij:i<=j)(hj:j<=ops.size):Mono (F i).2 (F j).2:=by
 have:=h.mono (i:=i) (j-i) (by omega)
 rwa [show i+(j-i)=j by omega]at this
theorem Canon.fr1 (h:Canon P γ₀ ρ base c₀ ops ntmps l self F){i:Nat}(hi:i<ops.size){s:Nat}(hs:qw ops i≠some s):(F (i+1)).1 s=(F i).1 s:=by
 obtain⟨o,x,y,h1,h2,h3,h4,h5⟩:=h.get hi;obtain⟨v,h6,_⟩:=kn (fr':=(F (i+1)).1) (st':=(F (i+1)).2) h5;rw[h6,(Q7 h4).1];simp only[qw,h1,Option.bind_some]at hs
 cases hd:o.dst with
 |none=>rfl
 | some d=>
   have:s≠d:=fun e=>hs (by rw[hd,e]);simp[Eva.put,this]
theorem Canon.frs (h:Canon P γ₀ ρ base c₀ ops ntmps l self F){i:Nat}{s:Nat}:∀d,i+d<=ops.size->(∀k,i<=k->k<i+d->qw ops k≠some s)->(F (i+d)).1 s=(F i).1 s
 |0,_,_=>rfl
 |d+1,hd,hk=>by rw[<-h.frs d (by omega) fun k h1 h2=>hk k h1 (by omega)];exact h.fr1 (i:=i+d) (by omega) (hk (i+d) (by omega) (by omega))
theorem Canon.frame (h:Canon P γ₀ ρ base c₀ ops ntmps l self F){i j:Nat}{s:Nat}(hij:i<=j)(hj:j<=ops.size)(hk:∀k,i<=k->k<j->qw ops k≠some s):(F j).1 s=(F i).1 s:=by
 have:=h.frs (i:=i) (s:=s) (j-i) (by omega) fun k h1 h2=>hk k h1 (by omega)
 rwa [show i+(j-i)=j by omega]at this
theorem Canon.fr_stable (h:Canon P γ₀ ρ base c₀ ops ntmps l self F){i j:Nat}{s:Nat}(hij:i<=j)(hj:j<=ops.size)(hk:YB ops i s=true):(F j).1 s=(F i).1 s:=
 h.frame hij hj fun k h1 h2=>Jjl hk (by omega) h1
theorem Je9 {r:Pt}{i:Nat}:∀d,(∀k,i<=k->k<i+d->¬tch F k r)->(F (i+d)).2.row r=(F i).2.row r
 |0,_=>rfl
 | d+1,hk=>by
   rw[<-Je9 d fun k h1 h2=>hk k h1 (by omega)];exact Classical.byContradiction fun e=>hk (i+d) (by omega) (by omega) e
theorem Ja3 {r:Pt}{i j:Nat}(hij:i<=j)(hk:∀k,i<=k->k<j->¬tch F k r):(F j).2.row r=(F i).2.row r:=by
 have:=Je9 (F:=F) (r:=r) (i:=i) (j-i) fun k h1 h2=>hk k h1 (by omega)
 rwa [show i+(j-i)=j by omega]at this
theorem Canon.born_one (h:Canon P γ₀ ρ base c₀ ops ntmps l self F){i j:Nat}{r:Pt}(hi:i<ops.size)(hj:j<ops.size)(h1:born F i r)(h2:born F j r):i=j:=by
 have key:∀{i j:Nat},i<j->j<ops.size->born F i r->born F j r->False:=fun{i j} hij hj h1 h2=>by
  have:=(h.mono' (i:=i+1) (j:=j) (by omega) (by omega)).nx;have:=h1.2;have:=h2.1;omega
 rcases Nat.lt_trichotomy i j with e|e|e
 ·exact(key e hj h1 h2).elim
 ·exact e
 ·exact(key e hi h2 h1).elim
theorem Canon.born0 (h:Canon P γ₀ ρ base c₀ ops ntmps l self F){i:Nat}{r:Pt}(hi:i<ops.size)(h1:born F i r):(F 0).2.nx.num<=r.num/\r.num<(F ops.size).2.nx.num:=by
 have:=(h.mono' (i:=0) (j:=i) (by omega) (by omega)).nx;have:=(h.mono' (i:=i+1) (j:=ops.size) (by omega) (by omega)).nx;have:=h1.1;have:=h1.2;omega
theorem Canon.born_none (h:Canon P γ₀ ρ base c₀ ops ntmps l self F){i j:Nat}{r:Pt}(hi:i<ops.size)(h1:born F i r)(hj:j<=i):(F j).2.row r= .none:=by
 apply Classical.byContradiction;intro e;have:=(h.wf j (by omega)).nx r e;have:=(h.mono' (i:=j) (j:=i) hj (by omega)).nx;have:=h1.1;omega
theorem Canon.tch_cases (h:Canon P γ₀ ρ base c₀ ops ntmps l self F){j:Nat}{o:Oper}{x:Iop}(ho:ops[j]? =some o)(hx:l[j]? =some x){r:Pt}(ht:tch F j r):
  born F j r\/((F j).2.row r≠ .none/\
   ((x.calls=false/\x.writes=true/\(∀s∈x.wslots,rowOf ((F j).1 s)=some r)/\∃v e,evOp (F j).1 (F j).2 x=some (v,e)/\(F (j+1)).2=(F j).2.ap e)\/
    (x.calls=true/\∃l',okWs ops l j=some l'/\still (F j).1 (F (j+1)).2 (F j).2.t l'=true))):=by
 have hj:j<ops.size:=(Array.getElem?_eq_some_iff.1 ho).1;obtain⟨x',y,h1,h2,h3,h5⟩:=h.op j o ho;rw[hx]at h1;injection h1 with h1;subst h1;obtain⟨q1,q2,q3,q4,q5⟩:=Q7 h3;obtain⟨v,h6,h7⟩:=kn (fr':=(F (j+1)).1) (st':=(F (j+1)).2) h5;have hw:=h.wf j (by omega);have hm:=h.mono1 hj hw;have hrow:=hm.row r ht;have hw2:=h.wf (j+1) (by omega);by_cases hn:(F j).2.row r= .none
 ·exact .inl ⟨hm.born r hn hrow.2,hw2.nx r hrow.2⟩
 ·right;refine⟨hn, ?_⟩;rcases h7 with h7|h7
  ·exact absurd (by rw[h7]) ht
  ·rw[q2,q4]at h7
   cases hc:x.calls with
   | true=>
     right;refine⟨rfl, ?_⟩;simp only[hc,Bool.and_self,if_true]at h7;obtain⟨st2,lo,g1,g2,g3,g4⟩:=jV h7;have m2:=YW h.hself g1 (JD hw _);have hrr:(F (j+1)).2.row r=st2.row r:=by rw[g2];rfl
     have ho:=m2.old r hn (by intro e;exact ht (by rw[hrr,e];rfl));have ht':=hw.t r hn;have ho:st2.low<=((F j).2.row r).time:=ho;obtain⟨_,l',g5,g6⟩:=g4 (by omega);refine⟨l',g5, ?_⟩;rw[g2];exact g6
   | false=>
     left;simp only[hc,Bool.and_false,Bool.false_eq_true,if_false]at h7;obtain⟨e,e1,e2⟩:=Jam hc h7;have heff:=jy e1;have hov:e.over=some r:=by
      unfold tch at ht;rw[e2,St.row_ap]at ht
      cases e with
      |no=>exact absurd rfl ht
      | new f=>
        simp only[Eff.on]at ht;by_cases er:r=(F j).2.nx
        ·exfalso;subst er;exact absurd (hw.nx _ hn) (by omega)
        ·rw[Jt _ _ er]at ht;exact absurd rfl ht
      | wr p t f=>
        simp only[Eff.on]at ht;by_cases er:r=p
        ·subst er;rfl
        ·rw[Jt _ _ er]at ht;exact absurd rfl ht
      | dn p t f=>
        simp only[Eff.on]at ht;by_cases er:r=(F j).2.nx
        ·exfalso;subst er;exact absurd (hw.nx _ hn) (by omega)
        ·rw[Jt _ _ er]at ht;by_cases er:r=p
         ·subst er;rfl
         ·rw[Jt _ _ er]at ht;exact absurd rfl ht
     obtain⟨k1,k2⟩:=heff.2 r hov;exact⟨rfl,k1,k2,v,e,e1,e2⟩
end
end
theorem jz {a b:V}(h:JaS a b=true):a=b:=by
 unfold JaS at h
 split at h<;>simp_all
theorem Q8 :∀{a b:List V},Ye a b=true->a=b
 |[],[],_=>rfl
 | x::a,y::b,h=>by
   simp only[Ye,Bool.and_eq_true]at h;rw[jz h.1,Q8 h.2]
 |[],_::_,h=>by simp[Ye]at h
 |_::_,[],h=>by simp[Ye]at h
theorem Jmw {a b:V}(h:Jmb a b=true):a=b:=by
 unfold Jmb at h
 split at h
 ·rw[Q8 h]
 ·exact jz h
theorem Jj8 {x y:Opd}(h:x.same y=true):∃i,x= .s i/\y= .s i:=by
 unfold Opd.same at h
 split at h
 ·rename_i i j
  have:i=j:=by simpa using h
  subst this;exact⟨i,rfl,rfl⟩
 ·cases h
theorem qI {ops:Array Oper}{e k:Nat}{y x:Iop}(h:JaV ops e k y x=true):∃ek z m kk,y= .lookup ek z false (.s m) (.s kk)/\x= .ment ek z (.s m) (.s kk)/\YB ops (min e k) m=true/\YB ops (min e k) kk=true:=by
 unfold JaV twin at h
 split at h
 ·rename_i e1 z1 m1 k1 e2 z2 m2 k2
  simp only[Bool.and_eq_true,decide_eq_true_eq,List.all_eq_true]at h;obtain⟨⟨⟨⟨h1,h2⟩,h3⟩,h4⟩,h5⟩:=h;obtain⟨i,a1,a2⟩:=Jj8 h3;obtain⟨j,b1,b2⟩:=Jj8 h4;have:=Jmw h2;subst h1;subst this;subst a1;subst a2;subst b1;subst b2;exact⟨_,_,i,j,rfl,rfl,h5 i (by simp[Iop.slots,Iop.opds,Opd.slot]),h5 j (by simp[Iop.slots,Iop.opds,Opd.slot])⟩
 ·simp at h
theorem JdF {fr:Fr}{chk:List (List Nat×List Nat)}(h:JZ fr chk=true){xs ys:List Nat}(hm:(xs,ys)∈chk){s t:Nat}(hs:s∈xs)(ht:t∈ys){p q:Pt}(hp:rowOf (fr s)=some p)(hq:rowOf (fr t)=some q):p≠q:=by
 unfold JZ at h;rw[List.all_eq_true]at h;have h1:=h _ hm;simp only[List.all_eq_true]at h1;have h2:=h1 s hs t ht;rw[hp,hq]at h2;simpa using h2
theorem Jbw {e:EK}{k:V}(hr:e.refl k=true):∀{es:List (V×V)} {i j:Nat} {v:V},Ky e k es i=some (some (j,v))->i<=j/\Ky e k (es.modify (j-i) fun p=>(k,p.2)) i=some (some (j,v))
 |[],i,j,v,h=>by simp[Ky]at h
 | (x,u)::es,i,j,v,h=>by
   have hkk:e.eq k k=some true:=by
    unfold EK.refl at hr
    split at hr
    ·assumption
    ·cases hr
   simp only[Ky]at h
   split at h
   ·injection h with h;injection h with h;injection h with h1 h2;subst h1;subst h2;simp[Ky,hkk]
   ·rename_i hf
    obtain⟨h1,h2⟩:=Jbw hr h;refine⟨by omega, ?_⟩;rw[show j-i=(j-(i+1))+1 by omega,List.modify_succ_cons];simp only[Ky,hf];exact h2
   ·cases h
theorem JdG {e:EK}{k z:V}(hr:e.refl k=true):∀{es:List (V×V)} {i:Nat},Ky e k es i=some none->Ky e k (es++[(k,z)]) i=some (some (i+es.length,z))
 | [],i,h=>by
   have hkk:e.eq k k=some true:=by
    unfold EK.refl at hr
    split at hr
    ·assumption
    ·cases hr
   simp[Ky,hkk]
 | (x,u)::es,i,h=>by
   simp only[Ky]at h
   split at h
   ·cases h
   ·rename_i hf
    have:=JdG (z:=z) hr h;simp only[List.cons_append,Ky,hf,List.length_cons];rw[this,show i+1+es.length=i+(es.length+1) by omega]
   ·cases h
theorem JlL {fr fr':Fr}{st:St}{e:EK}{z v:V}{m k:Opd}{eff:Eff}(h:evOp fr st (.ment e z m k)=some (v,eff))(hm:m.ev fr'=m.ev fr)(hk:k.ev fr'=k.ev fr):
  evOp fr' (st.ap eff) (.lookup e z false m k)=evOp fr' st (.lookup e z false m k):=by
 simp only[evOp]at h;simp only[evOp,hm,hk]
 split at h
 ·rename_i r hmr
  split at h
  ·rename_i t es hrow
   split at h
   ·cases h
   ·rename_i hfit
    have hrefl:e.refl (k.ev fr)=true:=by simp at hfit;exact hfit.2
    split at h
    ·rename_i i w hfind
     injection h with h;injection h with h1 h2;subst h2;obtain⟨_,h3⟩:=Jbw hrefl hfind;rw[Nat.sub_zero]at h3;simp only[hmr,Yf,St.row_ap,Eff.on,Jp,hrow,h3,hfind]
    ·rename_i hfind
     injection h with h;injection h with h1 h2;subst h2;have h3:=JdG (z:=z) hrefl hfind;simp only[hmr,Yf,St.row_ap,Eff.on,Jp,hrow,h3,hfind];simp
    ·cases h
  ·cases h
 ·cases h
theorem Jmx {fr:Fr}{st st':St}{e:EK}{z:V}{ok:Bool}{m k:Opd}{r:Pt}(hr:rowOf (m.ev fr)=some r)(h:st'.row r=st.row r):evOp fr st' (.lookup e z ok m k)=evOp fr st (.lookup e z ok m k):=by
 have:Yf st' (m.ev fr)=Yf st (m.ev fr):=by
  unfold Yf
  split
  ·rfl
  ·rename_i q hq
   rw[hq]at hr;injection hr with hr;subst hr;rw[h]
  ·rfl
 simp only[evOp,this]
section
variable {P : Program} {γ : Locs} {ρ : Nat -> Value} {base : Bs} {c : Pt -> Row} {w : World} {a : Act}
variable {γ₀ : Locs} {c₀ : Pt -> Row} {w₀ : World} {ops : Array Oper} {ntmps : Nat} {l : List Iop} {self : Self} {F : Nat -> Fr × St}
def Over (ops:Array Oper)(l:List Iop)(F:Nat->Fr×St)(j:Nat)(x:Iop)(r:Pt):Prop:=
 (x.calls=false/\x.writes=true/\(∀s∈x.wslots,rowOf ((F j).1 s)=some r)/\∃v e,evOp (F j).1 (F j).2 x=some (v,e)/\(F (j+1)).2=(F j).2.ap e)\/
 (x.calls=true/\∃l',okWs ops l j=some l'/\still (F j).1 (F (j+1)).2 (F j).2.t l'=true)
theorem Canon.clash1 (h:Canon P γ₀ ρ base c₀ ops ntmps l self F){i j:Nat}{x y:Iop}{r:Pt}(hne:i≠j)(hi:i<ops.size)(hj:j<ops.size)(hx:l[i]? =some x)(hy:l[j]? =some y)
  (ho:ordered (Region.before ops) i j=false) (hcx:x.calls=false) (cx:Over ops l F i x r) (cy:Over ops l F j y r):False:=by
 obtain⟨chk,hp,hap⟩:=h.chk;rcases cx with⟨_,wx,sx,_⟩|⟨e,_⟩
 ·have fy:y.free=false:=by
   rcases cy with⟨_,wy,_⟩|⟨e,_⟩
   ·exact JcL wy
   ·exact(YG e).1
  rcases Jb8 hp hi hj hx hy hne wx hcx fy ho with ht|⟨ys,ha,hn,hs,hs',hm⟩
  ·obtain⟨_,_,_,_,e1,_⟩:=qI ht;subst e1;rcases cy with⟨_,wy,_⟩|⟨e,_⟩
   ·cases wy
   ·cases e
  ·rcases cy with⟨cy,wy,sy,_⟩|⟨e,_⟩
   ·rcases Jb8 hp hj hi hy hx (Ne.symm hne) wy cy (JcL wx) (by rw[Y8];exact ho)with ht|⟨ys',_,hn',_⟩
    ·obtain⟨_,_,_,_,e1,_⟩:=qI ht;subst e1
     cases wx
    ·obtain⟨s,hs1⟩:=List.exists_mem_of_ne_nil _ hn;obtain⟨t,ht1⟩:=List.exists_mem_of_ne_nil _ hn';have ht2:=JeX ha fy t ht1;have e1:=h.fr_stable (i:=i) (j:=ops.size) (by omega) (Nat.le_refl _) (hs s hs1);have e2:=h.fr_stable (i:=j) (j:=ops.size) (by omega) (Nat.le_refl _) (hs' t ht2);exact JdF hap hm hs1 ht2 (by rw[e1];exact sx s hs1) (by rw[e2];exact sy t ht1) rfl
   ·rw[(YG e).2]at ha;cases ha
 ·rw[hcx]at e;cases e
theorem Canon.clash (h:Canon P γ₀ ρ base c₀ ops ntmps l self F){i j:Nat}{x y:Iop}{r:Pt}(hne:i≠j)(hi:i<ops.size)(hj:j<ops.size)(hx:l[i]? =some x)(hy:l[j]? =some y)
  (ho:ordered (Region.before ops) i j=false) (cx:Over ops l F i x r) (cy:Over ops l F j y r):False:=by
 cases hcx:x.calls with
 |false=>exact h.clash1 hne hi hj hx hy ho hcx cx cy
 | true=>
   cases hcy:y.calls with
   |false=>exact h.clash1 (Ne.symm hne) hj hi hy hx (by rw[Y8];exact ho) hcy cy cx
   | true=>
     rcases cx with⟨e,_⟩|⟨_,l',e,_⟩
     ·rw[hcx]at e;cases e
     ·obtain⟨ys,h1,_⟩:=Jg9 e hj hy (Ne.symm hne) (YG hcy).1 ho;rw[(YG hcy).2]at h1;cases h1
structure Inv (γ₀:Locs) (ρ:Nat->Value) (base:Bs) (c₀:Pt->Row) (w₀:World) (ops:Array Oper) (ntmps:Nat) (F:Nat->Fr×St) (S:Nat->Prop) (γ:Locs) (c:Pt->Row) (a:Act) (w:World):Prop where
 closed:Closed ops S
 rel:Rel γ ρ base c w
 act:JcK ntmps a
 ext:Ext γ₀ γ
 below:Below base.n w₀ w
 slot:∀t m,m<=ops.size->(∀k,k<ops.size->qw ops k=some t->(S k<->k<m))->R γ ρ ((F m).1 t) (a.tmps.getD t undef)
 row:∀r m,m<=ops.size->(∀k,k<ops.size->tch F k r->(S k<->k<m))->(∃k,k<ops.size/\S k/\tch F k r)->c r=(F m).2.row r
 rest:∀r,(∀k,k<ops.size->S k->¬tch F k r)->c r=c₀ r
 made:∀k r,k<ops.size->S k->tch F k r->γ r≠none
 new:∀r,γ r≠none->γ₀ r≠none\/∃k,k<ops.size/\S k/\born F k r
variable {S : Nat -> Prop}
theorem Inv.exact (h:Canon P γ₀ ρ base c₀ ops ntmps l self F)(hi:Inv γ₀ ρ base c₀ w₀ ops ntmps F S γ c a w){r:Pt}{m:Nat}(hm:m<=ops.size)(hag:∀k,k<ops.size->tch F k r->(S k<->k<m))(hg:γ r≠none)(hr:(F m).2.row r≠ .none):
  c r=(F m).2.row r:=by
 by_cases he:∃k,k<ops.size/\S k/\tch F k r
 ·exact hi.row r m hm hag he
 ·have h0:(F m).2.row r=(F 0).2.row r:=Ja3 (Nat.zero_le _) fun k _ h2 ht=>he ⟨k,by omega,(hag k (by omega) ht).2 h2,ht⟩;rw[h0]at hr⊢;rw[hi.rest r fun k h1 h2 h3=>he ⟨k,h1,h2,h3⟩];rcases hi.new r hg with k|⟨k,k1,k2,k3⟩
  ·exact h.full r k hr
  ·exact absurd (h.born_none k1 k3 (Nat.zero_le _)) hr
theorem Inv.known (h:Canon P γ₀ ρ base c₀ ops ntmps l self F)(hi:Inv γ₀ ρ base c₀ w₀ ops ntmps F S γ c a w){r:Pt}(hg:γ r≠none){j:Nat}(hj:j<ops.size)(hb:born F j r):S j:=by
 rcases hi.new r hg with g|⟨k,k1,k2,k3⟩
 ·have:=h.born0 hj hb;exact absurd (h.fresh r this.1 this.2) g
 ·have:=h.born_one hj k1 hb k3;subst this;exact k2
theorem Inv.pre (h:Canon P γ₀ ρ base c₀ ops ntmps l self F)(hi:Inv γ₀ ρ base c₀ w₀ ops ntmps F S γ c a w){i j:Nat}{r:Pt}(hij:i<j)(hj:j<ops.size)(hti:tch F i r)(htj:tch F j r)(hs:S j):S i:=by
 cases ho:ordered (Region.before ops) i j with
 | true=>
   unfold ordered at ho;rw[Nat.max_eq_right (by omega),Nat.min_eq_left (by omega)]at ho;exact jo hi.closed j i hs ho
 | false=>
   obtain⟨oi,xi,_,i1,i2,_⟩:=h.get (i:=i) (by omega);obtain⟨oj,xj,_,j1,j2,_⟩:=h.get hj;rcases h.tch_cases i1 i2 hti with b|⟨n1,c1⟩
   ·exact hi.known h (hi.made j r hj hs htj) (by omega) b
   ·rcases h.tch_cases j1 j2 htj with b|⟨n2,c2⟩
    ·exact absurd (h.born_none hj b (by omega)) n1
    ·exact(h.clash (by omega) (by omega) hj i2 j2 ho c1 c2).elim
theorem Inv.look (h:Canon P γ₀ ρ base c₀ ops ntmps l self F)(hi:Inv γ₀ ρ base c₀ w₀ ops ntmps F S γ c a w){k j:Nat}{x y:Iop}{r:Pt}(hk:k<ops.size)(hj:j<ops.size)(hx:l[k]? =some x)(hy:l[j]? =some y)(hne:j≠k)
  (hS:¬S k) (hSk:Closed ops fun i=>S i\/i=k) (hfree:x.free=false) (hg:γ r≠none) (hr:(F k).2.row r≠ .none) (hl:∀ys,x.aslots=some ys->∃s∈ys,rowOf ((F k).1 s)=some r) (ht:tch F j r):
  (S j<->j<k)\/JaV ops j k x y=true:=by
 cases ho:ordered (Region.before ops) k j with
 |true=>exact .inl (Ja2 hi.closed hSk hS hne ho)
 | false=>
   obtain⟨oj,yj,_,j1,j2,_⟩:=h.get hj;rw[hy]at j2;injection j2 with j2;subst j2;rcases h.tch_cases j1 hy ht with b|⟨n1,c1⟩
   ·left;have h1:j<k:=by
     apply Classical.byContradiction;intro hn;exact hr (h.born_none hj b (by omega))
    exact⟨fun _=>h1,fun _=>hi.known h hg hj b⟩
   ·obtain⟨chk,hp,hap⟩:=h.chk;rcases c1 with⟨cy,wy,sy,_⟩|⟨cy,l',e1,e2⟩
    ·rcases Jb8 hp hj hk hy hx hne wy cy hfree (by rw[Y8];exact ho)with ht|⟨ys,ha,hn,hs,hs',hm⟩
     ·exact .inr ht
     ·exfalso;obtain⟨s,hs1⟩:=List.exists_mem_of_ne_nil _ hn;obtain⟨t,ht1,ht2⟩:=hl ys ha;have e1:=h.fr_stable (i:=j) (j:=ops.size) (by omega) (Nat.le_refl _) (hs s hs1);have e2:=h.fr_stable (i:=k) (j:=ops.size) (by omega) (Nat.le_refl _) (hs' t ht1);exact JdF hap hm hs1 ht1 (by rw[e1];exact sy s hs1) (by rw[e2];exact ht2) rfl
    ·exfalso;obtain⟨ys,g1,g2,g3,g4,g5⟩:=Jg9 e1 hk hx (Ne.symm hne) hfree (by rw[Y8];exact ho);obtain⟨t,ht1,ht2⟩:=hl ys g1;have e3:=h.fr_stable (i:=k) (j:=j) (by omega) (by omega) (g4 t ht1);unfold still at e2;rw[List.all_eq_true]at e2;have e4:=e2 t (g5 t ht1);rw[e3,ht2]at e4;have e4:((F (j+1)).2.row r).time<(F j).2.t:=by simpa using e4
     have e5:=((h.mono1 hj (h.wf j (by omega))).row r ht).1;omega
theorem Inv.upto (h:Canon P γ₀ ρ base c₀ ops ntmps l self F)(hi:Inv γ₀ ρ base c₀ w₀ ops ntmps F S γ c a w)(r:Pt):∀n,n<=ops.size->∃m,m<=n/\∀j,j<n->tch F j r->(S j<->j<m)
 |0,_=>⟨0,Nat.le_refl _,fun j hj=>absurd hj (Nat.not_lt_zero _)⟩
 | n+1,hn=>by
   obtain⟨m,h1,h2⟩:=hi.upto h r n (by omega);by_cases ht:tch F n r
   ·by_cases hs:S n
    ·refine⟨n+1,Nat.le_refl _,fun j hj htj=>⟨fun _=>hj,fun _=> ?_⟩⟩;by_cases e:j=n
     ·subst e;exact hs
     ·exact hi.pre h (by omega) (by omega) htj ht hs
    ·refine⟨m,by omega,fun j hj htj=> ?_⟩;by_cases e:j=n
     ·subst e;exact⟨fun h=>absurd h hs,fun h=>by omega⟩
     ·exact h2 j (by omega) htj
   ·refine⟨m,by omega,fun j hj htj=> ?_⟩;by_cases e:j=n
    ·subst e;exact absurd htj ht
    ·exact h2 j (by omega) htj
theorem Canon.twin_step (h:Canon P γ₀ ρ base c₀ ops ntmps l self F){i k:Nat}{x y:Iop}(hi:i<ops.size)(hk:k<=ops.size)(hy:l[i]? =some y)(ht:JaV ops i k x y=true):evOp (F k).1 (F (i+1)).2 x=evOp (F k).1 (F i).2 x:=by
 obtain⟨oi,y',yi,i1,i2,i3,i4,i5⟩:=h.get hi;rw[hy]at i2;injection i2 with i2;subst i2;obtain⟨e,z,m,kk,e1,e2,s1,s2⟩:=qI ht;subst e1;subst e2;have key:∀s,YB ops (min i k) s=true->(F k).1 s=(F i).1 s:=fun s hs=>by
  have a1:=h.fr_stable (i:=min i k) (j:=k) (by omega) hk hs;have a2:=h.fr_stable (i:=min i k) (j:=i) (by omega) (by omega) hs;rw[a1,a2]
 obtain⟨v,_,h7⟩:=kn (fr':=(F (i+1)).1) (st':=(F (i+1)).2) i5;obtain⟨_,q2,_⟩:=Q7 i4;rcases h7 with h7|h7
 ·rw[h7]
 ·rw[q2]at h7;simp only[Iop.calls,Bool.and_false,Bool.false_eq_true,if_false]at h7;obtain⟨e,e1,e2⟩:=Jam rfl h7;rw[e2];exact JlL e1 (key m s1) (key kk s2)
theorem Ja4 {x:Iop}{fr:Fr}{i:Nat}:∀d,(∀j,i<=j->j<i+d->evOp fr (F (j+1)).2 x=evOp fr (F j).2 x)->evOp fr (F (i+d)).2 x=evOp fr (F i).2 x
 |0,_=>rfl
 |d+1,hj=>by rw[<-Ja4 d fun j h1 h2=>hj j h1 (by omega)];exact hj (i+d) (by omega) (by omega)
theorem JdH {fr:Fr}{l:List Nat}{s:Nat}{r:Pt}(h:rowOf (only l fr s)=some r):rowOf (fr s)=some r:=by
 unfold only at h
 split at h
 ·exact h
 ·cases h
theorem OpOK.any_st {st st':St}{v:V}{s:Sem Next}(h:OpOK P γ ρ base st c w v .no s):OpOK P γ ρ base st' c w v .no s:=by
 obtain⟨x,w',γ',h1,h2,h3,h4,h5,h6⟩:=h;exact⟨x,w',γ',h1,h2,h3,h4,fun r hr=>(h5 r hr).imp id (fun e=>by have:=e.2;cases this),h6⟩
theorem Jhb {st:St}{fr:Fr}{x:Iop}(h:∀r,(∀ys,x.aslots=some ys->∃s∈ys,rowOf (fr s)=some r)->γ r≠none->st.row r≠ .none->c r=st.row r):qz γ c st fr x:=by
 unfold qz
 split
 ·rename_i hn
  exact fun r h1 h2=>h r (fun ys hys=>by rw[hn]at hys;cases hys) h1 h2
 ·rename_i ys hys
  exact fun s hs r hr h1 h2=>h r (fun ys' hys'=>by rw[hys]at hys';injection hys' with e;subst e;exact⟨s,hs,hr⟩) h1 h2
theorem Inv.op (h:Canon P γ₀ ρ base c₀ ops ntmps l self F)(hi:Inv γ₀ ρ base c₀ w₀ ops ntmps F S γ c a w){k:Nat}{o:Oper}{x:Iop}(ho:ops[k]? =some o)(hx:l[k]? =some x)(hc:YA P o=some x)(hS:¬S k)(hSk:Closed ops fun i=>S i\/i=k)
  (hn:∀s∈x.slots,R γ ρ ((F k).1 s) (a.tmps.getD s undef)) {v:V} {e:Eff} (he:evOp (F k).1 (F k).2 x=some (v,e)) (hnx:e.makes=true->γ (F k).2.nx=none):
  OpOK P γ ρ base (F k).2 c w v e (execOp a.eval o):=by
 have hk:k<ops.size:=(Array.getElem?_eq_some_iff.1 ho).1;have hfr:FR γ ρ (only x.slots (F k).1) a:=by
  intro s;unfold only
  split
  ·rename_i hs;exact hn s hs
  ·trivial
 by_cases hA:qz γ c (F k).2 (only x.slots (F k).1) x
 ·exact JdC h.rho hc (by rw[Je6];exact he) hfr hi.rel hA hnx
 ·
  have hbad:∃r,(∀ys,x.aslots=some ys->∃s∈ys,rowOf ((F k).1 s)=some r)/\γ r≠none/\(F k).2.row r≠ .none/\c r≠(F k).2.row r:=by
   apply Classical.byContradiction;intro hno;refine hA (Jhb fun r h1 h2 h3=>Classical.byContradiction fun h4=>hno ⟨r,fun ys hys=> ?_,h2,h3,h4⟩);obtain⟨s,hs,hr⟩:=h1 ys hys;exact⟨s,hs,JdH hr⟩
  obtain⟨r,r1,r2,r3,r4⟩:=hbad;have hfree:x.free=false:=by
   cases hf:x.free with
   |false=>rfl
   | true=>
     obtain⟨s,hs,_⟩:=r1 [] (Jha hf)
     cases hs
  obtain⟨m,m1,m2⟩:=hi.upto h r ops.size (Nat.le_refl _);have hj:∃j,j<ops.size/\tch F j r/\¬(S j<->j<k):=by
   apply Classical.byContradiction;intro hno;refine r4 (hi.exact h (m:=k) (by omega) (fun j h1 h2=>Classical.byContradiction fun h3=>hno ⟨j,h1,h2,h3⟩) r2 r3)
  have twins:∀j y,j<ops.size->l[j]? =some y->tch F j r->¬(S j<->j<k)->JaV ops j k x y=true:=fun j y h1 hy h2 h3=>by
   have hne:j≠k:=fun e=>h3 (by subst e;exact⟨fun h=>absurd h hS,fun h=>absurd h (Nat.lt_irrefl _)⟩);exact(hi.look h hk h1 hx hy hne hS hSk hfree r2 r3 r1 h2).resolve_left h3
  obtain⟨j,j1,j2,j3⟩:=hj;obtain⟨_,yj,_,_,yj2,_⟩:=h.get j1;obtain⟨ek,z,ms,ks,e1,e2,_⟩:=qI (twins j yj j1 yj2 j2 j3);obtain⟨s,hs,hsr⟩:=r1 _ (by rw[e1];rfl);have hs:s=ms:=by simpa[Opd.slot]using hs
  subst hs;have step:∀i,min m k<=i->i<max m k->evOp (F k).1 (F (i+1)).2 x=evOp (F k).1 (F i).2 x:=fun i h1 h2=>by
   by_cases ht:tch F i r
   ·have hlt:i<ops.size:=by omega
    obtain⟨_,yi,_,_,yi2,_⟩:=h.get hlt;refine h.twin_step hlt (by omega) yi2 (twins i yi hlt yi2 ht fun hiff=> ?_);have:=hiff.symm.trans (m2 i hlt ht);omega
   ·rw[e1];exact Jmx (m:= .s s) hsr (Classical.byContradiction fun e=>ht e)
  have hsame:evOp (F k).1 (F m).2 x=evOp (F k).1 (F k).2 x:=by
   rcases Nat.le_total m k with hle|hle
   ·have:=Ja4 (F:=F) (x:=x) (fr:=(F k).1) (i:=m) (k-m) fun j h1 h2=>step j (by omega) (by omega);rw[show m+(k-m)=k by omega]at this;exact this.symm
   ·have:=Ja4 (F:=F) (x:=x) (fr:=(F k).1) (i:=k) (m-k) fun j h1 h2=>step j (by omega) (by omega);rw[show k+(m-k)=m by omega]at this;exact this
  have hno:e= .no:=by
   rw[e1]at he;simp only[evOp]at he
   repeat' (split at he)
   all_goals first
    |(cases he;done)
    |(injection he with he;injection he with _ he;exact he.symm)
  subst hno;refine OpOK.any_st (st:=(F m).2) (JdC h.rho hc (by rw[Je6,hsame];exact he) hfr hi.rel (Jhb fun q h1 h2 h3=> ?_) (fun e=>by cases e));obtain⟨s',hs',hr'⟩:=h1 _ (by rw[e1];rfl);have hs':s'=s:=by simpa[Opd.slot]using hs'
  subst hs';have:=JdH hr';rw[hsr]at this;injection this with this;subst this;exact hi.exact h m1 m2 h2 h3
end
section
variable {P : Program} {γ : Locs} {ρ : Nat -> Value} {base : Bs} {c : Pt -> Row} {w : World} {a : Act}
variable {γ₀ : Locs} {c₀ : Pt -> Row} {w₀ : World} {ops : Array Oper} {ntmps : Nat} {l : List Iop} {self : Self} {F : Nat -> Fr × St} {S : Nat -> Prop}
theorem Inv.next (h:Canon P γ₀ ρ base c₀ ops ntmps l self F)(hi:Inv γ₀ ρ base c₀ w₀ ops ntmps F S γ c a w){k:Nat}{o:Oper}{x:Iop}(ho:ops[k]? =some o)(hx:l[k]? =some x)(hd:∀d,o.dst=some d->d<ntmps)(hS:¬S k)(hSk:Closed ops fun i=>S i\/i=k)
  {v:V} {y:Value} {γ':Locs} {c':Pt->Row} {w':World} (hfr:(F (k+1)).1=put (F k).1 o.dst v) (p:Post γ ρ base c (F k).2 (F (k+1)).2 w v γ' c' y w'):
  Inv γ₀ ρ base c₀ w₀ ops ntmps F (fun i=>S i\/i=k) γ' c' (a.put o.dst y) w':=by
 have hk:k<ops.size:=(Array.getElem?_eq_some_iff.1 ho).1;refine⟨hSk,p.rel,hi.act.put _ _,hi.ext.trans p.ext,hi.below.trans p.below,fun t m hm hag=> ?_,fun r m hm hag hex=> ?_,fun r hno=> ?_,fun j r hj hs ht=> ?_,fun r hr=> ?_⟩
 ·by_cases e:o.dst=some t
  ·have hdk:qw ops k=some t:=by simp[qw,ho,e]
   have hkm:k<m:=(hag k hk hdk).1 (.inr rfl);have h1:(F m).1 t=(F (k+1)).1 t:=h.frame (by omega) hm fun j h1 h2 hdj=>by
    have hSj:S j:=((hag j (by omega) hdj).2 h2).resolve_right (by omega);have ho':=Jbv h.draw ho hx (k:=j) (by omega) (by omega) hdj (by simp[names,e]);have:=(Ja2 hi.closed hSk hS (by omega) ho').1 hSj;omega
   rw[h1,hfr,e,Jg8 hi.act (hd t e)];simpa[Eva.put]using p.val
  ·have h1:(a.put o.dst y).tmps.getD t undef=a.tmps.getD t undef:=by
    cases hdd:o.dst with
    |none=>rfl
    |some d=>exact Jmu (fun e'=>e (by rw[hdd,e'])) y
   rw[h1];exact(hi.slot t m hm fun j hj hdj=>by
    have hjk:j≠k:=fun e'=>e (by subst e';simpa[qw,ho]using hdj);have:=hag j hj hdj;exact⟨fun hs=>this.1 (.inl hs),fun hlt=>(this.2 hlt).resolve_right hjk⟩).ext p.ext
 ·by_cases ht:tch F k r
  ·have hkm:k<m:=(hag k hk ht).1 (.inr rfl);rw[p.upto r ht];exact(Ja3 (i:=k+1) (j:=m) (by omega) fun j h1 h2 htj=>by
    have hSj:S j:=((hag j (by omega) htj).2 h2).resolve_right (by omega);exact hS (hi.pre h (i:=k) (j:=j) (by omega) (by omega) ht htj hSj)).symm
  ·rw[p.same r (Classical.byContradiction fun e=>ht e)];obtain⟨j,j1,j2,j3⟩:=hex;refine hi.row r m hm (fun i h1 h2=> ?_) ⟨j,j1,j2.resolve_right (fun e=>ht (e▸j3)),j3⟩;have hik:i≠k:=fun e=>ht (e▸h2);have:=hag i h1 h2;exact⟨fun hs=>this.1 (.inl hs),fun hlt=>(this.2 hlt).resolve_right hik⟩
 ·have ht:¬tch F k r:=hno k hk (.inr rfl);rw[p.same r (Classical.byContradiction fun e=>ht e)];exact hi.rest r fun j h1 h2=>hno j h1 (.inl h2)
 ·rcases hs with hs|rfl
  ·have h1:=hi.made j r hj hs ht
   cases hg:γ r with
   |none=>exact absurd hg h1
   |some q=>rw[p.ext r q hg];simp
  ·have h1:=p.upto r ht;have h2:=((h.mono1 hj (h.wf _ (by omega))).row r ht).2;obtain⟨q,hq,_⟩:=p.rel.row r (by rw[h1];exact h2);rw[hq];simp
 ·rcases p.new r hr with g|g
  ·rcases hi.new r g with q|⟨j,j1,j2,j3⟩
   ·exact .inl q
   ·exact .inr ⟨j,j1, .inl j2,j3⟩
  ·exact .inr ⟨k,hk, .inr rfl,g⟩
theorem Inv.step (h:Canon P γ₀ ρ base c₀ ops ntmps l self F)(hi:Inv γ₀ ρ base c₀ w₀ ops ntmps F S γ c a w){k:Nat}{o:Oper}(ho:ops[k]? =some o)(hS:¬S k)(hSk:Closed ops fun i=>S i\/i=k){K:Act->World->Prop}{Q:Exit->Act->World->Prop}
  (hK:∀γ' c' a' w',Inv γ₀ ρ base c₀ w₀ ops ntmps F (fun i=>S i\/i=k) γ' c' a' w'->K a' w'):
  (if Region.wanted o (yielded ops a.tmps)then o.wp P a w K Q else K (a.put o.dst undef) w):=by
 obtain⟨x,y,hx,hc,hcomp,hev⟩:=h.op k o ho;have hk:k<ops.size:=(Array.getElem?_eq_some_iff.1 ho).1;have hnm:∀s∈names ops o x,R γ ρ ((F k).1 s) (a.tmps.getD s undef):=fun s hs=>hi.slot s k (by omega) fun j hj hdj=>by
  by_cases e:j=k
  ·subst e;exact⟨fun h=>absurd h hS,fun h=>absurd h (Nat.lt_irrefl _)⟩
  ·exact Ja2 hi.closed hSk hS e (Jbv h.draw ho hx hj e hdj hs)
 have hsl:∀s∈x.slots,R γ ρ ((F k).1 s) (a.tmps.getD s undef):=fun s hs=>hnm s (by unfold names;exact List.mem_append_right _ (List.mem_append_left _ hs));have hgs:∀s∈Jaf ops o,R γ ρ ((F k).1 s) (a.tmps.getD s undef):=fun s hs=>hnm s (by unfold names;exact List.mem_append_right _ (List.mem_append_right _ hs));obtain⟨q1,q2,q3,q4,q5⟩:=Q7 hcomp;have hw:=h.wf k (by omega);have hfresh:Yx γ (F k).2 (F (k+1)).2:=fun r h1 h2=>Classical.byContradiction fun hg=>hS (hi.known h hg hk ⟨h1,h2⟩);have hev':Qh self true (F k).1 (F k).2 y=some ((F (k+1)).1,(F (k+1)).2):=hev;rcases Je7 hcomp hev' hi.act hgs with⟨h1,v,h2,h3⟩|⟨h1,h2,h3⟩
 ·rw[h1,if_pos rfl];have fin:∀y γ' c' w',Post γ ρ base c (F k).2 (F (k+1)).2 w v γ' c' y w'->K (a.put o.dst y) w':=fun y γ' c' w' p=>hK _ _ _ _ (hi.next h ho hx q3 hS hSk h3 p)
  cases hcl:x.calls with
  | true=>
    simp only[hcl,Bool.and_self,if_true]at h2;obtain⟨st2,lo,g1,g2,g3,g4⟩:=jV h2;have hfull:Full γ c {(F k).2 with low:=(F k).2.t}:=fun r e1 e2=>hi.exact h (m:=k) (by omega) (fun j j1 j2=>by
     by_cases e:j=k
     ·subst e;exact⟨fun h=>absurd h hS,fun h=>absurd h (Nat.lt_irrefl _)⟩
     ·obtain⟨_,yj,_,_,yj2,_⟩:=h.get j1;refine(hi.look h hk j1 hx yj2 e hS hSk (YG hcl).1 e1 e2 (fun ys hys=>by rw[(YG hcl).2]at hys;cases hys) j2).resolve_right fun ht=> ?_;obtain⟨_,_,_,_,e3,_⟩:=qI ht;subst e3
      cases hcl) e1 e2
    have hfr:FR γ ρ (only x.slots (F k).1) a:=by
     intro s;unfold only
     split
     ·rename_i hs;exact hsl s hs
     ·trivial
    have hopd:∀z∈x.opds,∀xo,opd xo=some z->R γ ρ (z.ev (F k).1) (a.eval xo):=fun z hz xo hxo=>by
     have:=Jh hxo hfr
     rwa [Jj5 fun s hs=>by unfold Iop.slots;rw[List.mem_flatMap];exact⟨z,hz,hs⟩]at this
    have hfresh':Yx γ {(F k).2 with low:=(F k).2.t} st2:=fun r e1 e2=>hfresh r e1 (by rw[g2];exact e2);exact Jj7 h.hself hc hcl g1 (JD hw _) hopd hi.rel hfull hfresh' fun y γ' c' w' p=>fin y γ' c' w' (by rw[g2];exact⟨p.val,p.rel,p.ext,p.new,p.same,p.upto,p.below⟩)
  | false=>
    simp only[hcl,Bool.and_false,Bool.false_eq_true,if_false]at h2;obtain⟨e,e1,e2⟩:=Jam hcl h2;have hf2:=hfresh;rw[e2]at hf2;exact Jp4 hw (jy e1).1 (hi.op h ho hx hc hS hSk hsl e1 (Post.nofresh hf2)) fun y γ' c' w' p=>fin y γ' c' w' (by rw[e2];exact p)
 ·rw[h1,if_neg (by decide)];exact hK _ _ _ _ (hi.next h ho hx q3 hS hSk h3 ⟨⟨[],rfl,rfl⟩,hi.rel,Ext.refl _,fun _ k=> .inl k,fun _ _=>rfl,fun r e=>absurd (by rw[h2]) e,Below.refl _ _⟩)
theorem Inv.done (h:Canon P γ₀ ρ base c₀ ops ntmps l self F)(hi:Inv γ₀ ρ base c₀ w₀ ops ntmps F S γ c a w)(hall:∀i,i<ops.size->S i):
  At P γ ρ base ntmps (F ops.size).2 c w (F ops.size).1 a/\QQ γ₀ ρ base c₀ (F 0).2 (F ops.size).2 w₀ γ c w:=by
 have hag:∀k,k<ops.size->(S k<->k<ops.size):=fun k hk=>⟨fun _=>hk,fun _=>hall k hk⟩
 refine⟨⟨fun s=>hi.slot s _ (Nat.le_refl _) fun k hk _=>hag k hk,hi.act,hi.rel,fun r h1 h2=>hi.exact h (Nat.le_refl _) (fun k hk _=>hag k hk) h1 h2,h.wf _ (Nat.le_refl _)⟩,hi.rel,hi.ext,fun r hr=> ?_,fun r e=> ?_,fun r e=> ?_,hi.below⟩
 ·rcases hi.new r hr with g|⟨k,k1,k2,k3⟩
  ·exact .inl g
  ·exact .inr (h.born0 k1 k3)
 ·refine hi.rest r fun k hk _ ht=> ?_;have h1:=(h.mono1 hk (h.wf k (by omega))).row r ht;have h2:=(h.mono' (i:=0) (j:=k) (by omega) (by omega)).t;have h3:(F 0).2.t<=((F ops.size).2.row r).time/\(F ops.size).2.row r≠ .none:=by
   by_cases e':(F ops.size).2.row r=(F (k+1)).2.row r
   ·rw[e'];exact⟨by omega,h1.2⟩
   ·have h4:=(h.mono' (i:=k+1) (j:=ops.size) (by omega) (Nat.le_refl _)).row r e';have h5:=(h.mono' (i:=0) (j:=k+1) (by omega) (by omega)).t;exact⟨by omega,h4.2⟩
  rw[e]at h3;have:=h.wf0.t r h3.2;omega
 ·have hex:∃k,k<ops.size/\S k/\tch F k r:=Classical.byContradiction fun hno=>e (Ja3 (Nat.zero_le _) fun k _ h2 ht=>hno ⟨k,h2,hall k h2,ht⟩);exact hi.row r _ (Nat.le_refl _) (fun k hk _=>hag k hk) hex
theorem Jfa :∀{l:List Bool} {i:Nat},l[i]? =some false->(l.set i true).count false+1=l.count false
 |[],i,h=>by simp at h
 |b::l,0,h=>by simp at h;subst h;simp
 | b::l,i+1,h=>by
   have:=Jfa (l:=l) (i:=i) (by simpa using h);simp only[List.set_cons_succ,List.count_cons];omega
def QG (listed:Array Bool):Nat->Prop:=fun i=>listed.getD i false=true
theorem Jhc {listed:Array Bool}{i:Nat}(hi:i<listed.size):QG (listed.setIfInBounds i true)=fun j=>QG listed j\/j=i:=by
 funext j;apply propext;unfold QG;by_cases e:j=i
 ·subst e;simp[hi]
 ·simp[Array.getD_eq_getD_getElem?,Array.getElem?_setIfInBounds_ne (Ne.symm e),e]
theorem Jhd (h:JaT ops l=true){i:Nat}{o:Oper}(ho:ops[i]? =some o){e:Edge}(he:e∈o.after)(hb:Region.binds .any e=true):e.on<i:=by
 have hi:i<ops.size:=(Array.getElem?_eq_some_iff.1 ho).1;simp only[JaT,List.all_eq_true,List.mem_range]at h;have h1:=h i hi;simp only[ho]at h1
 split at h1
 ·rename_i o2 x2 he2 hx2
  injection he2 with he2;subst he2;simp only[Bool.and_eq_true]at h1;have h2:=Array.all_eq_true_iff_forall_mem.1 h1.1.1 e he;simpa[hb]using h2
 ·cases h1
theorem Inv.any (h:Canon P γ₀ ρ base c₀ ops ntmps l self F){Q:Exit->Act->World->Prop}
  (hQ:∀γ' c' a' w',At P γ' ρ base ntmps (F ops.size).2 c' w' (F ops.size).1 a'->QQ γ₀ ρ base c₀ (F 0).2 (F ops.size).2 w₀ γ' c' w'->Q .normal a' w'):
  ∀(fuel:Nat) {listed:Array Bool} {γ:Locs} {c:Pt->Row} {a:Act} {w:World},listed.size=ops.size->listed.toList.count false<=fuel->Inv γ₀ ρ base c₀ w₀ ops ntmps F (QG listed) γ c a w->wpAny P .any ops Q fuel listed a w:=by
 have all:∀{listed:Array Bool},listed.size=ops.size->Region.ready .any ops listed=[]->∀n i,i<n->i<ops.size->QG listed i:=by
  intro listed hs hr n
  induction n with
  |zero=>intro i h;exact absurd h (Nat.not_lt_zero _)
  | succ n ih=>
    intro i hin hi;by_cases e:i<n
    ·exact ih i e hi
    ·have e:i=n:=by omega
     subst e;apply Classical.byContradiction;intro hno;have hmem:i∈Region.ready .any ops listed:=by
      rw[mem_ready];refine⟨?_,ops[i],Array.getElem?_eq_getElem hi,fun e he hb=> ?_⟩
      ·unfold QG at hno;rw[Array.getD_eq_getD_getElem?,Array.getElem?_eq_getElem (by omega)]at hno⊢;simpa using hno
      ·have:=Jhd h.draw (Array.getElem?_eq_getElem hi) he hb;exact ih e.on this (by omega)
     rw[hr]at hmem
     cases hmem
 have fin:∀{listed:Array Bool} {γ:Locs} {c:Pt->Row} {a:Act} {w:World},listed.size=ops.size->Inv γ₀ ρ base c₀ w₀ ops ntmps F (QG listed) γ c a w->Region.ready .any ops listed=[]->Q .normal a w:=fun hs hi hr=>by
  have:=hi.done h fun i hlt=>all hs hr ops.size i hlt hlt;exact hQ _ _ _ _ this.1 this.2
 intro fuel
 induction fuel with
 | zero=>
   intro listed γ c a w hs hc hi;have hr:Region.ready .any ops listed=[]:=by
    apply List.eq_nil_iff_forall_not_mem.2;intro i hmem;obtain⟨h1,o,h2,_⟩:=mem_ready.1 hmem;have hi:i<ops.size:=(Array.getElem?_eq_some_iff.1 h2).1;rw[Array.getD_eq_getD_getElem?,Array.getElem?_eq_getElem (by omega)]at h1;have h1:listed[i]=false:=by simpa using h1
    have:0<listed.toList.count false:=List.count_pos_iff.2 (by rw[<-h1];simp);omega
   exact⟨hr,fin hs hi hr⟩
 | succ fuel ih=>
   intro listed γ c a w hs hc hi;refine⟨fun hr=>fin hs hi hr,fun i hmem=> ?_⟩;obtain⟨h1,o,h2,h3⟩:=mem_ready.1 hmem;have hlt:i<ops.size:=(Array.getElem?_eq_some_iff.1 h2).1;rw[Array.getD_eq_getD_getElem?,Array.getElem?_eq_getElem (by omega)]at h1;have h1:listed[i]'(by omega)=false:=by simpa using h1
   have hS:¬QG listed i:=by
    unfold QG;rw[Array.getD_eq_getD_getElem?,Array.getElem?_eq_getElem (by omega)];simp[h1]
   have hSk:Closed ops fun j=>QG listed j\/j=i:=by
    intro k ok hk hk2 e he hb;rcases hk2 with hk2|rfl
    ·exact .inl (hi.closed k ok hk hk2 e he hb)
    ·rw[h2]at hk;injection hk with hk;subst hk;exact .inl (h3 e he hb)
   have hcount:(listed.setIfInBounds i true).toList.count false<=fuel:=by
    have:=Jfa (l:=listed.toList) (i:=i) (by rw[Array.getElem?_toList,Array.getElem?_eq_getElem (by omega),h1]);rw[Array.toList_setIfInBounds];omega
   have main:=hi.step h h2 hS hSk (K:=wpAny P .any ops Q fuel (listed.setIfInBounds i true)) (Q:=Q) fun γ' c' a' w' hi'=>by
    have hi2:Inv γ₀ ρ base c₀ w₀ ops ntmps F (QG (listed.setIfInBounds i true)) γ' c' a' w':=by
     rw[Jhc (by omega)];exact hi'
    exact ih (by rw[Array.size_setIfInBounds];exact hs) hcount hi2
   unfold wpOp;simp only[h2]
   split
   ·rename_i hwn;rw[if_pos hwn]at main;exact .inl main
   ·rename_i hwn;rw[if_neg hwn]at main;exact main
theorem Jbx :∀{os:List Oper} {xs:List Iop} {is:List Ins} {k:Nat} {d:Bool},QB ops ntmps l d k os xs=some is->is.length=os.length/\∀i o,os[i]? =some o->∃x y,xs[i]? =some x/\is[i]? =some y/\kY ops ntmps l d (k+i) o x=some y
 |[],[],is,k,d,h=>by simp only[QB,Option.some.injEq]at h;subst h;exact⟨rfl,fun i o h=>by simp at h⟩
 |[],_::_,_,_,_,h=>by simp[QB]at h
 |_::_,[],_,_,_,h=>by simp[QB]at h
 | o::os,x::xs,is,k,d,h=>by
   simp only[QB]at h
   split at h
   ·rename_i y r hy hr
    injection h with h;subst h;obtain⟨h1,h2⟩:=Jbx hr;refine⟨by simp[h1],fun i o' ho=> ?_⟩
    cases i with
    |zero=>simp at ho;subst ho;exact⟨x,y,rfl,rfl,hy⟩
    | succ i=>
      obtain⟨x',y',a1,a2,a3⟩:=h2 i o' (by simpa using ho);exact⟨x',y',by simpa using a1,by simpa using a2,by rwa [show k+(i+1)=k+1+i by omega]⟩
   ·cases h
theorem Jhe {α β:Type}{f:α->Option β}:∀{os:List α} {xs:List β},os.mapM f=some xs->∀(i:Nat) (o:α),os[i]? =some o->∃x,xs[i]? =some x/\f o=some x
 |[],_,_,i,o,ho=>by simp at ho
 | a::os,xs,h,i,o,ho=>by
   rw[List.mapM_cons]at h
   cases h1:f a with
   |none=>simp[h1]at h
   | some v=>
     cases h2:os.mapM f with
     |none=>simp[h1,h2]at h
     | some vs=>
       simp[h1,h2]at h;subst h
       cases i with
       |zero=>simp at ho;subst ho;exact⟨v,rfl,h1⟩
       |succ i=>simpa using Jhe h2 i o (by simpa using ho)
theorem Jq5 (hself:Q0 P ρ base self)(hρ:∀i,(ρ i).oneCell'=true)(hm:P.follows .mixedOrders=true){id:Nat}{is:List Ins}{chk:List (List Nat×List Nat)}
  (hl:ops.toList.mapM (YA P)=some l) (hi:QB ops ntmps l true 0 ops.toList l=some is) (hd:JaT ops l=true) (hp:Jj0 ops l=some chk) {st st':St} {fr fr':Fr}
  (h:At P γ ρ base ntmps st c w fr a) (he:JU self true is fr st=some (fr',st')) (hap:JZ fr' chk=true) (hf:Yx γ st st') {Q:Exit->Act->World->Prop}
  (hQ:∀γ' c' a' w',At P γ' ρ base ntmps st' c' w' fr' a'->QQ γ ρ base c st st' w γ' c' w'->Q .normal a' w'):(Code.region id ops true).wp P Q a w:=by
 obtain⟨F,f1,f2,f3⟩:=trace he;obtain⟨g1,g2⟩:=Jbx hi;have hn:is.length=ops.size:=by simpa using g1
 rw[hn]at f2;have hcan:Canon P γ ρ base c ops ntmps l self F:=by
  refine⟨hself,hρ,fun i o ho=> ?_,by rw[f1];exact h.wf,hd,⟨chk,hp,by rw[f2];exact hap⟩,by rw[f1,f2];exact hf,by rw[f1];exact h.full⟩;obtain⟨x,y,a1,a2,a3⟩:=g2 i o (by simpa using ho);obtain⟨x',b1,b2⟩:=Jhe hl i o (by simpa using ho);rw[a1]at b1;injection b1 with b1;subst b1;exact⟨x,y,a1,b2,by rwa [Nat.zero_add]at a3,f3 i y a2⟩
 refine wp_region_any hm (Inv.any hcan (w₀:=w) (fun γ' c' a' w' h1 h2=> ?_) ops.size (γ:=γ) (c:=c) (by simp) (by simp) ?_)
 ·rw[f2]at h1 h2;rw[f1]at h2;exact hQ γ' c' a' w' h1 h2
 ·have no:∀i,¬QG (Array.replicate ops.size false) i:=fun i hi=>by
   unfold QG at hi;rw[Array.getD_eq_getD_getElem?,Array.getElem?_replicate]at hi
   split at hi<;>simp at hi
  refine⟨fun k o _ hk=>absurd hk (no k),h.rel.heap rfl,h.act,Ext.refl _, ?_,fun t m hm hag=> ?_,fun r m _ _ ⟨k,_,k2,_⟩=>absurd k2 (no k),fun _ _=>rfl,fun k r _ hk _=>absurd hk (no k),fun r hr=> .inl hr⟩
  ·exact⟨rfl,rfl,rfl,Nat.le_refl _,fun _ _=>rfl⟩
  ·rw[hcan.frame (i:=0) (j:=m) (Nat.zero_le _) hm fun k _ h2 hdk=>no k ((hag k (by omega) hdk).2 h2),f1];exact h.fr t
end
def Out.st :Out->St
 | .norm _ st=>st
 | .exit _ _ st=>st
 | .ret _ st=>st
def Out.fr :Out->Fr
 | .norm fr _=>fr
 | .exit _ fr _=>fr
 | .ret fr _=>fr
def Out.ex :Out->Exit
 | .norm _ _=> .normal
 | .exit i _ _=> .exit i
 | .ret _ _=> .ret
section
variable {P : Program} {γ : Locs} {ρ : Nat -> Value} {base : Bs} {st : St} {c : Pt -> Row} {w : World} {fr : Fr} {a : Act} {self : Self} {n : Nat}
theorem Jhf {draw:Bool}(hself:Q0 P ρ base self){x:Ins}{fr':Fr}{st':St}(he:Qh self draw fr st x=some (fr',st'))(hw:WF st):Mono st st':=by
 obtain⟨v,_,h7⟩:=kn he;rcases h7 with h7|h7
 ·rw[h7];exact Mono.refl hw
 ·split at h7
  ·exact JaM hself h7 hw
  ·exact YW hself h7 hw
theorem kF {draw:Bool}(hself:Q0 P ρ base self):∀{l:List Ins} {fr fr':Fr} {st st':St},JU self draw l fr st=some (fr',st')->WF st->Mono st st'
 | [],fr,fr',st,st',h,hw=>by
   simp only[JU,Option.some.injEq,Prod.mk.injEq]at h;rw[<-h.2];exact Mono.refl hw
 | x::l,fr,fr',st,st',h,hw=>by
   simp only[JU]at h
   split at h
   ·rename_i fr1 st1 h1
    have m1:=Jhf hself h1 hw;exact m1.trans (kF hself h m1.wf)
   ·cases h
theorem Ja5 {body:Fr->St->Option Out}{live:List Nat}(hb:∀fr st out,body fr st=some out->WF st->Mono st out.st):∀(k:Nat) {fr:Fr} {st:St} {out:Out},Yw body live k fr st=some out->WF st->Mono st out.st
 |0,_,_,_,h,_=>by cases h
 | k+1,fr,st,out,h,hw=>by
   simp only[Yw]at h
   split at h
   ·rename_i fr1 st1 h1
    have m1:=hb _ _ _ h1 hw;exact m1.trans (Ja5 hb k h m1.wf)
   ·exact hb _ _ _ h hw
theorem jA (hself:Q0 P ρ base self)(lf:Nat):∀(cc:C) {fr:Fr} {st:St} {out:Out},evD self lf cc fr st=some out->WF st->Mono st out.st:=by
 intro cc
 induction cc with
 |skip=>intro fr st out h hw;simp only[evD,Option.some.injEq]at h;subst h;exact Mono.refl hw
 | reg l=>
   intro fr st out h hw;simp only[evD]at h;obtain⟨⟨fr1,st1⟩,h1,h2⟩:=JA h;subst h2;exact kF hself h1 hw
 | drw l chk=>
   intro fr st out h hw;simp only[evD]at h
   split at h
   ·rename_i fr1 st1 h1
    split at h
    ·injection h with h;subst h;exact kF hself h1 hw
    ·cases h
   ·cases h
 | seq x y ihx ihy=>
   intro fr st out h hw;simp only[evD]at h
   split at h
   ·rename_i fr1 st1 h1
    have m1:=ihx h1 hw;exact m1.trans (ihy h m1.wf)
   ·exact ihx h hw
 | seqj live x y ihx ihy=>
   intro fr st out h hw;simp only[evD]at h
   split at h
   ·rename_i fr1 st1 h1
    have m1:=ihx h1 hw;exact m1.trans (ihy h m1.wf)
   ·exact ihx h hw
 | cond x y z ihy ihz=>
   intro fr st out h hw;simp only[evD]at h
   split at h
   ·split at h
    ·exact ihy h hw
    ·exact ihz h hw
   ·cases h
 | block id b ih=>
   intro fr st out h hw;simp only[evD]at h
   split at h
   ·rename_i i fr1 st1 h1
    split at h
    ·injection h with h;subst h;have m:=ih h1 hw;exact m
    ·injection h with h;subst h;have m:=ih h1 hw;exact m
   ·exact ih h hw
 | loop live b ih=>
   intro fr st out h hw;simp only[evD]at h;exact Ja5 (fun _ _ _ h1 h2=>ih h1 h2) lf h hw
 |exit id=>intro fr st out h hw;simp only[evD,Option.some.injEq]at h;subst h;exact Mono.refl hw
 |ret=>intro fr st out h hw;simp only[evD,Option.some.injEq]at h;subst h;exact Mono.refl hw
theorem At.restrict {live:List Nat}(h:At P γ ρ base n st c w fr a):At P γ ρ base n st c w (restrict live fr) a:=
 ⟨fun s=>by
  unfold Eva.restrict
  split
  ·exact h.fr s
  ·trivial,h.act,h.rel,h.full,h.wf⟩
def JdI (P:Program)(ρ:Nat->Value)(base:Bs)(n:Nat)(code:Code)(ev:Fr->St->Option Out):Prop:=
 ∀{γ:Locs} {c:Pt->Row} {w:World} {a:Act} {fr:Fr} {st:St} {out:Out} {Q:Exit->Act->World->Prop},At P γ ρ base n st c w fr a->ev fr st=some out->Yx γ st out.st->
  (∀γ' c' a' w',At P γ' ρ base n out.st c' w' out.fr a'->QQ γ ρ base c st out.st w γ' c' w'->Q out.ex a' w')->code.wp P Q a w
theorem Jj9 {code:Code}{ev:Fr->St->Option Out}(hm:∀fr st out,ev fr st=some out->WF st->Mono st out.st)(h:JdI P ρ base n code ev)(live:List Nat):∀(k:Nat) {γ:Locs} {c:Pt->Row} {w:World} {a:Act} {fr:Fr} {st:St} {out:Out} {Q:Exit->Act->World->Prop},
  At P γ ρ base n st c w fr a->Yw ev live k fr st=some out->Yx γ st out.st->(∀γ' c' a' w',At P γ' ρ base n out.st c' w' out.fr a'->QQ γ ρ base c st out.st w γ' c' w'->Q out.ex a' w')->Code.rounds P code Q k a w
 |0,_,_,_,_,_,_,_,_,_,he,_,_=>by cases he
 | k+1,γ,c,w,a,fr,st,out,Q,hat,he,hf,hQ=>by
   rw[rounds_succ];simp only[Yw]at he
   split at he
   ·rename_i fr1 st1 h1
    have m1:=hm _ _ _ h1 hat.wf;have m2:=Ja5 hm k he m1.wf;refine h hat h1 (hf.left m2) fun γ1 c1 a1 w1 at1 p1=> ?_;exact Jj9 hm h live k at1 he (hf.right m1 p1.new) fun γ' c' a' w' at2 p2=>hQ γ' c' a' w' at2 (p1.trans p2 m1 m2 hat.wf)
   ·rename_i hno
    refine h hat he hf fun γ' c' a' w' at' p'=> ?_;have:=hQ γ' c' a' w' at' p'
    cases out with
    |norm fr1 st1=>exact absurd he (hno fr1 st1)
    |exit i fr1 st1=>exact this
    |ret fr1 st1=>exact this
def keep :Option (List Nat)->Fr->Fr
 |none,fr=>fr
 |some l,fr=>restrict l fr
theorem Jmy {x y:Code}{ex ey:Fr->St->Option Out}{live:Option (List Nat)}(hx:JdI P ρ base n x ex)(hy:JdI P ρ base n y ey)(mx:∀fr st out,ex fr st=some out->WF st->Mono st out.st)(my:∀fr st out,ey fr st=some out->WF st->Mono st out.st):
  JdI P ρ base n (.seq x y) fun fr st=>match ex fr st with
   |some (.norm fr st)=>ey (keep live fr) st
   |r=>r:=by
 intro γ c w a fr st out Q hat he hf hQ;refine wp_seq ?_;simp only at he
 split at he
 ·rename_i fr1 st1 h1
  have m1:=mx _ _ _ h1 hat.wf;have m2:=my _ _ _ he m1.wf;refine hx hat h1 (hf.left m2) fun γ1 c1 a1 w1 at1 p1=> ?_;have at1':At P γ1 ρ base n st1 c1 w1 (keep live fr1) a1:=by
   cases live with
   |none=>exact at1
   |some l=>exact at1.restrict
  exact hy at1' he (hf.right m1 p1.new) fun γ' c' a' w' at2 p2=>hQ γ' c' a' w' at2 (p1.trans p2 m1 m2 hat.wf)
 ·rename_i hno
  refine hx hat he hf fun γ' c' a' w' at' p'=> ?_;have:=hQ γ' c' a' w' at' p'
  cases out with
  |norm fr1 st1=>exact absurd he (hno fr1 st1)
  |exit i fr1 st1=>exact this
  |ret fr1 st1=>exact this
theorem Jpb (hself:Q0 P ρ base self)(hρ:∀i,(ρ i).oneCell'=true)(hm:P.follows .mixedOrders=true)(lf:Nat):∀(code:Code) {hs hs':List (List Nat)} {cc:C},Q5 P n code hs=some (cc,hs')->JdI P ρ base n code (evD self lf cc):=by
 intro code
 induction code with
 | skip=>
   intro hs hs' cc hc γ c w a fr st out Q hat he hf hQ;simp only[Q5,Option.some.injEq,Prod.mk.injEq]at hc;rw[<-hc.1]at he;simp only[evD,Option.some.injEq]at he;subst he;exact wp_skip (hQ _ _ _ _ hat (QQ.refl hat.rel))
 | region id ops draw=>
   intro hs hs' cc hc γ c w a fr st out Q hat he hf hQ;simp only[Q5]at hc;obtain⟨cc',h1,h2⟩:=JA hc;injection h2 with h2 _;subst h2;unfold Jdq at h1
   split at h1
   ·rename_i l hl
    split at h1
    ·cases h1
    ·rename_i hd
     split at h1
     ·rename_i is his
      cases draw with
      | false=>
        simp only[Bool.false_eq_true,if_false,Option.some.injEq]at h1;subst h1;simp only[evD]at he;obtain⟨⟨fr1,st1⟩,e1,e2⟩:=JA he;subst e2;refine wp_region ?_;rw[List.range_eq_range',show ops.size=ops.toList.length by simp];exact Jmv hself hρ ops.toList l is 0 his (fun j o hj=>by simpa using hj) hl hat e1 hf fun γ' c' a' w' at' p'=>hQ γ' c' a' w' at' p'
      | true=>
        simp only[if_true]at h1;obtain⟨chk,hp,h2⟩:=JA h1;subst h2;simp only[evD]at he
        split at he
        ·rename_i fr1 st1 e1
         split at he
         ·rename_i hap
          injection he with he;subst he;exact Jq5 hself hρ hm hl his (by simpa using hd) hp hat e1 hap hf fun γ' c' a' w' at' p'=>hQ γ' c' a' w' at' p'
         ·cases he
        ·cases he
     ·cases h1
   ·cases h1
 | seq x y ihx ihy=>
   intro hs hs' cc hc;simp only[Q5]at hc
   split at hc
   ·split at hc
    ·cases hc
    ·rename_i live hs1
     split at hc
     ·rename_i x' hs2 hx
      split at hc
      ·rename_i y' hs3 hy
       injection hc with hc;injection hc with hc _;subst hc;exact Jmy (live:=none) (ihx hx) (ihy hy) (fun _ _ _ h1 h2=>jA hself lf x' h1 h2) (fun _ _ _ h1 h2=>jA hself lf y' h1 h2)
      ·cases hc
     ·cases hc
   ·split at hc
    ·rename_i x' hs2 hx
     split at hc
     ·rename_i y' hs3 hy
      injection hc with hc;injection hc with hc _;subst hc;exact Jmy (live:=none) (ihx hx) (ihy hy) (fun _ _ _ h1 h2=>jA hself lf x' h1 h2) (fun _ _ _ h1 h2=>jA hself lf y' h1 h2)
     ·cases hc
    ·cases hc
 | cond t x y ihx ihy=>
   intro hs hs' cc hc γ c w a fr st out Q hat he hf hQ;simp only[Q5]at hc
   split at hc
   ·rename_i t' ht
    split at hc
    ·rename_i x' hs2 hx
     split at hc
     ·rename_i y' hs3 hy
      injection hc with hc;injection hc with hc _;subst hc;have hr:=Jh ht hat.fr;simp only[evD]at he
      split at he
      ·rename_i b hb
       rw[hb]at hr;have hr:a.eval t= .bool b:=hr;refine wp_cond hr ?_
       cases b with
       |true=>exact ihx hx hat he hf hQ
       |false=>exact ihy hy hat he hf hQ
      ·cases he
     ·cases hc
    ·cases hc
   ·cases hc
 | block id b ih=>
   intro hs hs' cc hc γ c w a fr st out Q hat he hf hQ;simp only[Q5]at hc;obtain⟨⟨b',hs1⟩,hb,h2⟩:=JA hc;injection h2 with h2 _;subst h2;refine wp_block ?_;simp only[evD]at he
   split at he
   ·rename_i i fr1 st1 h1
    split at he
    ·rename_i hi
     injection he with he;subst he;refine ih hb hat h1 hf fun γ' c' a' w' at' p'=> ?_;have:=hQ γ' c' a' w' at' p';show Exit.inBlock id Q (.exit i) a' w';simp only[Exit.inBlock,hi,if_true];exact this
    ·rename_i hi
     injection he with he;subst he;refine ih hb hat h1 hf fun γ' c' a' w' at' p'=> ?_;have:=hQ γ' c' a' w' at' p';show Exit.inBlock id Q (.exit i) a' w';simp only[Exit.inBlock,hi,if_false];exact this
   ·rename_i hno
    refine ih hb hat he hf fun γ' c' a' w' at' p'=> ?_;have:=hQ γ' c' a' w' at' p'
    cases out with
    |norm fr1 st1=>exact this
    |exit i fr1 st1=>exact absurd he (hno i fr1 st1)
    |ret fr1 st1=>exact this
 | loop b ih=>
   intro hs hs' cc hc γ c w a fr st out Q hat he hf hQ;simp only[Q5]at hc
   split at hc
   ·cases hc
   ·rename_i live hs1
    obtain⟨⟨b',hs2⟩,hb,h2⟩:=JA hc;injection h2 with h2 _;subst h2;simp only[evD]at he;exact wp_loop_rounds lf (Jj9 (fun _ _ _ h1 h2=>jA hself lf b' h1 h2) (ih hb) live lf hat he hf hQ)
 | exit id=>
   intro hs hs' cc hc γ c w a fr st out Q hat he hf hQ;simp only[Q5,Option.some.injEq,Prod.mk.injEq]at hc;rw[<-hc.1]at he;simp only[evD,Option.some.injEq]at he;subst he;exact wp_exit (hQ _ _ _ _ hat (QQ.refl hat.rel))
 | ret=>
   intro hs hs' cc hc γ c w a fr st out Q hat he hf hQ;simp only[Q5,Option.some.injEq,Prod.mk.injEq]at hc;rw[<-hc.1]at he;simp only[evD,Option.some.injEq]at he;subst he;exact wp_ret (hQ _ _ _ _ hat (QQ.refl hat.rel))
 | rangeFunc g ps x y=>
   intro hs hs' cc hc γ c w a fr st out Q hat he hf hQ;simp only[Q5,Option.some.injEq,Prod.mk.injEq]at hc;rw[<-hc.1]at he;simp only[evD,Opd.ev]at he
   cases he
 |_=>intro hs hs' cc hc;simp[Q5]at hc
end
def Qs (P:Program)(ρ:Nat->Value)(base:Bs)(f:Nat)(b:Self->List V->St->Option (V×St)):Prop:=
 ∀ self, Q0 P ρ base self -> ∀ args st v st', b self args st = some (v, st') -> WF st -> Mono st st' /\ (∃ fn, P.funcs[f]? = some fn /\ fn.body.isSome = true /\ fn.name ≠ "runtime.NumGoroutine") /\
  ∀γ c w xs,RL γ ρ args xs->Rel γ ρ base c w->Full γ c st->Yx γ st st'->
   Calls P f xs.toArray w fun e w'=>∃y γ' c',e= .returned y/\Post γ ρ base c st st' w v γ' c' y w'
theorem Jmz {P:Program}{ρ:Nat->Value}{base:Bs}{T:Table}(h:∀f b,T f=some b->Qs P ρ base f b):∀n,Q0 P ρ base (run T n)
 |0=>fun f args st v st' he _=>by cases he
 | n+1=>fun f args st v st' he hw=>by
   simp only[run]at he
   split at he
   ·rename_i b hb
    exact h f b hb (run T n) (Jmz h n) args st v st' he hw
   ·cases he
section
variable {P : Program} {γ : Locs} {ρ : Nat -> Value} {base : Bs} {st : St} {c : Pt -> Row} {w : World} {fr : Fr} {a : Act} {self : Self} {n : Nat}
theorem Jq6 (h:At P γ ρ base n st c w fr a){r:ResultVar}{s:RS}(hc:kZ P r=some s){v:V}(hv:QA fr st s=some v):
  ∃y,((match r with
   | .tmp t=>pure (a.tmps.getD t undef)
   | .cell p t=>do loadVar t (<-asAddr (a.tmps.getD p undef))):Sem Value).run P w= .ok y w/\R γ ρ v y:=by
 cases r with
 | tmp t=>
   simp only[kZ,Option.some.injEq]at hc;subst hc;simp only[QA,Option.some.injEq]at hv;subst hv;exact⟨_,rfl,h.fr t⟩
 | cell p t=>
   simp only[kZ]at hc
   split at hc
   ·rename_i n' hg hn
    injection hc with hc;subst hc;simp only[QA]at hv;obtain⟨l,h1,h2⟩:=JA hv;subst h2;obtain⟨ad,ys,e1,e2,e3⟩:=YU (P:=P) h.rel (h.fr p) (fun r _ k1 k2=>h.full r k1 k2) h1;refine⟨.agg ys.toArray, ?_,⟨ys,rfl,e2⟩⟩;simp only[e1,asAddr,Sem.run_bind,Sem.run_pure,Result.andThen_ok,qx hg hn e3]
   ·rename_i hg
    injection hc with hc;subst hc;simp only[QA]at hv
    split at hv
    ·rename_i u h1
     injection hv with hv;subst hv;obtain⟨ad,ys,e1,e2,e3⟩:=YU (P:=P) h.rel (h.fr p) (fun r _ k1 k2=>h.full r k1 k2) h1;obtain⟨y,ys',e4,e5,e6⟩:=e2;simp only[RL]at e6;subst e6;subst e4;refine⟨y, ?_,e5⟩;simp only[e1,asAddr,Sem.run_bind,Sem.run_pure,Result.andThen_ok,qy hg (JgY e3)]
    ·cases hv
   ·cases hc
theorem Jka (h:At P γ ρ base n st c w fr a):∀{rs:List ResultVar} {ss:List RS} {vs:List V},rs.mapM (kZ P)=some ss->ss.mapM (QA fr st)=some vs->
  ∃ys,(rs.mapM fun r=>((match r with
   | .tmp t=>pure (a.tmps.getD t undef)
   | .cell p t=>do loadVar t (<-asAddr (a.tmps.getD p undef))):Sem Value)).run P w= .ok ys w/\RL γ ρ vs ys
 | [],ss,vs,h1,h2=>by
   simp at h1;subst h1;simp at h2;subst h2;exact⟨[],by simp,rfl⟩
 | r::rs,ss,vs,h1,h2=>by
   rw[List.mapM_cons]at h1
   cases hc:kZ P r with
   |none=>simp[hc]at h1
   | some s=>
     cases hcs:rs.mapM (kZ P)with
     |none=>simp[hc,hcs]at h1
     | some ss'=>
       simp[hc,hcs]at h1;subst h1;rw[List.mapM_cons]at h2
       cases hv:QA fr st s with
       |none=>simp[hv]at h2
       | some v=>
         cases hvs:ss'.mapM (QA fr st)with
         |none=>simp[hv,hvs]at h2
         | some vs'=>
           simp[hv,hvs]at h2;subst h2;obtain⟨y,e1,e2⟩:=Jq6 h hc hv;obtain⟨ys,e3,e4⟩:=Jka h hcs hvs;refine⟨y::ys, ?_,y,ys,rfl,e2,e4⟩;rw[List.mapM_cons,Sem.run_bind,e1,Result.andThen_ok,Sem.run_bind,e3,Result.andThen_ok,Sem.run_pure]
theorem Jjm (h:At P γ ρ base n st c w fr a){f:Func}{rs:List RS}(hc:f.results.toList.mapM (kZ P)=some rs){v:V}(hv:KB rs fr st=some v):∃y,(results f a.tmps).run P w= .ok y w/\R γ ρ v y:=by
 unfold KB at hv;have main:∀vs,rs.mapM (QA fr st)=some vs->∃ys,(results f a.tmps).run P w= .ok (if h:ys.toArray.size=1 then ys.toArray[0]else .tuple ys.toArray) w/\RL γ ρ vs ys:=fun vs hvs=>by
  obtain⟨ys,e1,e2⟩:=Jka h hc hvs;refine⟨ys, ?_,e2⟩;unfold results;rw[Sem.run_bind,Array.mapM_eq_mapM_toList];simp only[map_eq_pure_bind,Sem.run_bind];erw [e1];simp only[Result.andThen_ok,Sem.run_pure]
 split at hv
 ·rename_i u hu
  injection hv with hv;subst hv;obtain⟨ys,e1,y,ys',e2,e3,e4⟩:=main _ hu;simp only[RL]at e4;subst e4;subst e2;exact⟨y,by rw[e1];simp,e3⟩
 ·rename_i vs hn hu
  injection hv with hv;subst hv;obtain⟨ys,e1,e2⟩:=main _ hu;have hl:=e2.length;refine⟨.tuple ys.toArray, ?_,⟨ys,rfl,e2⟩⟩;rw[e1];have:¬ys.toArray.size=1:=fun e=>by
   have:vs.length=1:=by rw[<-hl];simpa using e
   obtain⟨u,hu'⟩:=List.length_eq_one_iff.1 this;exact hn u hu'
  rw[dif_neg this]
 ·cases hv
theorem Jpc {args:List V}{xs:List Value}(h:RL γ ρ args xs){k:Nat}:FR γ ρ (Yg args) {tmps:=xs.toArray++Array.replicate k undef,defers:=[]}:=by
 intro i;unfold Yg;have hl:=h.length
 cases hv:args[i]? with
 | some v=>
   obtain⟨x,hx,hr⟩:=h.get hv;have:(xs.toArray++Array.replicate k undef).getD i undef=x:=by
    have hi:i<xs.length:=(List.getElem?_eq_some_iff.1 hx).1;rw[Array.getD_eq_getD_getElem?,Array.getElem?_append_left (by simpa using hi)];simp[hx]
   simp only[Option.getD_some,this];exact hr
 | none=>
   have hi:xs.length<=i:=by rw[hl];exact List.getElem?_eq_none_iff.1 hv
   have:(xs.toArray++Array.replicate k undef).getD i undef=undef:=by
    rw[Array.getD_eq_getD_getElem?,Array.getElem?_append_right (by simpa using hi),Array.getElem?_replicate]
    split<;>rfl
   simp only[Option.getD_none,this];exact⟨[],rfl,rfl⟩
theorem JrU (hρ : ∀ i, (ρ i).oneCell' = true) (hm : P.follows .mixedOrders = true) {f : Nat} {fn : Func} {hs : List (List Nat)} {cf : Fn} (h1 : P.funcs[f]? = some fn) (h2 : Jgc P fn hs = some cf) (h3 : fn.name ≠ "runtime.NumGoroutine") (lf : Nat) :
  Qs P ρ base f (evFn lf cf):=by
 intro self hself args st v st' he hw;unfold Jgc at h2
 split at h2
 ·rename_i code rs hbody hrs
  split at h2
  ·rename_i hle
   split at h2
   ·rename_i cc hs' hcc
    injection h2 with h2;subst h2;have key:∃out,evD self lf cc (Yg args) st=some out/\(out.ex= .normal\/out.ex= .ret)/\KB rs out.fr out.st=some v/\st'=out.st:=by
     unfold evFn at he;simp only at he
     split at he
     ·rename_i fr1 st1 h5
      obtain⟨v',h6,h7⟩:=JA he;injection h7 with h7 h8;exact⟨_,h5, .inl rfl,by rw[h7]at h6;exact h6,h8.symm⟩
     ·rename_i fr1 st1 h5
      obtain⟨v',h6,h7⟩:=JA he;injection h7 with h7 h8;exact⟨_,h5, .inr rfl,by rw[h7]at h6;exact h6,h8.symm⟩
     ·cases he
    obtain⟨out,k1,k2,k3,k4⟩:=key;subst k4;refine⟨jA hself lf cc k1 hw,⟨fn,h1,by rw[hbody];rfl,h3⟩,fun γ c w xs hx hrel hfull hfresh=> ?_⟩;refine calls_of_wp h1 hbody ?_;refine Jpb hself hρ hm lf code hcc (out:=out) ⟨Jpc hx,⟨?_,rfl⟩,hrel,hfull,hw⟩ k1 hfresh fun γ' c' a' w' at' p'=> ?_
    ·simp only[Array.size_append,Array.size_replicate];omega
    ·obtain⟨y,e1,e2⟩:=Jjm at' hrs k3;have fin:a'.defers=[]/\∃v,(results fn a'.tmps).run P w'= .ok v w'/\∃y γ'' c'',Ending.returned v= .returned y/\Post γ ρ base c st out.st w ‹V› γ'' c'' y w':=
      ⟨at'.act.defers,y,e1,y,γ',c',rfl,e2,p'.rel,p'.ext,p'.new,p'.same,p'.upto,p'.below⟩
     rcases k2 with k2|k2<;>rw[k2]<;>exact fin
   ·cases h2
  ·cases h2
 ·cases h2
end
section
variable {P : Program} {γ : Locs} {ρ : Nat -> Value} {base : Bs} {c : Pt -> Row} {w : World}
theorem Ql.below {l:Loc}{row:Row}{w':World}(hb:w'.heap[l.b]? =w.heap[l.b]?)(k:Ql γ ρ l row w):Ql γ ρ l row w':=k.ext (Ext.refl _) hb
theorem Rel.below (h:Rel γ ρ base c w){w':World}(hb:Below w.heap.size w w'):Rel γ ρ base c w':=by
 have hs:=hb.size;refine⟨by have:=h.low;omega,fun b k=> ?_,fun r l k=> ?_,fun r k=> ?_,h.one,h.sep,h.ro⟩
 ·rw[<-h.glob b k];exact hb.block b (by have:=h.low;omega)
 ·have:=h.loc r l k;exact⟨this.1,by omega⟩
 ·obtain⟨l,a,b⟩:=h.row r k;exact⟨l,a,b.below (hb.block l.b (h.loc r l a).2)⟩
theorem Jkb {f : Nat} {fn : Func} (h1 : P.funcs[f]? = some fn) (h2 : fn.body.isSome = true) (h3 : fn.name ≠ "runtime.NumGoroutine") {g : List V -> Option V}
  (hc:∀args v,g args=some v->∀γ c w xs,RL γ ρ args xs->Rel γ ρ base c w->Calls P f xs.toArray w fun e w'=>∃y,e= .returned y/\R γ ρ v y/\Below w.heap.size w w'):
  Qs P ρ base f fun _ args st=>match g args with
   |some v=>some (v,st)
   |none=>none:=by
 intro self _ args st v st' he hw;have he:(match g args with
  |some v=>some (v,st)
  |none=>none)=some (v,st'):=he
 split at he
 ·rename_i u hg
  injection he with he;injection he with e1 e2;subst e1;subst e2;refine⟨Mono.refl hw,⟨fn,h1,h2,h3⟩,fun γ c w xs hx hrel _ _=> ?_⟩;refine(hc args u hg γ c w xs hx hrel).mono fun e w' ⟨y,e1,e2,e3⟩=> ?_;exact⟨y,γ,c,e1,e2,hrel.below e3,Ext.refl _,fun _ k=> .inl k,fun _ _=>rfl,fun _ k=>absurd rfl k,e3.mono hrel.low⟩
 ·cases he
def Pt.nth :Nat->Pt
 |0=> .h
 |n+1=>(Pt.nth n).suc
theorem Pt.num_nth :∀n,(Pt.nth n).num=n
 |0=>rfl
 |n+1=>by rw[Pt.nth,Pt.num_suc,Pt.num_nth n]
def rosR :List (List V)->St
 |[]=>St.start
 |l::r=>(rosR r).new fun _=> .ro l
theorem Jby :∀L,(rosR L).nx=Pt.nth L.length
 |[]=>rfl
 |_::r=>by show((rosR r).nx).suc=_;rw[Jby r];rfl
theorem JmA :∀L,(rosR L).t=L.length
 |[]=>rfl
 |_::r=>by show(rosR r).t+1=_;rw[JmA r];rfl
theorem jB :∀(L:List (List V)) (r:Pt),(rosR L).row r=if r.num<L.length then .ro (L.getD (L.length-1-r.num) [])else .none
 |[],r=>by simp[rosR,St.row,St.start]
 | l::L,r=>by
   show((rosR L).new fun _=> .ro l).row r=_;rw[St.row_new];by_cases e:r=(rosR L).nx
   ·subst e;rw[Jp,Jby,Pt.num_nth];simp
   ·have hne:r.num≠L.length:=fun h=>e (by rw[Jby];exact Pt.num_inj (by rw[Pt.num_nth,h]));rw[Jt _ _ e,jB L r];by_cases h:r.num<L.length
    ·rw[if_pos h,if_pos (by simp;omega)];congr 1;rw[List.length_cons,show L.length+1-1-r.num=(L.length-1-r.num)+1 by omega,List.getD_cons_succ]
    ·rw[if_neg h,if_neg (by simp;omega)]
theorem Jkc (L:List (List V)):WF (rosR L):=by
 refine⟨fun r h=> ?_,fun r h=> ?_⟩
 ·rw[jB]at h;rw[Jby,Pt.num_nth]
  split at h
  ·assumption
  ·exact absurd rfl h
 ·rw[jB]at h⊢;rw[JmA]
  split at h
  ·rename_i hl;rw[if_pos hl];show 0<L.length;omega
  ·exact absurd rfl h
def rosG (n:Nat)(locs:Nat->Loc):Locs:=fun r=>if r.num<n then some (locs r.num)else none
theorem Jgm {T:Table}{w:World}(h:∀f b,T f=some b->Qs P ρ ⟨w.heap.size,w⟩ f b){L:List (List V)}{locs:Nat->Loc}
  (hl:∀i,i<L.length->Ql (rosG L.length locs) ρ (locs i) (.ro (L.getD (L.length-1-i) [])) w/\(locs i).b<w.heap.size)
  {n f:Nat} {args:List V} {v:V} {st':St} (he:run T n f args (rosR L)=some (v,st')) {xs:List Value} (hx:RL (rosG L.length locs) ρ args xs):
  Calls P f xs.toArray w fun e w'=>∃y γ',e= .returned y/\R γ' ρ v y/\Below w.heap.size w w':=by
 have hro:∀r l,rosG L.length locs r=some l->r.num<L.length/\l=locs r.num:=fun r l k=>by
  unfold rosG at k
  split at k
  ·injection k with k;exact⟨‹_›,k.symm⟩
  ·cases k
 have hrow:∀r,r.num<L.length->(rosR L).row r= .ro (L.getD (L.length-1-r.num) []):=fun r k=>by rw[jB,if_pos k]
 obtain⟨_,_,h3⟩:=Jmz h n f args (rosR L) v st' he (Jkc L);refine(h3 (rosG L.length locs) (rosR L).row w xs hx ⟨Nat.le_refl _,fun _ _=>rfl,fun r l k=> ?_,fun r k=> ?_,fun r l k k2=> ?_,fun r q lr lq _ k1 _ a1 _=> ?_,fun r l k _=> ?_⟩ (fun r _ _=>rfl) fun r k1 _=> ?_).mono fun e w' ⟨y,γ',c',e1,e2⟩=> ?_
 ·obtain⟨k1,rfl⟩:=hro r l k;exact⟨fun e=>(by rw[hrow r k1]at e;cases e),(hl _ k1).2⟩
 ·rw[jB]at k
  split at k
  ·rename_i k1
   refine⟨locs r.num,by unfold rosG;rw[if_pos k1], ?_⟩;rw[hrow r k1];exact(hl _ k1).1
  ·exact absurd rfl k
 ·obtain⟨k1,_⟩:=hro r l k;rw[hrow r k1]at k2;exact k2.elim
 ·obtain⟨k2,_⟩:=hro r lr k1;rw[hrow r k2]at a1;exact a1.elim
 ·obtain⟨k1,rfl⟩:=hro r l k;exact(hl _ k1).2
 ·rw[Jby,Pt.num_nth]at k1;unfold rosG;rw[if_neg (by omega)]
 ·exact⟨y,γ',e1,e2.val,e2.below⟩
end
def Jfb (m n' v':Nat):Nat->Nat->Nat->Option Nat
 |0,_,_=>none
 |fuel+1,i,v=>if v%m=v' then some i else Jfb m n' v' fuel (i+1) (v/256)
def JdJ (n v n' v':Nat):Option Nat:=if n'<=n then Jfb (2^(8*n')) n' v' (n+1-n') 0 v else none
theorem JdK {n' v':Nat}{s sub:List UInt8}(hs:sub.length=n')(hv:snum sub=v'):∀(fuel i:Nat),i+fuel+n'<=s.length+1->
  (∀k,Jfb (2^(8*n')) n' v' fuel i (snum (s.drop i))=some k->i<=k/\k+n'<=s.length/\Lib.occAt s sub k=true/\∀j,i<=j->j<k->Lib.occAt s sub j=false)/\
  (Jfb (2^(8*n')) n' v' fuel i (snum (s.drop i))=none->∀j,i<=j->j<i+fuel->Lib.occAt s sub j=false)
 |0,i,_=>⟨fun k h=>by simp[Jfb]at h,fun _ j h1 h2=>by omega⟩
 | fuel+1,i,hle=>by
   have hocc:(snum (s.drop i)%2^(8*n')=v')<->Lib.occAt s sub i=true:=by
    rw[two8,Je0,Lib.occAt_iff_take s sub i (by omega),hs];constructor
    ·intro h;have hl:((s.drop i).take n').length=sub.length:=by rw[List.length_take,List.length_drop];omega
     have:=jv hl (by rw[h,hv]);rw[this];simp
    ·intro h;have h:(s.drop i).take n'=sub:=by simpa using h
     rw[h,hv]
   have hnext:snum (s.drop i)/256=snum (s.drop (i+1)):=by
    have:=Jag (s.drop i) 1;rw[List.drop_drop]at this;simpa using this
   obtain⟨ih1,ih2⟩:=JdK (s:=s) (sub:=sub) hs hv fuel (i+1) (by omega);simp only[Jfb];by_cases h:snum (s.drop i)%2^(8*n')=v'
   ·rw[if_pos h];refine⟨fun k hk=> ?_,fun hk=>by cases hk⟩;injection hk with hk;subst hk;exact⟨Nat.le_refl _,by omega,hocc.1 h,fun j h1 h2=>by omega⟩
   ·rw[if_neg h,hnext];have hf:Lib.occAt s sub i=false:=by
     cases ho:Lib.occAt s sub i with
     |false=>rfl
     |true=>exact absurd (hocc.2 ho) h
    refine⟨fun k hk=> ?_,fun hk j h1 h2=> ?_⟩
    ·obtain⟨a,b,d,e⟩:=ih1 k hk;refine⟨by omega,b,d,fun j h1 h2=> ?_⟩;by_cases ej:j=i
     ·rw[ej];exact hf
     ·exact e j (by omega) h2
    ·by_cases ej:j=i
     ·rw[ej];exact hf
     ·exact ih2 hk j (by omega) (by omega)
theorem JcM (s sub:List UInt8):Lib.index s sub=match JdJ s.length (snum s) sub.length (snum sub)with
  |some i=>(i:Int)
  |none=> -1:=by
 unfold JdJ;by_cases hle:sub.length<=s.length
 ·rw[if_pos hle];obtain⟨h1,h2⟩:=JdK (s:=s) (sub:=sub) rfl rfl (s.length+1-sub.length) 0 (by omega);rw[List.drop_zero]at h1 h2
  split
  ·rename_i k hk
   obtain⟨a,b,d,e⟩:=h1 k hk;exact Lib.index_first (by omega) d fun j hj=>e j (Nat.zero_le _) hj
  ·rename_i hk
   refine Lib.index_none fun j hj=> ?_;by_cases hj2:j<s.length+1-sub.length
   ·exact h2 hk j (Nat.zero_le _) (by omega)
   ·cases ho:Lib.occAt s sub j with
    |false=>rfl
    | true=>
      rcases Lib.occAt_room ho with h|h
      ·omega
      ·subst h;simp at hj2;omega
 ·rw[if_neg hle];refine Lib.index_none fun j hj=> ?_
  cases ho:Lib.occAt s sub j with
  |false=>rfl
  | true=>
    rcases Lib.occAt_room ho with h|h
    ·omega
    ·subst h;simp at hle
def Q9 :List V->Option V
 |[.str n v, .str n' v']=>if n<4294967281 then some (.bool (JdJ n v n' v').isSome)else none
 |_=>none
theorem JmB {γ:Locs}{ρ:Nat->Value}{n v n' v':Nat}{xs:List Value}(h:RL γ ρ [.str n v, .str n' v'] xs):
  ∃s t:ByteArray,xs=[.string s, .string t]/\s.data.toList.length=n/\snum s.data.toList=v/\t.data.toList.length=n'/\snum t.data.toList=v':=by
 obtain⟨y,ys,e1,⟨s,e2,e3,e4⟩,y',ys',e5,⟨t,e6,e7,e8⟩,e9⟩:=h;simp only[RL]at e9;subst e9;subst e6;subst e5;subst e2;subst e1;exact⟨s,t,rfl,e3,e4,e7,e8⟩
section
variable {P : Program} {ρ : Nat -> Value} {base : Bs}
theorem Jhg {f : Nat} {fn : Func} (h1 : P.funcs[f]? = some fn) (h2 : fn.body.isSome = true) (h3 : fn.name ≠ "runtime.NumGoroutine") {g : Nat} {m : Int} (hg : g < base.n) (hm : base.w.cell? ⟨g, 0, none⟩ = some (.int .i64 m))
  (hc:∀(s sub:ByteArray) (m:Int) (w:World),s.size<4294967281->w.cell? ⟨g,0,none⟩=some (.int .i64 m)->Calls P f #[.string s, .string sub] w fun e w'=>e= .returned (.bool (Lib.contains s.data.toList sub.data.toList))/\w'=w):
  Qs P ρ base f fun _ args st=>match Q9 args with
   |some v=>some (v,st)
   |none=>none:=
 Jkb h1 h2 h3 fun args v hv γ c w xs hx hrel=>by
  unfold Q9 at hv
  split at hv
  ·rename_i n a n' a'
   split at hv
   ·rename_i hn
    obtain⟨s,t,e1,e2,e3,e4,e5⟩:=JmB hx;subst e1;have hcell:w.cell? ⟨g,0,none⟩=some (.int .i64 m):=by
     rw[<-hm];exact World.cell?_of_block (w:=base.w) (hrel.glob g hg)
    refine(hc s t m w (by rw[<-ByteArray.size_data,<-Array.length_toList];omega) hcell).mono fun e w' ⟨k1,k2⟩=> ?_;refine⟨_,k1, ?_,by rw[k2];exact Below.refl _ _⟩;injection hv with hv;subst hv;unfold Lib.contains;rw[JcM,e2,e3,e4,e5];show Value.bool _=Value.bool _
    cases hi:JdJ n a n' a' with
    |some i=>simp
    |none=>simp
   ·cases hv
  ·cases hv
end
end Eva
