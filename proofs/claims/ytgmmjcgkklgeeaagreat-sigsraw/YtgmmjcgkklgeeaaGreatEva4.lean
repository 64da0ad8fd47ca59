/- An evaluator of the model's code, proved to tell what the model does. All operations th -/
import Derived.Test.YtgmmjcgkklgeeaaGreatEva3
set_option linter.unusedVariables false
set_option linter.unusedSimpArgs false
set_option linter.unusedSectionVars false
namespace Eva
open Go Go.RowKit
section
variable {P : Program} {γ : Locs} {ρ : Nat -> Value} {base : Bs} {st : St} {c : Pt -> Row} {w : World} {fr : Fr} {a : Act}
theorem qz.look {i:Iop}(h:qz γ c st fr i){l:List Nat}(hl:i.aslots=some l){xo:Operand}{x:Opd}(hx:opd xo=some x)(hs:∀s∈x.slot,s∈l):
  ∀r,rowOf (x.ev fr)=some r->γ r≠none->st.row r≠ .none->c r=st.row r:=by
 intro r hr;obtain⟨s,e1,e2⟩:=JoS hx hr;unfold qz at h;rw[hl]at h;exact h s (hs s (by rw[e1];simp)) r (by rw[<-e2];exact hr)
theorem Jbt {l:Array Operand}{x y:Opd}(h:opds l=some [x,y]):∃xo yo,l= #[xo,yo]/\opd xo=some x/\opd yo=some y:=by
 unfold opds at h;rcases l with⟨l⟩
 rcases l with _|⟨p,_|⟨q,_|⟨r,l⟩⟩⟩
 ·simp at h
 ·cases h1:opd p<;>simp[h1]at h
 ·cases h1:opd p with
  |none=>simp[h1]at h
  | some x'=>
    cases h2:opd q with
    |none=>simp[h1,h2]at h
    | some y'=>
      simp[h1,h2]at h;obtain⟨e1,e2⟩:=h;exact⟨p,q,rfl,by rw[h1,e1],by rw[h2,e2]⟩
 ·exfalso;simp only[List.mapM_cons]at h
  cases h1:opd p<;>cases h2:opd q<;>cases h3:opd r<;>cases h4:l.mapM opd<;>simp[h1,h2,h3,h4]at h
theorem JdB {l:Array Operand}{x:Opd}(h:opds l=some [x]):∃xo,l= #[xo]/\opd xo=some x:=by
 unfold opds at h;rcases l with⟨l⟩
 rcases l with _|⟨p,_|⟨q,l⟩⟩
 ·simp at h
 ·cases h1:opd p with
  |none=>simp[h1]at h
  |some x'=>simp[h1]at h;exact⟨p,rfl,by rw[h1,h]⟩
 ·exfalso;simp only[List.mapM_cons]at h
  cases h1:opd p<;>cases h2:opd q<;>cases h4:l.mapM opd<;>simp[h1,h2,h4]at h
theorem kj {v:V}{x:Value}{n:Nat}(h:KE v=some n)(hx:R γ ρ v x):∃k,x= .int k (n:Int):=by
 unfold KE at h
 split at h
 ·rename_i k m
  split at h
  ·rename_i hm
   injection h with h;refine⟨k, ?_⟩;simp only[R]at hx;rw[hx];congr 1;omega
  ·cases h
 ·cases h
theorem Jjj {b:Builtin}{tys:Array TypeId}{ty:TypeId}{args:List Opd}{i:Iop}{call:Call}{dst:Option Tmp}{pos:String}{after:Array Edge}{guard:Option (Nat×Bool)}(hρ:∀i,(ρ i).oneCell'=true)
  (hcal:call.callee= .builtin b) (hty:call.argTypes=tys) (hargs:opds call.args=some args) (hc:kX P b tys args=some i) {v:V} {e:Eff} (he:evOp fr st i=some (v,e))
  (hfr:FR γ ρ fr a) (hrel:Rel γ ρ base c w) (hacc:qz γ c st fr i) (hnx:e.makes=true->γ st.nx=none):
  OpOK P γ ρ base st c w v e (execOp a.eval {dst:=dst,op:= .call call,type:=ty,pos:=pos,after:=after,guard:=guard}):=by
 have hex:∀s:Sem Next,Go.builtin b tys ty (call.args.map fun| .const _=>true|_=>false) (call.args.map a.eval)=s->OpOK P γ ρ base st c w v e s->
   OpOK P γ ρ base st c w v e (execOp a.eval {dst:=dst,op:= .call call,type:=ty,pos:=pos,after:=after,guard:=guard}):=by
  intro s hs ⟨x,w',γ',h1,h2⟩;refine⟨x,w',γ', ?_,h2⟩;rw[<-hs]at h1;simp only[execOp,resolve,hcal,invoke,hty,Sem.run_bind,Sem.run_pure,Result.andThen_ok];exact h1
 apply hex _ rfl;have hacc':∀(l:List Nat),i.aslots=some l->∀{xo:Operand} {x:Opd},opd xo=some x->(∀s∈x.slot,s∈l)->∀r,rowOf (x.ev fr)=some r->γ r≠none->st.row r≠ .none->c r=st.row r:=
  fun l hl _ _ hx hs=>qz.look hacc hl hx hs
 unfold kX at hc
 split at hc
 ·
  rename_i t rest x ht
  have ht0:tys[0]? =some t:=by rw[<-Array.getElem?_toList,ht];rfl
  obtain⟨xo,e1,e2⟩:=JdB hargs;have hx:=Jh e2 hfr;rw[e1];simp only[Go.builtin,List.map_toArray,List.map_cons,List.map_nil]
  split at hc
  ·rename_i hu
   injection hc with hc;subst hc;simp only[evOp]at he
   split at he
   ·rename_i n s hxe
    injection he with he;injection he with ha hb;subst ha;subst hb;rw[hxe]at hx;exact Jjf ht0 hu hx hrel
   ·cases he
  ·rename_i el hu
   injection hc with hc;subst hc;simp only[evOp]at he
   cases hn:slen (x.ev fr)with
   |none=>simp[hn]at he
   | some n=>
     rw[hn]at he;injection he with he;injection he with ha hb;subst ha;subst hb;exact Jgg ht0 hu hn hx hrel
  ·rename_i kt et hu
   injection hc with hc;subst hc;simp only[evOp]at he
   split at he
   ·rename_i hxe
    injection he with he;injection he with ha hb;subst ha;subst hb;rw[hxe]at hx;exact Jg3 ht0 hu hx hrel
   ·rename_i r hxe
    split at he
    ·rename_i tt es hrow
     injection he with he;injection he with ha hb;subst ha;subst hb;have hcr:=hacc' x.slot rfl e2 (fun s h=>h) r (by rw[hxe];rfl);rw[hxe]at hx;exact Jjg ht0 hu hx hcr hrow hrel
    ·cases he
   ·cases he
  ·cases hc
 ·
  rename_i t rest x ht
  have ht0:tys[0]? =some t:=by rw[<-Array.getElem?_toList,ht];rfl
  obtain⟨xo,e1,e2⟩:=JdB hargs;have hx:=Jh e2 hfr;rw[e1];simp only[Go.builtin,List.map_toArray,List.map_cons,List.map_nil]
  split at hc
  ·rename_i el hu
   injection hc with hc;subst hc;simp only[evOp]at he
   split at he
   ·rename_i hxe
    injection he with he;injection he with ha hb;subst ha;subst hb;rw[hxe]at hx;simp only[R]at hx;have:=Jmo (P:=P) (γ:=γ) (ρ:=ρ) (base:=base) (st:=st) (c:=c) (w:=w) (n:=0) (m:=0) (ad:=none) (ty:=ty) ht0 hu hrel;rw[hx];exact this
   ·rename_i r o n z cc hxe
    injection he with he;injection he with ha hb;subst ha;subst hb;rw[hxe]at hx;obtain⟨l,ad,k1,k2,k3⟩:=hx;rw[k2];exact Jmo ht0 hu hrel
   ·cases he
  ·cases hc
 ·
  rename_i t u s x ht
  have ht0:tys= #[t,u]:=by rw[<-Array.toArray_toList (xs:=tys),ht]
  obtain⟨so,xo,e1,e2,e3⟩:=Jbt hargs;have hs:=Jh e2 hfr;have hx:=Jh e3 hfr;rw[e1,ht0];simp only[Go.builtin,List.map_toArray,List.map_cons,List.map_nil]
  split at hc
  ·rename_i el el' hu1 hu2
   split at hc
   ·rename_i inf hinf
    split at hc
    ·rename_i hcond
     injection hc with hc;subst hc;obtain⟨hby,hz⟩:=hcond
     cases hzv:inf.zero with
     |none=>simp[hzv]at hz
     | some zv=>
       simp only[hzv,Option.any_some,beq_iff_eq]at hz;simp only[evOp]at he
       split at he
       ·rename_i k hk
        split at he
        ·rename_i new hnew
         split at he
         ·rename_i hcond2
          exact Jq1 hρ hu1 hu2 hinf hby hzv hz hs hx (hacc' (s.slot++x.slot) rfl e2 (fun q h=>List.mem_append_left _ h)) (hacc' (s.slot++x.slot) rfl e3 (fun q h=>List.mem_append_right _ h)) hrel hnx hk hnew hcond2.1 hcond2.2 he
         ·cases he
        ·cases he
       ·cases he
    ·cases hc
   ·cases hc
  ·cases hc
 ·
  rename_i t u rest d x ht
  have ht0:tys[0]? =some t:=by rw[<-Array.getElem?_toList,ht];rfl
  obtain⟨so,xo,e1,e2,e3⟩:=Jbt hargs;have hs:=Jh e2 hfr;have hx:=Jh e3 hfr;rw[e1];simp only[Go.builtin,List.map_toArray,List.map_cons,List.map_nil]
  split at hc
  ·rename_i el _ hu1 hu2
   cases hz:szT P el with
   |none=>simp[hz]at hc
   | some z=>
     simp only[hz,Option.map_some,Option.some.injEq]at hc;subst hc;simp only[evOp]at he
     split at he
     ·rename_i n k hn hk
      split at he
      ·rename_i vs hvs
       exact Jj4 hρ hu1 hz hs hx ht0 (hacc' (d.slot++x.slot) rfl e2 (fun q h=>List.mem_append_left _ h)) (hacc' (d.slot++x.slot) rfl e3 (fun q h=>List.mem_append_right _ h)) hrel hn hk hvs he
      ·cases he
     ·cases he
  ·rename_i el hu1 hu2
   cases hz:szT P el with
   |none=>simp[hz]at hc
   | some z=>
     simp only[hz,Option.map_some,Option.some.injEq]at hc;subst hc;simp only[evOp]at he
     split at he
     ·rename_i n k hn hk
      split at he
      ·rename_i vs hvs
       exact Jj4 hρ hu1 hz hs hx ht0 (hacc' (d.slot++x.slot) rfl e2 (fun q h=>List.mem_append_left _ h)) (hacc' (d.slot++x.slot) rfl e3 (fun q h=>List.mem_append_right _ h)) hrel hn hk hvs he
      ·cases he
     ·cases he
  ·cases hc
 ·
  rename_i x y
  obtain⟨so,xo,e1,e2,e3⟩:=Jbt hargs;have hs:=Jh e2 hfr;have hx:=Jh e3 hfr;rw[e1];simp only[Go.builtin,List.map_toArray,List.map_cons,List.map_nil];injection hc with hc;subst hc;simp only[evOp]at he
  split at he
  ·rename_i k p k' q hp hq
   split at he
   ·rename_i hkk
    injection he with he;injection he with ha hb;subst ha;subst hb;subst hkk;rw[hp]at hs;rw[hq]at hx;exact JqZ hs hx hrel
   ·cases he
  ·cases he
 ·
  rename_i x y
  obtain⟨so,xo,e1,e2,e3⟩:=Jbt hargs;have hs:=Jh e2 hfr;have hx:=Jh e3 hfr;rw[e1];simp only[Go.builtin,List.map_toArray,List.map_cons,List.map_nil];injection hc with hc;subst hc;simp only[evOp]at he
  split at he
  ·rename_i k p k' q hp hq
   split at he
   ·rename_i hkk
    injection he with he;injection he with ha hb;subst ha;subst hb;subst hkk;rw[hp]at hs;rw[hq]at hx;exact Jq0 hs hx hrel
   ·cases he
  ·cases he
 ·
  rename_i t rest x ht
  have ht0:tys[0]? =some t:=by rw[<-Array.getElem?_toList,ht];rfl
  obtain⟨xo,e1,e2⟩:=JdB hargs;have hx:=Jh e2 hfr;rw[e1];simp only[Go.builtin,List.map_toArray,List.map_cons,List.map_nil]
  split at hc
  ·rename_i el hu
   split at hc
   ·rename_i z zs hz hzs
    injection hc with hc;subst hc;simp only[evOp]at he
    split at he
    ·rename_i n hn
     exact Jms hρ hu hzs hx ht0 (hacc' x.slot rfl e2 (fun q h=>h)) hrel hn he
    ·cases he
   ·cases hc
  ·cases hc
 ·cases hc
theorem JA {α β:Type}{o:Option α}{f:α->β}{y:β}(h:o.map f=some y):∃x,o=some x/\f x=y:=Option.map_eq_some_iff.1 h
theorem JdC (hρ:∀i,(ρ i).oneCell'=true){o:Oper}{i:Iop}(hc:YA P o=some i){v:V}{e:Eff}(he:evOp fr st i=some (v,e))
  (hfr:FR γ ρ fr a) (hrel:Rel γ ρ base c w) (hacc:qz γ c st fr i) (hnx:e.makes=true->γ st.nx=none):
  OpOK P γ ρ base st c w v e (execOp a.eval o):=by
 have hacc':∀(l:List Nat),i.aslots=some l->∀{xo:Operand} {x:Opd},opd xo=some x->(∀s∈x.slot,s∈l)->∀r,rowOf (x.ev fr)=some r->γ r≠none->st.row r≠ .none->c r=st.row r:=
  fun l hl _ _ hx hs=>qz.look hacc hl hx hs
 obtain⟨dst,op,ty,pos,after,guard⟩:=o;unfold YA at hc
 cases op
 case move x=>
  obtain⟨y,h1,h2⟩:=JA hc;subst h2;injection he with he;injection he with ha hb;subst ha;subst hb;exact OpOK.pure hrel (y:=a.eval x) rfl (Jh h1 hfr)
 case assign x=>
  obtain⟨y,h1,h2⟩:=JA hc;subst h2;injection he with he;injection he with ha hb;subst ha;subst hb;exact OpOK.pure hrel (y:=a.eval x) rfl (Jh h1 hfr)
 case pick x y z=>
  simp only at hc
  split at hc
  ·rename_i c' a' b' h1 h2 h3
   injection hc with hc;subst hc;simp only[evOp]at he
   split at he
   ·rename_i t ht
    injection he with he;injection he with ha hb;subst ha;subst hb;have hx:=Jh h1 hfr;rw[ht]at hx;have hx:a.eval x= .bool t:=hx;refine OpOK.pure hrel (y:=if t then a.eval y else a.eval z) ?_ ?_
    ·simp[execOp,hx,asBool]
    ·cases t
     ·exact Jh h3 hfr
     ·exact Jh h2 hfr
   ·cases he
  ·cases hc
 case alloc t=>
  obtain⟨zs,h1,h2⟩:=JA hc;subst h2;injection he with he;injection he with ha hb;subst ha;subst hb;exact Jmd h1 hrel (hnx rfl)
 case box t x=>
  obtain⟨y,h1,h2⟩:=JA hc;subst h2;simp only[evOp]at he
  split at he
  ·rename_i vs hvs
   split at he
   ·injection he with he;injection he with ha hb;subst ha;subst hb;exact JqR hρ hvs (Jh h1 hfr) hrel (hnx rfl)
   ·cases he
  ·cases he
 case build t ps=>
  simp only at hc
  split at hc
  ·rename_i fs zs hu hz
   split at hc
   ·rename_i l hp
    split at hc
    ·rename_i hall
     injection hc with hc;subst hc;obtain⟨l',h1,h2⟩:=JA he;injection h2 with ha hb;subst ha;subst hb;exact Jdc hρ hu hz hp hall hfr h1 hrel
    ·cases hc
   ·cases hc
  ·rename_i len el zs hu hz
   split at hc
   ·rename_i n hn
    obtain⟨l,hp,h2⟩:=JA hc;subst h2;obtain⟨l',h1,h2⟩:=JA he;injection h2 with ha hb;subst ha;subst hb;exact Jdt hρ hu hz hn hp hfr h1 hrel
   ·cases hc
  ·cases hc
 case buildSlice t n ps=>
  simp only at hc
  split at hc
  ·rename_i el hu
   split at hc
   ·rename_i z zs hsz hz
    split at hc
    ·rename_i l hp
     split at hc
     ·rename_i hcond
      injection hc with hc;subst hc;simp only[evOp]at he
      split at he
      ·rename_i l' hf
       split at he
       ·rename_i hl
        injection he with he;injection he with ha hb;subst ha;subst hb;exact JqS hρ hu hsz hz hcond.2 hcond.1 hp hfr hf hl.2 hrel (hnx rfl)
       ·cases he
      ·cases he
     ·cases hc
    ·cases hc
   ·cases hc
  ·cases hc
 case load t x=>
  simp only at hc
  split at hc
  ·rename_i n y hg hn hx
   injection hc with hc;subst hc;obtain⟨l,h1,h2⟩:=JA he;injection h2 with ha hb;subst ha;subst hb;exact Jmf (Jh hx hfr) (hacc' y.slot rfl hx (fun q h=>h)) hrel hg hn h1
  ·rename_i y hg hx
   injection hc with hc;subst hc;simp only[evOp]at he
   split at he
   ·rename_i u hl
    injection he with he;injection he with ha hb;subst ha;subst hb;exact Jme (Jh hx hfr) (hacc' y.slot rfl hx (fun q h=>h)) hrel hg hl
   ·cases he
  ·cases hc
 case store t x z=>
  simp only at hc
  split at hc
  ·rename_i n y u hn hx hz
   injection hc with hc;subst hc;simp only[evOp]at he
   split at he
   ·rename_i vs hvs
    split at he
    ·rename_i hl
     obtain⟨e',h1,h2⟩:=JA he;injection h2 with ha hb;subst ha;subst hb;exact Jmg hρ (Jh hx hfr) (Jh hz hfr) (hacc' y.slot rfl hx (fun q h=>h)) hrel hn hvs hl h1
    ·cases he
   ·cases he
  ·cases hc
 case nilCheck x=>
  obtain⟨y,h1,h2⟩:=JA hc;subst h2;have hx:=Jh h1 hfr;simp only[evOp]at he
  split at he
  ·rename_i r o hy
   injection he with he;injection he with ha hb;subst ha;subst hb;rw[hy]at hx;refine JgZ hx hrel (.inl ⟨_,_,rfl⟩) (fun ad h=> ?_) (fun f p q h=> ?_)<;>simp[execOp,h]
  ·rename_i f p q hy
   injection he with he;injection he with ha hb;subst ha;subst hb;rw[hy]at hx;refine JgZ hx hrel (.inr ⟨_,_,_,rfl⟩) (fun ad h=> ?_) (fun f p q h=> ?_)<;>simp[execOp,h]
  ·cases he
 case binOp op t x y yt=>
  have hgen:∀(hne:op≠ .eql/\op≠ .neq),(match opd x,opd y with
    |some x,some y=>some (Iop.bin op x y)
    |_,_=>none)=some i->OpOK P γ ρ base st c w v e (execOp a.eval {dst:=dst,op:= .binOp op t x y yt,type:=ty,pos:=pos,after:=after,guard:=guard}):=by
   intro hne hc
   split at hc
   ·rename_i x' y' hx hy
    injection hc with hc;subst hc;obtain⟨r,h1,h2⟩:=JA he;injection h2 with ha hb;subst ha;subst hb;exact Jmj h1 (Jh hx hfr) (Jh hy hfr) hrel t x y hne
   ·cases hc
  cases op
  case eql=>
   simp only at hc
   split at hc
   ·rename_i ek x' y' hk hx hy
    injection hc with hc;subst hc;obtain⟨b,h1,h2⟩:=JA he;injection h2 with ha hb;subst ha;subst hb;exact Jp2 (.inl ⟨rfl,rfl⟩) hk h1 (Jh hx hfr) (Jh hy hfr) hrel x y
   ·cases hc
  case neq=>
   simp only at hc
   split at hc
   ·rename_i ek x' y' hk hx hy
    injection hc with hc;subst hc;obtain⟨b,h1,h2⟩:=JA he;injection h2 with ha hb;subst ha;subst hb;exact Jp2 (.inr ⟨rfl,rfl⟩) hk h1 (Jh hx hfr) (Jh hy hfr) hrel x y
   ·cases hc
  all_goals exact hgen ⟨nofun,nofun⟩ hc
 case unOp op t x=>
  cases op
  case not=>
   obtain⟨y,h1,h2⟩:=JA hc;subst h2;have hx:=Jh h1 hfr;simp only[evOp]at he
   split at he
   ·rename_i b hb
    rw[hb]at hx;injection he with he;injection he with ha hb;subst ha;subst hb;exact JqV hx hrel
   ·cases he
  case neg=>
   obtain⟨y,h1,h2⟩:=JA hc;subst h2;have hx:=Jh h1 hfr;simp only[evOp]at he
   split at he
   ·rename_i k n hb
    rw[hb]at hx;injection he with he;injection he with ha hb;subst ha;subst hb;exact JqW hx hrel
   ·cases he
  all_goals cases hc
 case convert s d x=>
  simp only at hc
  split at hc
  ·rename_i k0 k y h1 h2 hx
   injection hc with hc;subst hc;have hx:=Jh hx hfr;simp only[evOp]at he
   split at he
   ·rename_i k1 n hb
    rw[hb]at hx;injection he with he;injection he with ha hb;subst ha;subst hb;exact Jmk h1 h2 hx hrel
   ·cases he
  ·rename_i y h1 h2 hx
   injection hc with hc;subst hc;have hx:=Jh hx hfr;simp only[evOp]at he
   split at he
   ·rename_i k1 n hb
    rw[hb]at hx;injection he with he;injection he with ha hb;subst ha;subst hb;exact Jml h1 h2 hx hrel
   ·cases he
  ·rename_i el y h1 h2 hx
   split at hc
   ·rename_i hel
    split at hc
    ·injection hc with hc;subst hc;simp only[evOp]at he
     split at he
     ·rename_i n hn
      split at he
      ·rename_i l hl
       obtain⟨s',h3,h4⟩:=JA he;injection h4 with ha hb;subst ha;subst hb;exact JqX h1 h2 hel (Jh hx hfr) (hacc' y.slot rfl hx (fun q h=>h)) hrel hn hl h3
      ·cases he
     ·cases he
    ·cases hc
   ·cases hc
  ·cases hc
 case makeFunc fn p q=>
  cases fn
  case func f=>
   simp only at hc
   split at hc
   ·rename_i ps qs h1 h2
    injection hc with hc;subst hc;injection he with he;injection he with ha hb;subst ha;subst hb;exact JoX h1 h2 hfr hrel
   ·cases hc
  all_goals cases hc
 case makeMap t r=>
  cases r
  case none=>
   injection hc with hc;subst hc;injection he with he;injection he with ha hb;subst ha;subst hb;exact Jmm hrel (hnx rfl)
  case some=>cases hc
 case makeSlice t n cp=>
  simp only at hc
  split at hc
  ·rename_i el hu
   split at hc
   ·rename_i inf zs n' c' h1 h2 h3 h4
    split at hc
    ·rename_i hby
     injection hc with hc;subst hc;simp only[evOp]at he
     split at he
     ·rename_i n1 c1 hn hcc
      split at he
      ·rename_i hcond
       injection he with he;injection he with ha hb;subst ha;subst hb;exact JoY hu h1 h2 hby (Jh h3 hfr) (Jh h4 hfr) hn hcc hcond.1 hcond.2.1 hcond.2.2 hrel (hnx rfl)
      ·cases he
     ·cases he
    ·cases hc
   ·cases hc
  ·cases hc
 case slice t x lo hi mx=>
  simp only at hc
  split at hc
  ·rename_i y lo' hi' mx' hx h1 h2 h3
   split at hc
   ·cases hc
   ·rename_i hmx
    have hm:mx.isSome->hi.isSome:=fun h=>by
     cases mx with
     |none=>cases h
     | some m=>
       cases hi with
       |some=>rfl
       | none=>
         simp only[opdO,Option.some.injEq]at h2;subst h2;obtain⟨m',_,h4⟩:=JA h3;subst h4;simp at hmx
    split at hc
    ·rename_i hu
     split at hc
     ·rename_i hn
      injection hc with hc;subst hc;have hmn:mx=none:=by
       cases mx with
       |none=>rfl
       | some m=>
         obtain⟨m',_,h4⟩:=JA h3;subst h4;simp at hn
      subst hmn;have hx:=Jh hx hfr;simp only[evOp]at he
      split at he
      ·rename_i n s hy
       rw[hy]at hx
       split at he
       ·rename_i l h hl hh
        split at he
        ·rename_i hcond
         injection he with he;injection he with ha hb;subst ha;subst hb;exact JoZ hu hx h1 h2 hfr hl hh hcond.1 hcond.2 hrel
        ·cases he
       ·cases he
      ·cases he
     ·cases hc
    ·rename_i el hu
     obtain⟨z,hz,h4⟩:=JA hc;subst h4;obtain⟨v',h5,h6⟩:=JA he;injection h6 with ha hb;subst ha;subst hb;exact Jo0 hu hz (Jh hx hfr) h1 h2 h3 hm hfr h5 hrel
    ·rename_i n el hu
     obtain⟨z,hz,h4⟩:=JA hc;subst h4;have hcr:=hacc' y.slot rfl hx (fun q h=>h);have hx:=Jh hx hfr;simp only[evOp]at he
     split at he
     ·rename_i r o hy
      rw[hy]at hx hcr
      split at he
      ·rename_i tt l hrow
       split at he
       ·rename_i hle
        obtain⟨v',h5,h6⟩:=JA he;injection h6 with ha hb;subst ha;subst hb;refine Jo1 hu hz hx (fun lc hlc=> ?_) h1 h2 h3 hm hfr h5 hrel;obtain⟨l',k1,_,_,k4⟩:=YD hrel hx (hcr r rfl) hrow (by intro e;cases e);rw[hlc]at k1;injection k1 with k1;subst k1;obtain⟨arr,elem,fz,_,_,k5,_⟩:=k4;omega
       ·cases he
      ·cases he
     ·cases he
    ·cases hc
  ·cases hc
 case fieldAddr t x f=>
  simp only at hc
  split at hc
  ·rename_i fs y hu hx
   split at hc
   ·rename_i fd hf
    split at hc
    ·rename_i n hn
     split at hc
     ·rename_i h0
      injection hc with hc;subst hc;have hx:=Jh hx hfr;simp only[evOp]at he
      split at he
      ·rename_i r q hy
       rw[hy]at hx;injection he with he;injection he with ha hb;subst ha;subst hb;exact Jmn hu hf hn h0 hx hrel
      ·cases he
     ·cases hc
    ·cases hc
   ·cases hc
  ·cases hc
 case field t x f=>
  simp only at hc
  split at hc
  ·rename_i fs y hu hx
   split at hc
   ·rename_i fd hf
    split at hc
    ·rename_i n hg hn
     injection hc with hc;subst hc;have hx:=Jh hx hfr;simp only[evOp]at he
     split at he
     ·rename_i l hy
      rw[hy]at hx
      split at he
      ·injection he with he;injection he with ha hb;subst ha;subst hb;exact Jjd hu hf hg hn hx hrel
      ·cases he
     ·cases he
    ·rename_i hg
     injection hc with hc;subst hc;have hx:=Jh hx hfr;simp only[evOp]at he
     split at he
     ·rename_i l hy
      rw[hy]at hx;obtain⟨u,h1,h2⟩:=JA he;injection h2 with ha hb;subst ha;subst hb;exact Jje hu hf hg hx h1 hrel
     ·cases he
    ·cases hc
   ·cases hc
  ·cases hc
 case indexAddr t x ix=>
  simp only at hc
  split at hc
  ·rename_i el y j hu hx hj
   obtain⟨z,hz,h4⟩:=JA hc;subst h4;have hx:=Jh hx hfr;have hj:=Jh hj hfr;simp only[evOp]at he
   split at he
   ·rename_i k r o n z' hk hy
    obtain⟨kk,hkk⟩:=kj hk hj;rw[hy]at hx
    split at he
    ·rename_i hcond
     injection he with he;injection he with ha hb;subst ha;subst hb;obtain⟨l,ad,cp,k1,k2,k3,k4,_⟩:=hx;simp only[execOp,k2,hkk];exact Je2 hu hz k1 hcond.1 k3 k4 hrel
    ·cases he
   ·rename_i k r o n z' cp hk hy
    obtain⟨kk,hkk⟩:=kj hk hj;rw[hy]at hx
    split at he
    ·rename_i hcond
     injection he with he;injection he with ha hb;subst ha;subst hb;obtain⟨l,ad,k1,k2,k3,k4,_⟩:=hx;simp only[execOp,k2,hkk];exact Je2 hu hz k1 hcond.1 k3 k4 hrel
    ·cases he
   ·cases he
  ·rename_i n el y j hu hx hj
   obtain⟨z,hz,h4⟩:=JA hc;subst h4;have hx:=Jh hx hfr;have hj:=Jh hj hfr;simp only[evOp]at he
   split at he
   ·rename_i k r o hk hy
    obtain⟨kk,hkk⟩:=kj hk hj;rw[hy]at hx
    split at he
    ·rename_i hcond
     injection he with he;injection he with ha hb;subst ha;subst hb;simp only[execOp,hkk];exact JlI hu hz hx hcond hrel
    ·cases he
   ·cases he
  ·cases hc
 case index t x ix=>
  simp only at hc
  split at hc
  ·rename_i y j hu hx hj
   injection hc with hc;subst hc;have hx:=Jh hx hfr;have hj:=Jh hj hfr;simp only[evOp]at he
   split at he
   ·rename_i k n s hk hy
    obtain⟨kk,hkk⟩:=kj hk hj;rw[hy]at hx
    split at he
    ·rename_i hcond
     injection he with he;injection he with ha hb;subst ha;subst hb;simp only[execOp,hkk];exact Jo2 hu hx hcond hrel
    ·cases he
   ·cases he
  ·rename_i n el y j hu hx hj
   split at hc
   ·rename_i z g hz hg
    injection hc with hc;subst hc;have hx:=Jh hx hfr;have hj:=Jh hj hfr;simp only[evOp]at he
    split at he
    ·rename_i k l hk hy
     obtain⟨kk,hkk⟩:=kj hk hj;rw[hy]at hx;simp only[execOp,hkk]
     split at he
     ·rename_i hlt
      cases g
      ·rw[if_neg (by decide)]at he;obtain⟨u,h1,h2⟩:=JA he;injection h2 with ha hb;subst ha;subst hb;exact Jg2 hu hz hg hx hlt h1 hrel
      ·rw[if_pos rfl]at he
       split at he
       ·injection he with he;injection he with ha hb;subst ha;subst hb;exact Jg1 hu hz hg hx hlt hrel
       ·cases he
     ·cases he
    ·cases he
   ·cases hc
  ·cases hc
 case lookup t x ix ok=>
  simp only at hc
  split at hc
  ·rename_i kt et m k hu hm hk
   split at hc
   ·rename_i ek z hek hz
    injection hc with hc;subst hc;simp only[evOp]at he
    split at he
    ·rename_i es hes
     split at he
     ·cases he
     ·rename_i hfit
      have hfit:ek.fit (k.ev fr)=true:=by simpa using hfit
      have hcr:=hacc' m.slot rfl hm (fun q h=>h)
      split at he
      ·rename_i i' w' hfind
       injection he with he;injection he with ha hb;subst hb;exact Je3 hu hek hz (Jh hm hfr) (Jh hk hfr) hcr hes hfit (.inl ⟨_,_,hfind,ha.symm⟩) hrel
      ·rename_i hfind
       injection he with he;injection he with ha hb;subst hb;exact Je3 hu hek hz (Jh hm hfr) (Jh hk hfr) hcr hes hfit (.inr ⟨hfind,ha.symm⟩) hrel
      ·cases he
    ·cases he
   ·cases hc
  ·cases hc
 case next it str=>
  cases str
  ·obtain⟨y,h1,h2⟩:=JA hc;subst h2;have hx:=Jh h1 hfr;have hfull:Full γ c st:=hacc;simp only[evOp]at he
   split at he
   ·rename_i r hy
    rw[hy]at hx
    split at he
    ·rename_i tt n0 cnt hrow
     injection he with he;injection he with ha hb;subst ha;subst hb;exact Jgk hx (hfull r) hrow hrel
    ·rename_i tt m n0 cnt hrow
     split at he
     ·rename_i t2 es hm
      split at he
      ·cases he
      ·rename_i hn
       exact Jmt hx hfull hrow hm (by simpa using hn) hrel he
     ·cases he
    ·cases he
   ·cases he
  ·obtain⟨y,h1,h2⟩:=JA hc;subst h2;have hx:=Jh h1 hfr;have hcr:=hacc' y.slot rfl h1 (fun q h=>h);simp only[evOp]at he
   split at he
   ·rename_i r hy
    rw[hy]at hx hcr
    split at he
    ·rename_i tt n s q hrow
     split at he
     ·rename_i hlt
      split at he
      ·rename_i hb
       injection he with he;injection he with ha hb';subst ha;subst hb';exact Jmq hx (hcr r rfl) hrow hlt hb hrel
      ·injection he with he;injection he with ha hb';subst ha;subst hb';exact JeW hx (hcr r rfl) hrow hlt hrel
     ·rename_i hlt
      injection he with he;injection he with ha hb;subst ha;subst hb;exact Jgj hx (hcr r rfl) hrow hlt hrel
    ·cases he
   ·cases he
 case range t x=>
  simp only at hc
  split at hc
  ·rename_i y hu hx
   injection hc with hc;subst hc;have hx:=Jh hx hfr;simp only[evOp]at he
   split at he
   ·rename_i n s hy
    rw[hy]at hx;injection he with he;injection he with ha hb;subst ha;subst hb;exact Jo4 hu hx hrel (hnx rfl)
   ·cases he
  ·rename_i kt et y hu hx
   injection hc with hc;subst hc;have hcr:=hacc' y.slot rfl hx (fun q h=>h);have hx:=Jh hx hfr;simp only[evOp]at he
   split at he
   ·rename_i hy
    rw[hy]at hx;injection he with he;injection he with ha hb;subst ha;subst hb;exact Jg6 hu hx hrel (hnx rfl)
   ·rename_i r hy
    rw[hy]at hx hcr
    split at he
    ·rename_i tt es hrow
     injection he with he;injection he with ha hb;subst ha;subst hb;exact Jo5 hu hx (hcr r rfl) hrow hrel (hnx rfl)
    ·cases he
   ·cases he
  ·cases hc
 case extract x n=>
  obtain⟨y,h1,h2⟩:=JA hc;subst h2;have hx:=Jh h1 hfr;simp only[evOp]at he
  split at he
  ·rename_i l hy
   rw[hy]at hx;obtain⟨u,h1,h2⟩:=JA he;injection h2 with ha hb;subst ha;subst hb;exact JqY hx h1 hrel
  ·cases he
 case mapUpdate t m k x=>
  simp only at hc
  split at hc
  ·rename_i kt et m' k' x' hu hm hk hx
   split at hc
   ·rename_i ek hek
    split at hc
    ·rename_i hpl
     injection hc with hc;subst hc;have hcr:=hacc' m'.slot rfl hm (fun q h=>h);have hmx:=Jh hm hfr;simp only[evOp]at he
     split at he
     ·rename_i r hy
      rw[hy]at hmx hcr
      split at he
      ·rename_i tt es hrow
       split at he
       ·cases he
       ·rename_i hfit
        have hfit:ek.fit (k'.ev fr)=true:=by simpa using hfit
        split at he
        ·rename_i i' w' hfind
         injection he with he;injection he with ha hb;subst ha;subst hb;exact Jdh hu hek hpl hmx (Jh hk hfr) (Jh hx hfr) (hcr r rfl) hrow hfit (.inl ⟨_,_,hfind,rfl⟩) hrel
        ·rename_i hfind
         injection he with he;injection he with ha hb;subst ha;subst hb;exact Jdh hu hek hpl hmx (Jh hk hfr) (Jh hx hfr) (hcr r rfl) hrow hfit (.inr ⟨hfind,rfl⟩) hrel
        ·cases he
      ·cases he
     ·cases he
    ·cases hc
   ·cases hc
  ·cases hc
 case insert t m k x=>
  simp only at hc
  split at hc
  ·rename_i kt et m' k' x' hu hm hk hx
   split at hc
   ·rename_i ek hek
    split at hc
    ·rename_i hpl
     injection hc with hc;subst hc;have hcr:=hacc' m'.slot rfl hm (fun q h=>h);have hmx:=Jh hm hfr;simp only[evOp]at he
     split at he
     ·rename_i r hy
      rw[hy]at hmx hcr
      split at he
      ·rename_i tt es hrow
       split at he
       ·cases he
       ·rename_i hfit
        have hfit:ek.fit (k'.ev fr)=true:=by simpa using hfit
        split at he
        ·rename_i i' w' hfind
         injection he with he;injection he with ha hb;subst ha;subst hb;exact Jdh hu hek hpl hmx (Jh hk hfr) (Jh hx hfr) (hcr r rfl) hrow hfit (.inl ⟨_,_,hfind,rfl⟩) hrel
        ·rename_i hfind
         injection he with he;injection he with ha hb;subst ha;subst hb;exact Jdh hu hek hpl hmx (Jh hk hfr) (Jh hx hfr) (hcr r rfl) hrow hfit (.inr ⟨hfind,rfl⟩) hrel
        ·cases he
      ·cases he
     ·cases he
    ·cases hc
   ·cases hc
  ·cases hc
 case mapEntry t m k=>
  simp only at hc
  split at hc
  ·rename_i kt et m' k' hu hm hk
   split at hc
   ·rename_i ek z hek hz
    split at hc
    ·rename_i hpl
     injection hc with hc;subst hc;have hcr:=hacc' m'.slot rfl hm (fun q h=>h);have hmx:=Jh hm hfr;simp only[evOp]at he
     split at he
     ·rename_i r hy
      rw[hy]at hmx hcr
      split at he
      ·rename_i tt es hrow
       split at he
       ·cases he
       ·rename_i hfit
        have hfit:ek.fit (k'.ev fr)=true:=by simp at hfit;exact hfit.1
        split at he
        ·rename_i i' w' hfind
         injection he with he;injection he with ha hb;subst ha;subst hb;exact Jj3 hu hek hpl hz hmx (Jh hk hfr) (hcr r rfl) hrow hfit (.inl ⟨_,_,hfind,rfl,rfl⟩) hrel
        ·rename_i hfind
         injection he with he;injection he with ha hb;subst ha;subst hb;exact Jj3 hu hek hpl hz hmx (Jh hk hfr) (hcr r rfl) hrow hfit (.inr ⟨hfind,rfl,rfl⟩) hrel
        ·cases he
      ·cases he
     ·cases he
    ·cases hc
   ·cases hc
  ·cases hc
 case entryStore t m sl x=>
  simp only at hc
  split at hc
  ·rename_i m' s' x' hm hs hx
   injection hc with hc;subst hc;have hcr:=hacc' m'.slot rfl hm (fun q h=>h);have hmx:=Jh hm hfr;simp only[evOp]at he
   split at he
   ·rename_i r i' hy hi
    rw[hy]at hmx hcr;obtain⟨kk,hkk⟩:=kj hi (Jh hs hfr)
    split at he
    ·rename_i tt es hrow
     split at he
     ·rename_i hlt
      injection he with he;injection he with ha hb;subst ha;subst hb;simp only[execOp,hkk];exact Jo3 hmx (Jh hx hfr) (hcr r rfl) hrow hlt hrel
     ·cases he
    ·cases he
   ·cases he
  ·cases hc
 case call cl=>
  simp only at hc
  split at hc
  ·rename_i as has
   split at hc
   ·split at hc
    ·split at hc
     ·injection hc with hc;subst hc;cases he
     ·cases hc
    ·cases hc
   ·obtain⟨y,_,h2⟩:=JA hc;subst h2
    cases he
   ·rename_i b hb
    exact Jjj hρ hb rfl has hc he hfr hrel hacc hnx
   ·cases hc
  ·cases hc
 all_goals cases hc
end
structure WF (st:St):Prop where
 nx:∀r,st.row r≠ .none->r.num<st.nx.num
 t:∀r,st.row r≠ .none->(st.row r).time<st.t
structure Mono (st st':St):Prop where
 wf:WF st'
 t:st.t<=st'.t
 nx:st.nx.num<=st'.nx.num
 row:∀r,st'.row r≠st.row r->st.t<=(st'.row r).time/\st'.row r≠ .none
 low:st'.low<=st.low
 old:∀r,st.row r≠ .none->st'.row r≠st.row r->st'.low<=(st.row r).time
 born:∀r,st.row r= .none->st'.row r≠ .none->st.nx.num<=r.num
theorem Mono.refl {st:St}(h:WF st):Mono st st:=⟨h,Nat.le_refl _,Nat.le_refl _,fun _ k=>absurd rfl k,Nat.le_refl _,fun _ _ k=>absurd rfl k,fun _ e k=>absurd e k⟩
theorem Mono.trans {a b c:St}(h:Mono a b)(k:Mono b c):Mono a c:=by
 refine⟨k.wf,Nat.le_trans h.t k.t,Nat.le_trans h.nx k.nx,fun r e=> ?_,Nat.le_trans k.low h.low,fun r e1 e2=> ?_,fun r e1 e2=> ?_⟩
 ·by_cases e':c.row r=b.row r
  ·rw[e']at e⊢;exact h.row r e
  ·exact⟨Nat.le_trans h.t (k.row r e').1,(k.row r e').2⟩
 ·by_cases e':b.row r=a.row r
  ·have:=k.old r (by rw[e'];exact e1) (by rw[e'];exact e2)
   rwa [e']at this
  ·exact Nat.le_trans k.low (h.old r e1 e')
 ·by_cases e':b.row r= .none
  ·exact Nat.le_trans h.nx (k.born r e' e2)
  ·exact h.born r e1 e'
def Eff.good (st:St):Eff->Prop
 | .no=>True
 | .new f=>∀u,(f u).time=u/\f u≠ .none
 | .wr r t f=>st.row r≠ .none/\(st.row r).time=t/\∀u,(f u).time=u/\f u≠ .none
 | .dn r t f=>st.row r≠ .none/\(st.row r).time=t/\∀u,(f u).time=u/\f u≠ .none
theorem YV {st:St}(h:WF st){f:Nat->Row}(hf:∀u,(f u).time=u/\f u≠ .none):Mono st (st.new f):=by
 have hn:st.row st.nx= .none:=by
  apply Classical.byContradiction;intro e;exact absurd (h.nx _ e) (Nat.lt_irrefl _)
 have hrow:∀r,(st.new f).row r=upd st.row st.nx (f st.t) r:=fun r=>by rw[St.row_new]
 have hnx:(st.new f).nx.num=st.nx.num+1:=Pt.num_suc _;have ht:(st.new f).t=st.t+1:=rfl;refine⟨⟨fun r e=> ?_,fun r e=> ?_⟩,by omega,by omega,fun r e=> ?_,Nat.le_refl _,fun r e1 e2=> ?_,fun r e1 e2=> ?_⟩
 ·rw[hrow]at e;by_cases er:r=st.nx
  ·subst er;omega
  ·rw[Jt _ _ er]at e;have:=h.nx r e;omega
 ·rw[hrow]at e⊢;by_cases er:r=st.nx
  ·subst er;rw[Jp,(hf _).1];omega
  ·rw[Jt _ _ er]at e⊢;have:=h.t r e;omega
 ·rw[hrow]at e⊢;by_cases er:r=st.nx
  ·subst er;rw[Jp];exact⟨by rw[(hf _).1];exact Nat.le_refl _,(hf _).2⟩
  ·rw[Jt _ _ er]at e;exact absurd rfl e
 ·rw[hrow]at e2;by_cases er:r=st.nx
  ·subst er;exact absurd hn e1
  ·rw[Jt _ _ er]at e2;exact absurd rfl e2
 ·rw[hrow]at e2;by_cases er:r=st.nx
  ·subst er;exact Nat.le_refl _
  ·rw[Jt _ _ er]at e2;exact absurd e1 e2
theorem QW {st:St}(h:WF st){p:Pt}{t:Nat}{f:Nat->Row}(hp:st.row p≠ .none)(ht:(st.row p).time=t)(hf:∀u,(f u).time=u/\f u≠ .none):Mono st (st.wr p t f):=by
 have hrow:∀r,(st.wr p t f).row r=upd st.row p (f st.t) r:=fun r=>by rw[St.row_wr]
 have hl:(st.wr p t f).low<=st.low:=by show(if t<st.low then t else st.low)<=st.low;split<;>omega
 have hl2:(st.wr p t f).low<=t:=by show(if t<st.low then t else st.low)<=t;split<;>omega
 have hu:(st.wr p t f).t=st.t+1:=rfl;have hx:(st.wr p t f).nx=st.nx:=rfl;refine⟨⟨fun r e=> ?_,fun r e=> ?_⟩,by omega,by rw[hx];exact Nat.le_refl _,fun r e=> ?_,hl,fun r e1 e2=> ?_,fun r e1 e2=> ?_⟩
 ·rw[hrow]at e;rw[hx];by_cases er:r=p
  ·subst er;exact h.nx _ hp
  ·rw[Jt _ _ er]at e;exact h.nx r e
 ·rw[hrow]at e⊢;by_cases er:r=p
  ·subst er;rw[Jp,(hf _).1];omega
  ·rw[Jt _ _ er]at e⊢;have:=h.t r e;omega
 ·rw[hrow]at e⊢;by_cases er:r=p
  ·subst er;rw[Jp];exact⟨by rw[(hf _).1];exact Nat.le_refl _,(hf _).2⟩
  ·rw[Jt _ _ er]at e;exact absurd rfl e
 ·rw[hrow]at e2;by_cases er:r=p
  ·subst er;rw[ht];exact hl2
  ·rw[Jt _ _ er]at e2;exact absurd rfl e2
 ·rw[hrow]at e2;by_cases er:r=p
  ·subst er;exact absurd e1 hp
  ·rw[Jt _ _ er]at e2;exact absurd e1 e2
theorem Jal {st:St}(h:WF st){e:Eff}(he:e.good st):Mono st (st.ap e):=by
 cases e with
 |no=>exact Mono.refl h
 |new f=>exact YV h he
 |wr r t f=>exact QW h he.1 he.2.1 he.2.2
 | dn r t f=>
   have h1:=QW (f:= .dead) h he.1 he.2.1 (fun u=>⟨rfl,by intro e;cases e⟩);exact h1.trans (YV h1.wf he.2.2)
def Eff.over :Eff->Option Pt
 | .wr r _ _=>some r
 | .dn r _ _=>some r
 |_=>none
def JdD (fr:Fr)(st:St)(i:Iop)(e:Eff):Prop:=
 e.good st/\∀r,e.over=some r->i.writes=true/\(∀s∈i.wslots,rowOf (fr s)=some r)
theorem JdD.no {fr:Fr}{st:St}{i:Iop}:JdD fr st i .no:=⟨trivial,fun _ h=>by cases h⟩
theorem JdD.new {fr:Fr}{st:St}{i:Iop}{f:Nat->Row}(h:∀u,(f u).time=u/\f u≠ .none):JdD fr st i (.new f):=⟨h,fun _ h=>by cases h⟩
theorem Yl {fr:Fr}{x:Opd}{r:Pt}(h:rowOf (x.ev fr)=some r):∀s∈x.slot,rowOf (fr s)=some r:=by
 intro s hs
 cases x with
 |s i=>simp only[Opd.slot,List.mem_singleton]at hs;subst hs;exact h
 |c v=>simp[Opd.slot]at hs
theorem Jb7 {fr:Fr}{st:St}{i:Iop}{x:V}{vs:List V}{e:Eff}{y:Opd}(hy:rowOf x=rowOf (y.ev fr))(h:JN st x vs=some e)(hw:i.writes=true)(hs:i.wslots=y.slot):JdD fr st i e:=by
 unfold JN at h
 split at h
 ·rename_i r o
  split at h
  ·rename_i t xs hrow
   split at h
   ·injection h with h;subst h;refine⟨⟨(by rw[hrow];intro e;cases e),(by rw[hrow];rfl),fun u=>⟨rfl,by intro e;cases e⟩⟩,fun q hq=> ?_⟩;injection hq with hq;subst hq;exact⟨hw,by rw[hs];exact Yl hy.symm⟩
   ·cases h
  ·cases h
 ·cases h
theorem Je4 {v p:V}(h:qu v=some p):rowOf p=rowOf v:=by
 unfold qu at h
 split at h<;>first|(injection h with h;subst h;rfl)|cases h
theorem Jo9 {fr:Fr}{st:St}{z k:Nat}{new:List V}{s x:Opd}{v:V}{e:Eff}(h:JE st z k new (s.ev fr)=some (v,e)):JdD fr st (.app z s x) e:=by
 unfold JE at h
 split at h
 ·split at h
  ·injection h with h;injection h with _ h;subst h;exact .no
  ·cases h
 ·split at h
  ·injection h with h;injection h with _ h;subst h;exact .new fun u=>⟨rfl,by intro e;cases e⟩
  ·rename_i r o n z' hs
   split at h
   ·cases h
   ·split at h
    ·rename_i t l hrow
     split at h
     ·injection h with h;injection h with _ h;subst h;refine⟨⟨(by rw[hrow];intro e;cases e),(by rw[hrow];rfl),fun u=>⟨rfl,by intro e;cases e⟩⟩,fun q hq=> ?_⟩;injection hq with hq;subst hq;exact⟨rfl,Yl (by rw[hs];rfl)⟩
     ·cases h
    ·cases h
  ·rename_i r o n z' cc hs
   split at h
   ·cases h
   ·split at h
    ·rename_i t l hrow
     split at h
     ·split at h
      ·split at h
       ·injection h with h;injection h with _ h;subst h;refine⟨⟨(by rw[hrow];intro e;cases e),(by rw[hrow];rfl),fun u=>⟨rfl,by intro e;cases e⟩⟩,fun q hq=> ?_⟩;injection hq with hq;subst hq;exact⟨rfl,Yl (by rw[hs];rfl)⟩
       ·cases h
      ·injection h with h;injection h with _ h;subst h;exact .new fun u=>⟨rfl,by intro e;cases e⟩
     ·cases h
    ·cases h
  ·cases h
theorem jy {fr:Fr}{st:St}{i:Iop}{v:V}{e:Eff}(h:evOp fr st i=some (v,e)):JdD fr st i e:=by
 cases i<;>simp only[evOp]at h
 case store n x y=>
  split at h
  ·split at h
   ·obtain⟨e',h1,h2⟩:=JA h;injection h2 with _ h2;subst h2;exact Jb7 rfl h1 rfl rfl
   ·cases h
  ·cases h
 case app z s x=>
  split at h
  ·split at h
   ·split at h
    ·exact Jo9 h
    ·cases h
   ·cases h
  ·cases h
 case copy z d x=>
  split at h
  ·split at h
   ·split at h
    ·injection h with h;injection h with _ h;subst h;exact .no
    ·split at h
     ·rename_i p hp
      obtain⟨e',h1,h2⟩:=JA h;injection h2 with _ h2;subst h2;exact Jb7 (Je4 hp) h1 rfl rfl
     ·cases h
   ·cases h
  ·cases h
 case clear z zs x=>
  split at h
  ·split at h
   ·injection h with h;injection h with _ h;subst h;exact .no
   ·split at h
    ·rename_i p hp
     split at h
     ·obtain⟨e',h1,h2⟩:=JA h;injection h2 with _ h2;subst h2;exact Jb7 (Je4 hp) h1 rfl rfl
     ·cases h
    ·cases h
  ·cases h
 case mupd ek m k x=>
  split at h
  ·rename_i r hm
   split at h
   ·rename_i t es hrow
    split at h
    ·cases h
    ·split at h<;>first
      |(cases h;done)
      | (injection h with h;injection h with _ h;subst h
         refine⟨⟨(by rw[hrow];intro e;cases e),(by rw[hrow];rfl),fun u=>⟨rfl,by intro e;cases e⟩⟩,fun q hq=> ?_⟩;injection hq with hq;subst hq;exact⟨rfl,Yl (by rw[hm];rfl)⟩)
   ·cases h
  ·cases h
 case ment ek z m k=>
  split at h
  ·rename_i r hm
   split at h
   ·rename_i t es hrow
    split at h
    ·cases h
    ·split at h<;>first
      |(cases h;done)
      | (injection h with h;injection h with _ h;subst h
         refine⟨⟨(by rw[hrow];intro e;cases e),(by rw[hrow];rfl),fun u=>⟨rfl,by intro e;cases e⟩⟩,fun q hq=> ?_⟩;injection hq with hq;subst hq;exact⟨rfl,Yl (by rw[hm];rfl)⟩)
   ·cases h
  ·cases h
 case ests m s x=>
  split at h
  ·rename_i r j hm _
   split at h
   ·rename_i t es hrow
    split at h
    ·injection h with h;injection h with _ h;subst h;refine⟨⟨(by rw[hrow];intro e;cases e),(by rw[hrow];rfl),fun u=>⟨rfl,by intro e;cases e⟩⟩,fun q hq=> ?_⟩;injection hq with hq;subst hq;exact⟨rfl,Yl (by rw[hm];rfl)⟩
    ·cases h
   ·cases h
  ·cases h
 case jc x=>
  split at h
  ·rename_i r hm
   split at h
   ·rename_i t n s pos hrow
    split at h
    ·split at h
     ·injection h with h;injection h with _ h;subst h;refine⟨⟨(by rw[hrow];intro e;cases e),(by rw[hrow];rfl),fun u=>⟨rfl,by intro e;cases e⟩⟩,fun q hq=> ?_⟩;injection hq with hq;subst hq;exact⟨rfl,Yl (by rw[hm];rfl)⟩
     ·injection h with h;injection h with _ h;subst h;refine⟨⟨(by rw[hrow];intro e;cases e),(by rw[hrow];rfl),fun u=>⟨rfl,by intro e;cases e⟩⟩,fun q hq=> ?_⟩;injection hq with hq;subst hq;exact⟨rfl,Yl (by rw[hm];rfl)⟩
    ·injection h with h;injection h with _ h;subst h;exact .no
   ·cases h
  ·cases h
 case nextM x=>
  split at h
  ·rename_i r hm
   split at h
   ·injection h with h;injection h with _ h;subst h;exact .no
   ·rename_i t m n0 cnt hrow
    split at h
    ·split at h
     ·cases h
     ·split at h
      ·injection h with h;injection h with _ h;subst h;refine⟨⟨(by rw[hrow];intro e;cases e),(by rw[hrow];rfl),fun u=>⟨rfl,by intro e;cases e⟩⟩,fun q hq=> ?_⟩;injection hq with hq;subst hq;exact⟨rfl,Yl (by rw[hm];rfl)⟩
      ·injection h with h;injection h with _ h;subst h;exact .no
    ·cases h
   ·cases h
  ·cases h
 all_goals (repeat' (split at h))<;>first
  |(cases h;done)
  |(injection h with h;injection h with _ h;subst h;exact .no)
  |(injection h with h;injection h with _ h;subst h;exact .new fun u=>⟨rfl,by intro e;cases e⟩)
  |(obtain⟨_,_,h2⟩:=JA h;injection h2 with _ h2;subst h2;exact .no)
theorem Je5 {fr fr':Fr}{l:List Opd}(h:∀x∈l,x.ev fr=x.ev fr'):evs fr l=evs fr' l:=List.map_congr_left h
theorem JdE {fr fr':Fr}{l:List (Nat×Nat×Opd)}(h:∀x∈l.map (·.2.2),x.ev fr=x.ev fr'):evps fr l=evps fr' l:=
 List.map_congr_left fun p hp=>by
  obtain⟨a,b,x⟩:=p;simp only[h x (List.mem_map.2 ⟨_,hp,rfl⟩)]
theorem QC {fr fr':Fr}{o:Option Opd}(h:∀x∈JaE o,x.ev fr=x.ev fr'):o.map (Opd.ev fr)=o.map (Opd.ev fr'):=by
 cases o with
 |none=>rfl
 |some x=>simp only[Option.map_some,h x (by simp[JaE])]
theorem Jjk {fr fr':Fr}{st:St}{i:Iop}(h:∀x∈i.opds,x.ev fr=x.ev fr'):evOp fr st i=evOp fr' st i:=by
 cases i<;>simp only[Iop.opds,List.mem_cons,List.not_mem_nil,or_false,forall_eq_or_imp,forall_eq,List.mem_append]at h
 case build zs ps=>simp only[evOp,JdE h]
 case bsl z n zs ps=>simp only[evOp,JdE h]
 case mkfn f p q=>simp only[evOp,Je5 fun x hx=>h x (.inl hx),Je5 fun x hx=>h x (.inr hx)]
 case cutS x lo hi=>simp only[evOp,h.1,QC fun x hx=>h.2 x (.inl hx),QC fun x hx=>h.2 x (.inr hx)]
 case cutL z x lo hi mx=>simp only[evOp,h.1,QC fun x hx=>h.2 x (.inl hx),QC fun x hx=>h.2 x (.inr (.inl hx)),QC fun x hx=>h.2 x (.inr (.inr hx))]
 case cutA n z x lo hi mx=>simp only[evOp,h.1,QC fun x hx=>h.2 x (.inl hx),QC fun x hx=>h.2 x (.inr (.inl hx)),QC fun x hx=>h.2 x (.inr (.inr hx))]
 all_goals first
  |rfl
  |simp only[evOp,h]
  |(obtain⟨h1,h2⟩:=h;simp only[evOp,h1,h2])
  |(obtain⟨h1,h2,h3⟩:=h;simp only[evOp,h1,h2,h3])
def only (l:List Nat)(fr:Fr):Fr:=fun s=>if s∈l then fr s else .any
theorem Jpa {l:List Nat}{fr:Fr}{s:Nat}(h:s∈l):only l fr s=fr s:=if_pos h
theorem Jj5 {l:List Nat}{fr:Fr}{x:Opd}(h:∀s∈x.slot,s∈l):x.ev (only l fr)=x.ev fr:=by
 cases x with
 |s i=>exact Jpa (h i (by simp[Opd.slot]))
 |c v=>rfl
theorem Je6 {fr:Fr}{st:St}{i:Iop}:evOp (only i.slots fr) st i=evOp fr st i:=
 Jjk fun x hx=>Jj5 fun s hs=>by
  unfold Iop.slots;rw[List.mem_flatMap];exact⟨x,hx,hs⟩
structure Post (γ:Locs) (ρ:Nat->Value) (base:Bs) (c:Pt->Row) (st st':St) (w:World) (v:V) (γ':Locs) (c':Pt->Row) (y:Value) (w':World):Prop where
 val:R γ' ρ v y
 rel:Rel γ' ρ base c' w'
 ext:Ext γ γ'
 new:∀r,γ' r≠none->γ r≠none\/(st.nx.num<=r.num/\r.num<st'.nx.num)
 same:∀r,st'.row r=st.row r->c' r=c r
 upto:∀r,st'.row r≠st.row r->c' r=st'.row r
 below:Below base.n w w'
def Yx (γ:Locs)(st st':St):Prop:=∀r,st.nx.num<=r.num->r.num<st'.nx.num->γ r=none
def Q0 (P:Program)(ρ:Nat->Value)(base:Bs)(self:Self):Prop:=
 ∀ f args st v st', self f args st = some (v, st') -> WF st -> Mono st st' /\ (∃ fn, P.funcs[f]? = some fn /\ fn.body.isSome = true /\ fn.name ≠ "runtime.NumGoroutine") /\
  ∀γ c w xs,RL γ ρ args xs->Rel γ ρ base c w->Full γ c st->Yx γ st st'->
   Calls P f xs.toArray w fun e w'=>∃y γ' c',e= .returned y/\Post γ ρ base c st st' w v γ' c' y w'
section
variable {P : Program} {γ : Locs} {ρ : Nat -> Value} {base : Bs} {st : St} {c : Pt -> Row} {w : World} {fr : Fr} {a : Act}
theorem Jj6 {e:Eff}(hw:WF st)(he:e.good st)(r:Pt):(e.on st st.row r=st.row r->e.on st c r=c r)/\(e.on st st.row r≠st.row r->e.on st c r=e.on st st.row r):=by
 have stamp:∀(f:Nat->Row) (q:Pt) (u:Nat),(∀u,(f u).time=u/\f u≠ .none)->st.t<=u->f u≠st.row q:=fun f q u hf hu e=>by
  have h1:=hw.t q (by rw[<-e];exact(hf _).2);rw[<-e,(hf _).1]at h1;omega
 cases e with
 |no=>exact⟨fun _=>rfl,fun h=>absurd rfl h⟩
 | new f=>
   simp only[Eff.on];by_cases er:r=st.nx
   ·subst er;rw[Jp,Jp];exact⟨fun h=>absurd h (stamp f _ _ he (Nat.le_refl _)),fun _=>rfl⟩
   ·rw[Jt _ _ er,Jt _ _ er];exact⟨fun _=>rfl,fun h=>absurd rfl h⟩
 | wr p t f=>
   simp only[Eff.on];by_cases er:r=p
   ·subst er;rw[Jp,Jp];exact⟨fun h=>absurd h (stamp f _ _ he.2.2 (Nat.le_refl _)),fun _=>rfl⟩
   ·rw[Jt _ _ er,Jt _ _ er];exact⟨fun _=>rfl,fun h=>absurd rfl h⟩
 | dn p t f=>
   simp only[Eff.on];by_cases er:r=st.nx
   ·subst er;rw[Jp,Jp];exact⟨fun h=>absurd h (stamp f _ _ he.2.2 (Nat.le_succ _)),fun _=>rfl⟩
   ·rw[Jt _ _ er,Jt _ _ er];by_cases er:r=p
    ·subst er;rw[Jp,Jp];exact⟨fun h=>absurd h (stamp .dead _ _ (fun u=>⟨rfl,by intro e;cases e⟩) (Nat.le_refl _)),fun _=>rfl⟩
    ·rw[Jt _ _ er,Jt _ _ er];exact⟨fun _=>rfl,fun h=>absurd rfl h⟩
theorem Jp3 {e:Eff}(h:e.makes=true):(st.ap e).nx.num=st.nx.num+1:=by
 cases e with
 |no=>cases h
 |new f=>exact Pt.num_suc _
 |wr p t f=>cases h
 |dn p t f=>exact Pt.num_suc _
theorem OpOK.post {v:V}{e:Eff}{s:Sem Next}(hw:WF st)(he:e.good st)(h:OpOK P γ ρ base st c w v e s):
  ∃x w' y γ' c',s.run P w= .ok x w'/\(x= .value y\/(x= .skip/\y=undef))/\Post γ ρ base c st (st.ap e) w v γ' c' y w':=by
 obtain⟨x,w',γ',h1,h2,h3,h4,h5,h6⟩:=h;have mk:∀y,R γ' ρ v y->Post γ ρ base c st (st.ap e) w v γ' (e.on st c) y w':=fun y hy=>
  ⟨hy,h3,h4,fun r k=>(h5 r k).imp id fun⟨e1,e2⟩=>by rw[Jp3 e2,e1];omega,
   fun r k=>by rw[St.row_ap]at k;exact(Jj6 hw he r).1 k,fun r k=>by rw[St.row_ap]at k⊢;exact(Jj6 hw he r).2 k,h6⟩
 rcases h2 with⟨y,e1,e2⟩|⟨e1,e2⟩
 ·exact⟨x,w',y,γ',_,h1, .inl e1,mk y e2⟩
 ·exact⟨x,w',undef,γ',_,h1, .inr ⟨e1,rfl⟩,mk undef (by rw[e2];exact⟨[],rfl,rfl⟩)⟩
theorem Jp4 {o:Oper}{v:V}{e:Eff}{K:Act->World->Prop}{Q:Exit->Act->World->Prop}(hw:WF st)(he:e.good st)(h:OpOK P γ ρ base st c w v e (execOp a.eval o))
  (hK:∀y γ' c' w',Post γ ρ base c st (st.ap e) w v γ' c' y w'->K (a.put o.dst y) w'):o.wp P a w K Q:=by
 obtain⟨x,w',y,γ',c',h1,h2,h3⟩:=h.post hw he;unfold Oper.wp;rw[h1];rcases h2 with rfl|⟨rfl,rfl⟩
 ·exact hK _ _ _ _ h3
 ·exact hK _ _ _ _ h3
theorem Jgl {f : FuncId} {fn : Func} {args : Array Value} (h1 : P.funcs[f]? = some fn) (h2 : fn.body.isSome = true) (h3 : fn.name ≠ "runtime.NumGoroutine") : (callFunc f args).run P w = .ok (.enter f args) w := by
 obtain⟨b,hb⟩:=Option.isSome_iff_exists.1 h2;simp[callFunc,h1,hb,h3]
theorem Jj7 {self:Self}(hself:Q0 P ρ base self){o:Oper}{i:Iop}(hc:YA P o=some i)(hi:i.calls=true){v:V}{st':St}(he:Kn self fr st i=some (v,st'))(hw:WF st)
  (hfr:∀x∈i.opds,∀xo,opd xo=some x->R γ ρ (x.ev fr) (a.eval xo)) (hrel:Rel γ ρ base c w) (hfull:Full γ c st) (hnx:Yx γ st st') {K:Act->World->Prop} {Q:Exit->Act->World->Prop}
  (hK:∀y γ' c' w',Post γ ρ base c st st' w v γ' c' y w'->K (a.put o.dst y) w'):o.wp P a w K Q:=by
 obtain⟨dst,op,ty,pos,after,guard⟩:=o;have enter:∀(f:Nat) (args:List V) (xs:List Value),self f args st=some (v,st')->RL γ ρ args xs->(execOp a.eval {dst:=dst,op:=op,type:=ty,pos:=pos,after:=after,guard:=guard}).run P w=(callFunc f xs.toArray).run P w->
   Oper.wp P {dst:=dst,op:=op,type:=ty,pos:=pos,after:=after,guard:=guard} a w K Q:=by
  intro f args xs h1 h2 h3;obtain⟨_,⟨fn,f1,f2,f3⟩,h4⟩:=hself f args st v st' h1 hw;unfold Oper.wp;rw[h3,Jgl f1 f2 f3];refine Calls.mono (h4 γ c w xs h2 hrel hfull hnx) fun e w' ⟨y,γ',c',e1,e2⟩=> ?_;subst e1;exact hK y γ' c' w' e2
 have args_ok:∀(l:Array Operand) (ys:List Opd),opds l=some ys->(∀y∈ys,y∈i.opds)->RL γ ρ (evs fr ys) (l.map a.eval).toList:=by
  intro l ys h1 h2;rw[Array.toList_map];unfold opds at h1;generalize l.toList=l at h1
  induction l generalizing ys with
  |nil=>simp at h1;subst h1;simp[evs,RL]
  | cons x l ih=>
    rw[List.mapM_cons]at h1
    cases h3:opd x with
    |none=>simp[h3]at h1
    | some z=>
      cases h4:l.mapM opd with
      |none=>simp[h3,h4]at h1
      | some zs=>
        simp[h3,h4]at h1;subst h1;exact⟨a.eval x,_,rfl,hfr z (h2 z (by simp)) x h3,ih zs (fun y hy=>h2 y (by simp[hy])) h4⟩
 unfold YA at hc
 cases op
 case call cl=>
  simp only at hc
  split at hc
  ·rename_i as has
   split at hc
   ·rename_i f hcal
    split at hc
    ·split at hc
     ·injection hc with hc;subst hc;refine enter f (evs fr as) _ he (args_ok _ _ has fun y hy=>hy) ?_;simp only[execOp,resolve,hcal,Act.eval,Deferred.ofValue,invoke,Sem.run_bind,Sem.run_pure,Result.andThen_ok];congr 2;apply Array.ext';simp
     ·cases hc
    ·cases hc
   ·rename_i x _ hcal
    obtain⟨y,hy,h2⟩:=JA hc;subst h2;have hx:=hfr y (by simp[Iop.opds]) x hy;simp only[Kn]at he
    split at he
    ·rename_i f p q hyf
     rw[hyf]at hx;obtain⟨xs,ys,e1,e2,e3⟩:=hx;refine enter f _ _ he (RL.append (RL.append e2 (args_ok _ _ has fun y hy=>by simp[Iop.opds,hy])) e3) ?_;simp only[execOp,resolve,hcal,e1,Deferred.ofValue,invoke,Sem.run_bind,Sem.run_pure,Result.andThen_ok];congr 2;apply Array.ext';simp
    ·cases he
   ·rename_i b hcal
    exfalso;unfold kX at hc
    (repeat' (split at hc))<;>first
     |(cases hc;done)
     |(injection hc with hc;subst hc;cases hi;done)
     |(obtain⟨_,_,h2⟩:=JA hc;subst h2;cases hi;done)
   ·cases hc
  ·cases hc
 case binOp op t x y yt=>
  exfalso
  cases op<;>simp only at hc<;>(repeat' (split at hc))<;>first
   |(cases hc;done)
   |(injection hc with hc;subst hc;cases hi;done)
   |(obtain⟨_,_,h2⟩:=JA hc;subst h2;cases hi;done)
 case unOp op t x=>
  exfalso
  cases op<;>simp only at hc<;>(repeat' (split at hc))<;>first
   |(cases hc;done)
   |(injection hc with hc;subst hc;cases hi;done)
   |(obtain⟨_,_,h2⟩:=JA hc;subst h2;cases hi;done)
 case makeFunc fn p q=>
  exfalso
  cases fn<;>simp only at hc<;>(repeat' (split at hc))<;>first
   |(cases hc;done)
   |(injection hc with hc;subst hc;cases hi;done)
   |(obtain⟨_,_,h2⟩:=JA hc;subst h2;cases hi;done)
 case makeMap t r=>
  exfalso
  cases r<;>simp only at hc<;>(repeat' (split at hc))<;>first
   |(cases hc;done)
   |(injection hc with hc;subst hc;cases hi;done)
   |(obtain⟨_,_,h2⟩:=JA hc;subst h2;cases hi;done)
 case next it str=>
  exfalso
  cases str<;>simp only at hc<;>(repeat' (split at hc))<;>first
   |(cases hc;done)
   |(injection hc with hc;subst hc;cases hi;done)
   |(obtain⟨_,_,h2⟩:=JA hc;subst h2;cases hi;done)
 all_goals
  exfalso;simp only at hc
  (repeat' (split at hc))<;>first
   |(cases hc;done)
   |(injection hc with hc;subst hc;cases hi;done)
   |(obtain⟨_,_,h2⟩:=JA hc;subst h2;cases hi;done)
end
structure JcK (n:Nat) (a:Act):Prop where
 size:n<=a.tmps.size
 defers:a.defers=[]
theorem JcK.put {n:Nat}{a:Act}(h:JcK n a)(d:Option Tmp)(y:Value):JcK n (a.put d y):=by
 cases d with
 |none=>exact h
 |some d=>exact⟨by simpa[Act.put]using h.size,h.defers⟩
theorem Jg8 {n:Nat}{a:Act}(h:JcK n a){d:Nat}(hd:d<n)(y:Value):(a.put (some d) y).tmps.getD d undef=y:=by
 have:=h.size;simp[Act.put,Array.getD,show d<a.tmps.size by omega]
theorem Jmu {a:Act}{d s:Nat}(h:s≠d)(y:Value):(a.put (some d) y).tmps.getD s undef=a.tmps.getD s undef:=by
 simp[Act.put,Array.getD_eq_getD_getElem?,Array.getElem?_setIfInBounds_ne (Ne.symm h)]
section
variable {P : Program} {γ : Locs} {ρ : Nat -> Value} {base : Bs} {st : St} {c : Pt -> Row} {w : World} {fr : Fr} {a : Act}
theorem Q7 {ops:Array Oper}{ntmps:Nat}{l:List Iop}{draw:Bool}{i:Nat}{o:Oper}{x:Iop}{ins:Ins}(h:kY ops ntmps l draw i o x=some ins):
  ins.dst=o.dst/\ins.op=x/\(∀d,o.dst=some d->d<ntmps)/\(ins.okW=if draw&&x.calls then okWs ops l i else none)/\
  ((o.guard=none/\ins.guard=none)\/∃j want d,o.guard=some (j,want)/\ins.guard=some (d,want)/\(ops[j]?).bind (·.dst)=some d/\d<ntmps):=by
 unfold kY at h;have hd:o.dst.all (·<ntmps)=true->∀d,o.dst=some d->d<ntmps:=fun h d e=>by rw[e]at h;simpa using h
 split at h
 ·rename_i hg
  split at h
  ·rename_i hc
   injection h with h;subst h;exact⟨rfl,rfl,hd hc,rfl, .inl ⟨hg,rfl⟩⟩
  ·cases h
 ·rename_i j want hg
  split at h
  ·rename_i d hj
   split at h
   ·rename_i hc
    injection h with h;subst h;exact⟨rfl,rfl,hd hc.1,rfl, .inr ⟨j,want,d,hg,rfl,hj,hc.2⟩⟩
   ·cases h
  ·cases h
theorem Je7 {self:Self}{ops:Array Oper}{ntmps:Nat}{l:List Iop}{draw:Bool}{i:Nat}{o:Oper}{x:Iop}{ins:Ins}(h:kY ops ntmps l draw i o x=some ins){fr':Fr}{st':St}
  (he:Qh self draw fr st ins=some (fr',st')) (ha:JcK ntmps a) (hg:∀s∈Jaf ops o,R γ ρ (fr s) (a.tmps.getD s undef)):
  (Region.wanted o (yielded ops a.tmps)=true/\∃v,(if draw&&x.calls then Ke self (okWs ops l i) fr st x else Kn self fr st x)=some (v,st')/\fr'=put fr o.dst v)\/
  (Region.wanted o (yielded ops a.tmps)=false/\st'=st/\fr'=put fr o.dst JR):=by
 obtain⟨h1,h2,h3,h4,h5⟩:=Q7 h;have go:evGo self draw fr st ins=some (fr',st')->∃v,(if draw&&x.calls then Ke self (okWs ops l i) fr st x else Kn self fr st x)=some (v,st')/\fr'=put fr o.dst v:=by
  intro hgo;unfold evGo at hgo;rw[h2,h4,h1]at hgo;have hif:(if draw&&x.calls then Ke self (if draw&&x.calls then okWs ops l i else none) fr st x else Kn self fr st x)=(if draw&&x.calls then Ke self (okWs ops l i) fr st x else Kn self fr st x):=by
   split<;>rfl
  rw[hif]at hgo
  split at hgo
  ·rename_i v st2 hv
   injection hgo with hgo;injection hgo with e1 e2;exact⟨v,by rw[hv,e2],e1.symm⟩
  ·cases hgo
 unfold Qh at he;rcases h5 with⟨g1,g2⟩|⟨j,want,d,g1,g2,g3,g4⟩
 ·rw[g2]at he;exact .inl ⟨by simp[Region.wanted,g1],go he⟩
 ·rw[g2]at he;simp only at he;have hr:=hg d (by simp[Jaf,g1,g3]);have hlt:d<a.tmps.size:=by have:=ha.size;omega
  have hget:a.tmps[d]? =some (a.tmps.getD d undef):=by simp[Array.getD,hlt]
  split at he
  ·rename_i b hb
   rw[hb]at hr;have hr:a.tmps.getD d undef= .bool b:=hr;have hy:yielded ops a.tmps j=some b:=by simp[yielded,g3,hget,hr]
   split at he
   ·rename_i hbw
    exact .inl ⟨by simp[Region.wanted,g1,hy];simpa using hbw,go he⟩
   ·rename_i hbw
    injection he with he;injection he with e1 e2;exact .inr ⟨by simp[Region.wanted,g1,hy];simpa using hbw,e2.symm,by rw[<-e1,h1]⟩
  ·rename_i tl hb
   rw[hb]at hr;obtain⟨xs,hr,_⟩:=hr;have hy:yielded ops a.tmps j=none:=by simp[yielded,g3,hget,hr]
   injection he with he;injection he with e1 e2;exact .inr ⟨by simp[Region.wanted,g1,hy],e2.symm,by rw[<-e1,h1]⟩
  ·cases he
end
structure QQ (γ:Locs) (ρ:Nat->Value) (base:Bs) (c:Pt->Row) (st st':St) (w:World) (γ':Locs) (c':Pt->Row) (w':World):Prop where
 rel:Rel γ' ρ base c' w'
 ext:Ext γ γ'
 new:∀r,γ' r≠none->γ r≠none\/(st.nx.num<=r.num/\r.num<st'.nx.num)
 same:∀r,st'.row r=st.row r->c' r=c r
 upto:∀r,st'.row r≠st.row r->c' r=st'.row r
 below:Below base.n w w'
section
variable {P : Program} {γ : Locs} {ρ : Nat -> Value} {base : Bs} {st : St} {c : Pt -> Row} {w : World} {fr : Fr} {a : Act}
theorem Post.s {st':St}{v:V}{γ':Locs}{c':Pt->Row}{y:Value}{w':World}(h:Post γ ρ base c st st' w v γ' c' y w'):QQ γ ρ base c st st' w γ' c' w':=
 ⟨h.rel,h.ext,h.new,h.same,h.upto,h.below⟩
theorem QQ.refl (h:Rel γ ρ base c w):QQ γ ρ base c st st w γ c w:=
 ⟨h,Ext.refl _,fun _ k=> .inl k,fun _ _=>rfl,fun _ k=>absurd rfl k,Below.refl _ _⟩
theorem QQ.full {st':St}{γ':Locs}{c':Pt->Row}{w':World}(h:QQ γ ρ base c st st' w γ' c' w')(hw:WF st)(hf:Full γ c st):Full γ' c' st':=by
 intro r h1 h2;by_cases e:st'.row r=st.row r
 ·rw[h.same r e,e];rw[e]at h2;rcases h.new r h1 with k|⟨k,_⟩
  ·exact hf r k h2
  ·have:=hw.nx r h2;omega
 ·exact h.upto r e
theorem QQ.trans {st1 st2:St}{γ1 γ2:Locs}{c1 c2:Pt->Row}{w1 w2:World}(h:QQ γ ρ base c st st1 w γ1 c1 w1)(k:QQ γ1 ρ base c1 st1 st2 w1 γ2 c2 w2)(hm:Mono st st1)(km:Mono st1 st2)(hw:WF st):
  QQ γ ρ base c st st2 w γ2 c2 w2:=by
 refine⟨k.rel,h.ext.trans k.ext,fun r e=> ?_,fun r e=> ?_,fun r e=> ?_,h.below.trans k.below⟩
 ·have h1:=hm.nx;have h2:=km.nx;rcases k.new r e with e|e
  ·rcases h.new r e with e|e
   ·exact .inl e
   ·exact .inr ⟨by omega,by omega⟩
  ·exact .inr ⟨by omega,by omega⟩
 ·by_cases e1:st1.row r=st.row r
  ·rw[k.same r (by rw[e,e1]),h.same r e1]
  ·exfalso;have h1:=hm.row r e1;have e2:st2.row r≠st1.row r:=fun e2=>e1 (by rw[<-e2,e]);have h2:=km.row r e2;have h3:=hm.t;have h4:=hw.t r (by rw[<-e];exact h2.2);rw[<-e]at h4;omega
 ·by_cases e2:st2.row r=st1.row r
  ·rw[k.same r e2,e2];exact h.upto r (by rw[<-e2];exact e)
  ·exact k.upto r e2
theorem YW {self:Self}(hself:Q0 P ρ base self){x:Iop}{v:V}{st':St}(he:Kn self fr st x=some (v,st'))(hw:WF st):Mono st st':=by
 unfold Kn at he
 split at he
 ·exact(hself _ _ _ _ _ he hw).1
 ·split at he
  ·exact(hself _ _ _ _ _ he hw).1
  ·cases he
 ·obtain⟨⟨v',e⟩,h1,h2⟩:=JA he;injection h2 with _ h2;subst h2;exact Jal hw (jy h1).1
theorem Jam {self:Self}{x:Iop}(hx:x.calls=false){v:V}{st':St}(he:Kn self fr st x=some (v,st')):∃e,evOp fr st x=some (v,e)/\st'=st.ap e:=by
 unfold Kn at he
 split at he
 ·cases hx
 ·cases hx
 ·obtain⟨⟨v',e⟩,h1,h2⟩:=JA he;injection h2 with h2 h3;exact⟨e,by rw[h1,h2],h3.symm⟩
theorem FR.put {γ':Locs}{n:Nat}(h:FR γ ρ fr a)(hx:Ext γ γ')(ha:JcK n a){d:Option Tmp}(hd:∀k,d=some k->k<n){v:V}{y:Value}(hy:R γ' ρ v y):FR γ' ρ (Eva.put fr d v) (a.put d y):=by
 intro s
 cases d with
 |none=>exact(h s).ext hx
 | some d=>
   by_cases e:s=d
   ·subst e;rw[Jg8 ha (hd s rfl)];simpa[Eva.put]using hy
   ·rw[Jmu e];have:Eva.put fr (some d) v s=fr s:=by simp[Eva.put,e]
    rw[this];exact(h s).ext hx
theorem Full.acc {i:Iop}(h:Full γ c st):qz γ c st fr i:=by
 unfold qz
 split
 ·exact h
 ·intro s _ r _ h1 h2;exact h r h1 h2
theorem Post.nofresh {e:Eff}(hf:Yx γ st (st.ap e)):e.makes=true->γ st.nx=none:=fun h=>hf st.nx (Nat.le_refl _) (by rw[Jp3 h];omega)
end
end Eva
