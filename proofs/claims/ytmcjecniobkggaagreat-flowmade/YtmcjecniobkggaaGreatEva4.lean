/- An evaluator of the model's code, proved to tell what the model does. All operations th -/
import Derived.Test.YtmcjecniobkggaaGreatEva3
set_option linter.constructorNameAsVariable false
set_option linter.unusedVariables false
set_option linter.unusedSimpArgs false
set_option linter.unusedSectionVars false
namespace Eva
open Go Go.RowKit
variable {v:St}{e:Iop}{n y:Fr}{t:Eff}{k:V}{z f:Nat}{b:Exit->Act->World->Prop}{d:Opd}{i:Oper}{r:Act->World->Prop}{q:List Nat}{p:Nat->Row}{l:Array Operand}{h:Pt->Row}{g:Self}{m:Option Tmp}{j:Array Oper}{u:Value}{x:World}
section
variable {P : Program} {γ : Locs} {ρ : Nat -> Value} {base : Bs} {st : St} {c : Pt -> Row} {w : World} {fr : Fr} {a : Act}
theorem Jah.A {i:Iop}(h:Jah γ c st fr i){l:List Nat}(e:i.B=some l){a:Operand}{x:Opd}(b:opd a=some x)(f:∀s∈x.B,s∈l):
  ∀r,rowOf (x.A fr)=some r->γ r≠none->st.A r≠ .none->c r=st.A r:=by
 intro r d;obtain⟨s,g,j⟩:=Jp5 b d;unfold Jah at h
 grind
theorem Jh9 {y:Opd}(h:opds l=some [d,y]):∃c e,l= #[c,e]/\opd c=some d/\opd e=some y:=by
 unfold opds at h;rcases l with⟨l⟩
 rcases l with _|⟨p,_|⟨q,_|⟨r,l⟩⟩⟩
 ·simp at h
 ·cases a:opd p<;>simp[a]at h
 ·cases a:opd p with
  |none=>grind
  | some i=>
    cases b:opd q with
    |none=>grind
    | some j=>
      simp[a,b]at h
      grind
 ·exfalso;simp at h
  cases a:opd p<;>cases b:opd q<;>cases f:opd r<;>cases g:l.mapM opd<;>simp[a,b,f,g]at h
theorem Jia (h:opds l=some [d]):∃a,l= #[a]/\opd a=some d:=by
 unfold opds at h;rcases l with⟨l⟩
 rcases l with _|⟨p,_|⟨q,l⟩⟩
 ·simp at h
 ·cases b:opd p with
  |none=>grind
  |some f=>simp_all
 ·exfalso;simp at h
  cases b:opd p<;>cases c:opd q<;>cases e:l.mapM opd<;>simp[b,c,e]at h
theorem JcG (h:QZ k=some z)(b:R γ ρ k u):∃a,u= .int a (z:Int):=by
 unfold QZ at h
 split at h
 ·rename_i a m
  split at h
  ·rename_i c
   injection h with h;refine⟨a, ?_⟩;simp[R]at b
   grind
  grind
 grind
theorem Jkk {b:Builtin}{M:Array TypeId}{ty:TypeId}{args:List Opd}{p:Call}{dst:Option Tmp}{pos:String}{after:Array Edge}{guard:Option (Nat×Bool)}(hρ:∀e,(ρ e).oneCell'=true)
  (ae:p.callee= .builtin b) (aj:p.argTypes=M) (K:opds p.args=some args) (o:jv P b M args=some e)   (m:evOp fr st e=some (k,t))
  (O:FR γ ρ fr a) (y:Rel γ ρ base c w) (af:Jah γ c st fr e) (ak:t.A=true->γ st.b=none):
  OpOK P γ ρ base st c w k t (execOp a.eval {dst:=dst,op:= .call p,type:=ty,pos:=pos,after:=after,guard:=guard}):=by
 have al:∀s:Sem Next,Go.builtin b M ty (p.args.map fun| .const _=>true|_=>false) (p.args.map a.eval)=s->OpOK P γ ρ base st c w k t s->
   OpOK P γ ρ base st c w k t (execOp a.eval {dst:=dst,op:= .call p,type:=ty,pos:=pos,after:=after,guard:=guard}):=by
  intro s W ⟨x,w',γ',h1,h2⟩;refine⟨x,w',γ', ?_,h2⟩;rw[<-W]at h1;simp[execOp,resolve,ae,invoke,aj];exact h1
 apply al _ rfl;have j:∀(l:List Nat),e.B=some l->∀{xo:Operand} {x:Opd},opd xo=some x->(∀s∈x.B,s∈l)->∀r,rowOf (x.A fr)=some r->γ r≠none->st.A r≠ .none->c r=st.A r:=
  fun l hl _ _ Q W=>Jah.A af hl Q W
 unfold jv at o
 split at o
 ·
  rename_i f X x ht
  have L:M[0]? =some f:=by rw[<-ZV,ht];rfl
  obtain⟨xo,Z,S⟩:=Jia K;have Q:=Jm S O;rw[Z];simp[Go.builtin]
  split at o
  ·rename_i hu
   injection o with o;subst o;simp[evOp]at m
   split at m
   ·rename_i n s am
    injection m with m;injection m with ha hb;subst ha;subst hb;rw[am]at Q;exact Jkh L hu Q y
   grind
  ·rename_i el hu
   injection o with o;subst o;simp[evOp]at m
   cases Y:slen (x.A fr)with
   |none=>grind
   | some n=>
     rw[Y]at m;injection m with m;injection m with ha hb;subst ha;subst hb;exact Jhn L hu Y Q y
  grind
 ·
  rename_i f u s x ht
  have L:M= #[f,u]:=by grind
  obtain⟨so,xo,Z,S,e3⟩:=Jh9 K;have W:=Jm S O;have Q:=Jm e3 O;rw[Z,L];simp[Go.builtin]
  split at o
  ·rename_i el ar T aa
   split at o
   ·rename_i ao ag
    split at o
    ·rename_i ab
     injection o with o;subst o;obtain⟨ap,U⟩:=ab
     cases ah:ao.zero with
     |none=>grind
     | some zv=>
       simp[ah,ZB]at U;simp[evOp]at m
       split at m
       ·rename_i g hk
        split at m
        ·rename_i au ai
         split at m
         ·rename_i N
          exact Jsp hρ T aa ag ap ah U W Q (j (s.B++x.B) rfl S (fun q h=>Gv _ h)) (j (s.B++x.B) rfl e3 (fun q h=>Gl _ h)) y ak hk ai N.1 N.2 m
         grind
        grind
       grind
    grind
   grind
  grind
 ·
  rename_i f u X d x ht
  have L:M[0]? =some f:=by rw[<-ZV,ht];rfl
  obtain⟨so,xo,Z,S,e3⟩:=Jh9 K;have W:=Jm S O;have Q:=Jm e3 O;rw[Z];simp[Go.builtin]
  split at o
  ·rename_i el _ T aa
   cases U:szT P el with
   |none=>grind
   | some z=>
     simp[U]at o;subst o;simp only[evOp]at m
     split at m
     ·rename_i n g Y hk
      split at m
      ·rename_i vs ad
       exact Jla hρ T U W Q L (j (d.B++x.B) rfl S (fun q h=>Gv _ h)) (j (d.B++x.B) rfl e3 (fun q h=>Gl _ h)) y Y hk ad m
      grind
     grind
  ·rename_i el T aa
   cases U:szT P el with
   |none=>grind
   | some z=>
     simp[U]at o;subst o;simp only[evOp]at m
     split at m
     ·rename_i n g Y hk
      split at m
      ·rename_i vs ad
       exact Jla hρ T U W Q L (j (d.B++x.B) rfl S (fun q h=>Gv _ h)) (j (d.B++x.B) rfl e3 (fun q h=>Gl _ h)) y Y hk ad m
      grind
     grind
  grind
 ·
  rename_i f X x ht
  have L:M[0]? =some f:=by rw[<-ZV,ht];rfl
  obtain⟨xo,Z,S⟩:=Jia K;have Q:=Jm S O;rw[Z];simp[Go.builtin]
  split at o
  ·rename_i el hu
   split at o
   ·rename_i z zs U aq
    injection o with o;subst o;simp[evOp]at m
    split at m
    ·rename_i n Y
     exact JnG hρ hu aq Q L (j x.B rfl S (fun q h=>h)) y Y m
    grind
   grind
  grind
 grind
theorem JJ {α β:Type}{o:Option α}{f:α->β}{y:β}(h:o.map f=some y):∃x,o=some x/\f x=y:=Hb.1 h
theorem Jib (hρ:∀e,(ρ e).oneCell'=true)(M:YD P i=some e)(L:evOp fr st e=some (k,t))
  (Q:FR γ ρ fr a) (O:Rel γ ρ base c w) (aj:Jah γ c st fr e) (ag:t.A=true->γ st.b=none):
  OpOK P γ ρ base st c w k t (execOp a.eval i):=by
 have ab:∀(l:List Nat),e.B=some l->∀{xo:Operand} {x:Opd},opd xo=some x->(∀s∈x.B,s∈l)->∀r,rowOf (x.A fr)=some r->γ r≠none->st.A r≠ .none->c r=st.A r:=
  fun l hl _ _ S hs=>Jah.A aj hl S hs
 obtain⟨dst,op,ty,pos,after,guard⟩:=i;unfold YD at M
 cases op
 case move x=>
  obtain⟨y,Z,X⟩:=JJ M;subst X;injection L with L;injection L with U T;subst U;subst T;exact OpOK.A O (y:=a.eval x) rfl (Jm Z Q)
 case assign x=>
  obtain⟨y,Z,X⟩:=JJ M;subst X;injection L with L;injection L with U T;subst U;subst T;exact OpOK.A O (y:=a.eval x) rfl (Jm Z Q)
 case pick x y z=>
  simp at M
  split at M
  ·rename_i c' a' b' Z X h3
   injection M with M;subst M;simp[evOp]at L
   split at L
   ·rename_i g ht
    injection L with L;injection L with U T;subst U;subst T;have S:=Jm Z Q;rw[ht]at S;have S:a.eval x= .bool g:=S;refine OpOK.A O (y:=if g then a.eval y else a.eval z) ?_ ?_
    ·simp[execOp,S,asBool]
    ·cases g
     ·exact Jm h3 Q
     ·exact Jm X Q
   grind
  grind
 case alloc g=>
  obtain⟨zs,Z,X⟩:=JJ M;subst X;injection L with L;injection L with U T;subst U;subst T;exact Jnt Z O (ag rfl)
 case box g x=>
  obtain⟨y,Z,X⟩:=JJ M;subst X;simp[evOp]at L
  split at L
  ·rename_i vs ap
   split at L
   ·injection L with L;injection L with U T;subst U;subst T;exact Jsk hρ ap (Jm Z Q) O (ag rfl)
   grind
  grind
 case build g ps=>
  simp only at M
  split at M
  ·rename_i fs zs hu hz
   split at M
   ·rename_i l hp
    split at M
    ·rename_i ar
     injection M with M;subst M;obtain⟨l',Z,X⟩:=JJ L;injection X with U T;subst U;subst T;exact JdO hρ hu hz hp ar Q Z O
    grind
   grind
  ·rename_i a6 el zs hu hz
   split at M
   ·rename_i n hn
    obtain⟨l,hp,X⟩:=JJ M;subst X;obtain⟨l',Z,X⟩:=JJ L;injection X with U T;subst U;subst T;exact Jeb hρ hu hz hn hp Q Z O
   grind
  grind
 case buildSlice g n ps=>
  simp at M
  split at M
  ·rename_i el hu
   split at M
   ·rename_i z zs aw hz
    split at M
    ·rename_i l hp
     split at M
     ·rename_i W
      injection M with M;subst M;simp[evOp]at L
      split at L
      ·rename_i l' hf
       split at L
       ·rename_i hl
        injection L with L;injection L with U T;subst U;subst T;exact Jsl hρ hu aw hz W.2 W.1 hp Q hf hl.2 O (ag rfl)
       grind
      grind
     grind
    grind
   grind
  grind
 case load g x=>
  simp at M
  split at M
  ·rename_i n y hg hn S
   injection M with M;subst M;obtain⟨l,Z,X⟩:=JJ L;injection X with U T;subst U;subst T;exact Jnv (Jm S Q) (ab y.B rfl S (fun q h=>h)) O hg hn Z
  ·rename_i y hg S
   injection M with M;subst M;simp[evOp]at L
   split at L
   ·rename_i u hl
    injection L with L;injection L with U T;subst U;subst T;exact Jnu (Jm S Q) (ab y.B rfl S (fun q h=>h)) O hg hl
   grind
  grind
 case store g x z=>
  simp at M
  split at M
  ·rename_i n y u hn S hz
   injection M with M;subst M;simp[evOp]at L
   split at L
   ·rename_i vs ap
    split at L
    ·rename_i hl
     obtain⟨e',Z,X⟩:=JJ L;injection X with U T;subst U;subst T;exact Jnw hρ (Jm S Q) (Jm hz Q) (ab y.B rfl S (fun q h=>h)) O hn ap hl Z
    grind
   grind
  grind
 case nilCheck x=>
  obtain⟨y,Z,X⟩:=JJ M;subst X;have S:=Jm Z Q;simp[evOp]at L
  split at L
  ·rename_i r i hy
   injection L with L;injection L with U T;subst U;subst T;rw[hy]at S;refine Jh3 S O (.inl ⟨_,_,rfl⟩) (fun ad h=> ?_) (fun f p q h=> ?_)<;>simp[execOp,h]
  ·rename_i f p q hy
   injection L with L;injection L with U T;subst U;subst T;rw[hy]at S;refine Jh3 S O (.inr ⟨_,_,_,rfl⟩) (fun ad h=> ?_) (fun f p q h=> ?_)<;>simp[execOp,h]
  grind
 case binOp op g x y yt=>
  have a4:∀(au:op≠ .eql/\op≠ .neq),(match opd x,opd y with
    |some x,some y=>some (Iop.N op x y)
    |_,_=>none)=some e->OpOK P γ ρ base st c w k t (execOp a.eval {dst:=dst,op:= .binOp op g x y yt,type:=ty,pos:=pos,after:=after,guard:=guard}):=by
   intro au M
   split at M
   ·rename_i x' y' S hy
    injection M with M;subst M;obtain⟨r,Z,X⟩:=JJ L;injection X with U T;subst U;subst T;exact Jny Z (Jm S Q) (Jm hy Q) O g x y au
   grind
  cases op
  case eql=>
   simp at M
   split at M
   ·rename_i ek x' y' hk S hy
    injection M with M;subst M;obtain⟨b,Z,X⟩:=JJ L;injection X with U T;subst U;subst T;exact Jro (.inl ⟨rfl,rfl⟩) hk Z (Jm S Q) (Jm hy Q) O x y
   grind
  case neq=>
   simp at M
   split at M
   ·rename_i ek x' y' hk S hy
    injection M with M;subst M;obtain⟨b,Z,X⟩:=JJ L;injection X with U T;subst U;subst T;exact Jro (.inr ⟨rfl,rfl⟩) hk Z (Jm S Q) (Jm hy Q) O x y
   grind
  all_goals grind
 case unOp op g x=>
  cases op
  case not=>
   obtain⟨y,Z,X⟩:=JJ M;subst X;have S:=Jm Z Q;simp[evOp]at L
   split at L
   ·rename_i b T
    rw[T]at S;injection L with L;injection L with U T;subst U;subst T;exact Jsm S O
   grind
  all_goals cases M
 case convert s d x=>
  simp at M
  split at M
  ·rename_i k0 K y Z X S
   injection M with M;subst M;have S:=Jm S Q;simp[evOp]at L
   split at L
   ·rename_i k1 n T
    rw[T]at S;injection L with L;injection L with U T;subst U;subst T;exact Jnz Z X S O
   grind
  ·rename_i el y Z X S
   split at M
   ·rename_i ax
    split at M
    ·injection M with M;subst M;simp[evOp]at L
     split at L
     ·rename_i n hn
      split at L
      ·rename_i l hl
       obtain⟨s',h3,h4⟩:=JJ L;injection h4 with U T;subst U;subst T;exact Jsn Z X ax (Jm S Q) (ab y.B rfl S (fun q h=>h)) O hn hl h3
      grind
     grind
    grind
   grind
  grind
 case makeFunc fn p q=>
  cases fn
  case func f=>
   simp at M
   split at M
   ·rename_i ps qs Z X
    injection M with M;subst M;injection L with L;injection L with U T;subst U;subst T;exact Jp7 Z X Q O
   grind
  all_goals cases M
 case makeMap g r=>
  cases r
  case none=>
   injection M with M;subst M;injection L with L;injection L with U T;subst U;subst T;exact JnA O (ag rfl)
  grind
 case makeSlice g n cp=>
  simp at M
  split at M
  ·rename_i el hu
   split at M
   ·rename_i a7 zs n' c' Z X h3 h4
    split at M
    ·rename_i ay
     injection M with M;subst M;simp[evOp]at L
     split at L
     ·rename_i n1 c1 hn az
      split at L
      ·rename_i W
       injection L with L;injection L with U T;subst U;subst T;exact Jp8 hu Z X ay (Jm h3 Q) (Jm h4 Q) hn az W.1 W.2.1 W.2.2 O (ag rfl)
      grind
     grind
    grind
   grind
  grind
 case slice g x lo hi mx=>
  simp at M
  split at M
  ·rename_i y a8 a9 ba S Z X h3
   split at M
   ·cases M
   ·rename_i ah
    have hm:mx.isSome->hi.isSome:=fun h=>by
     cases mx with
     |none=>cases h
     | some m=>
       cases hi with
       |some=>rfl
       | none=>
         simp[opdO]at X;subst X;obtain⟨m',_,h4⟩:=JJ h3
         grind
    split at M
    ·rename_i hu
     split at M
     ·rename_i hn
      injection M with M;subst M;have a0:mx=none:=by
       cases mx with
       |none=>rfl
       | some m=>
         obtain⟨m',_,h4⟩:=JJ h3
         grind
      subst a0;have S:=Jm S Q;simp[evOp]at L
      split at L
      ·rename_i n s hy
       rw[hy]at S
       split at L
       ·rename_i l h hl hh
        split at L
        ·rename_i W
         injection L with L;injection L with U T;subst U;subst T;exact Jp9 hu S Z X Q hl hh W.1 W.2 O
        grind
       grind
      grind
     grind
    ·rename_i el hu
     obtain⟨z,hz,h4⟩:=JJ M;subst h4;obtain⟨v',h5,h6⟩:=JJ L;injection h6 with U T;subst U;subst T;exact Jqa hu hz (Jm S Q) Z X h3 hm Q h5 O
    ·rename_i n el hu
     obtain⟨z,hz,h4⟩:=JJ M;subst h4;have ae:=ab y.B rfl S (fun q h=>h);have S:=Jm S Q;simp[evOp]at L
     split at L
     ·rename_i r i hy
      rw[hy]at S ae
      split at L
      ·rename_i tt l Y
       split at L
       ·rename_i bb
        obtain⟨v',h5,h6⟩:=JJ L;injection h6 with U T;subst U;subst T;refine Jqb hu hz S (fun lc a1=> ?_) Z X h3 hm Q h5 O;obtain⟨l',k1,_,_,k4⟩:=YE O S (ae r rfl) Y (by simp);rw[a1]at k1;injection k1 with k1;subst k1;obtain⟨bc,a5,fz,_,_,k5,_⟩:=k4;omega
       grind
      grind
     grind
    grind
  grind
 case fieldAddr g x f=>
  simp only at M
  split at M
  ·rename_i fs y hu S
   split at M
   ·rename_i fd hf
    split at M
    ·rename_i n hn
     split at M
     ·rename_i h0
      injection M with M;subst M;have S:=Jm S Q;simp[evOp]at L
      split at L
      ·rename_i r q hy
       rw[hy]at S;injection L with L;injection L with U T;subst U;subst T;exact JnB hu hf hn h0 S O
      grind
     grind
    grind
   grind
  grind
 case field g x f=>
  simp at M
  split at M
  ·rename_i fs y hu S
   split at M
   ·rename_i fd hf
    split at M
    ·rename_i n hg hn
     injection M with M;subst M;have S:=Jm S Q;simp[evOp]at L
     split at L
     ·rename_i l hy
      rw[hy]at S
      split at L
      ·injection L with L;injection L with U T;subst U;subst T;exact Jkf hu hf hg hn S O
      grind
     grind
    ·rename_i hg
     injection M with M;subst M;have S:=Jm S Q;simp[evOp]at L
     split at L
     ·rename_i l hy
      rw[hy]at S;obtain⟨u,Z,X⟩:=JJ L;injection X with U T;subst U;subst T;exact Jkg hu hf hg S Z O
     grind
    grind
   grind
  grind
 case indexAddr g x ix=>
  simp at M
  split at M
  ·rename_i el y j hu S hj
   obtain⟨z,hz,h4⟩:=JJ M;subst h4;have S:=Jm S Q;have hj:=Jm hj Q;simp[evOp]at L
   split at L
   ·rename_i K r i n z' hk hy
    obtain⟨kk,ak⟩:=JcG hk hj;rw[hy]at S
    split at L
    ·rename_i W
     injection L with L;injection L with U T;subst U;subst T;obtain⟨l,ad,cp,k1,k2,k3,k4,_⟩:=S;simp[execOp,k2,ak];exact JfY hu hz k1 W.1 k3 k4 O
    grind
   ·rename_i K r i n z' cp hk hy
    obtain⟨kk,ak⟩:=JcG hk hj;rw[hy]at S
    split at L
    ·rename_i W
     injection L with L;injection L with U T;subst U;subst T;obtain⟨l,ad,k1,k2,k3,k4,_⟩:=S;simp[execOp,k2,ak];exact JfY hu hz k1 W.1 k3 k4 O
    grind
   grind
  grind
 case index g x ix=>
  simp at M
  split at M
  ·rename_i y j hu S hj
   injection M with M;subst M;have S:=Jm S Q;have hj:=Jm hj Q;simp[evOp]at L
   split at L
   ·rename_i K n s hk hy
    obtain⟨kk,ak⟩:=JcG hk hj;rw[hy]at S
    split at L
    ·rename_i W
     injection L with L;injection L with U T;subst U;subst T;simp[execOp,ak];exact Jqc hu S W O
    grind
   grind
  grind
 case lookup g x ix ok=>
  simp at M
  split at M
  ·rename_i kt et m K hu hm hk
   split at M
   ·rename_i ek z ai hz
    injection M with M;subst M;simp[evOp]at L
    split at L
    ·rename_i es av
     split at L
     ·cases L
     ·rename_i af
      have af:ek.A (K.A fr)=true:=by grind
      have ae:=ab m.B rfl hm (fun q h=>h)
      split at L
      ·rename_i i' w' aa
       injection L with L;injection L with U T;subst T;exact JfZ hu ai hz (Jm hm Q) (Jm hk Q) ae av af (.inl ⟨_,_,aa,U.symm⟩) O
      ·rename_i aa
       injection L with L;injection L with U T;subst T;exact JfZ hu ai hz (Jm hm Q) (Jm hk Q) ae av af (.inr ⟨aa,U.symm⟩) O
      grind
    grind
   grind
  grind
 case next it str=>
  cases str
  ·obtain⟨y,Z,X⟩:=JJ M;subst X;have S:=Jm Z Q;have al:Full γ c st:=aj;simp only[evOp]at L
   split at L
   ·rename_i r hy
    rw[hy]at S
    split at L
    ·rename_i tt n0 a2 Y
     injection L with L;injection L with U T;subst U;subst T;exact Jhr S (al r) Y O
    ·rename_i tt m n0 a2 Y
     split at L
     ·rename_i t2 es hm
      split at L
      ·cases L
      ·rename_i hn
       exact JnH S al Y hm (by omega) O L
     grind
    grind
   grind
  ·obtain⟨y,Z,X⟩:=JJ M;subst X;have S:=Jm Z Q;have ae:=ab y.B rfl Z (fun q h=>h);simp[evOp]at L
   split at L
   ·rename_i r hy
    rw[hy]at S ae
    split at L
    ·rename_i tt n s q Y
     split at L
     ·rename_i ao
      split at L
      ·rename_i T
       injection L with L;injection L with U aq;subst U;subst aq;exact JnE S (ae r rfl) Y ao T O
      ·injection L with L;injection L with U aq;subst U;subst aq;exact JfN S (ae r rfl) Y ao O
     ·rename_i ao
      injection L with L;injection L with U T;subst U;subst T;exact Jhq S (ae r rfl) Y ao O
    grind
   grind
 case range g x=>
  simp at M
  split at M
  ·rename_i y hu S
   injection M with M;subst M;have S:=Jm S Q;simp[evOp]at L
   split at L
   ·rename_i n s hy
    rw[hy]at S;injection L with L;injection L with U T;subst U;subst T;exact Jqd hu S O (ag rfl)
   grind
  ·rename_i kt et y hu S
   injection M with M;subst M;have ae:=ab y.B rfl S (fun q h=>h);have S:=Jm S Q;simp[evOp]at L
   split at L
   ·rename_i hy
    rw[hy]at S;injection L with L;injection L with U T;subst U;subst T;exact Jh7 hu S O (ag rfl)
   ·rename_i r hy
    rw[hy]at S ae
    split at L
    ·rename_i tt es Y
     injection L with L;injection L with U T;subst U;subst T;exact Jqe hu S (ae r rfl) Y O (ag rfl)
    grind
   grind
  grind
 case extract x n=>
  obtain⟨y,Z,X⟩:=JJ M;subst X;have S:=Jm Z Q;simp[evOp]at L
  split at L
  ·rename_i l hy
   rw[hy]at S;obtain⟨u,Z,X⟩:=JJ L;injection X with U T;subst U;subst T;exact Jso S Z O
  grind
 case mapUpdate g m K x=>
  simp at M
  split at M
  ·rename_i kt et m' k' x' hu hm hk S
   split at M
   ·rename_i ek ai
    split at M
    ·rename_i am
     injection M with M;subst M;have ae:=ab m'.B rfl hm (fun q h=>h);have ah:=Jm hm Q;simp[evOp]at L
     split at L
     ·rename_i r hy
      rw[hy]at ah ae
      split at L
      ·rename_i tt es Y
       split at L
       ·cases L
       ·rename_i af
        have af:ek.A (k'.A fr)=true:=by grind
        split at L
        ·rename_i i' w' aa
         injection L with L;injection L with U T;subst U;subst T;exact JdS hu ai am ah (Jm hk Q) (Jm S Q) (ae r rfl) Y af (.inl ⟨_,_,aa,rfl⟩) O
        ·rename_i aa
         injection L with L;injection L with U T;subst U;subst T;exact JdS hu ai am ah (Jm hk Q) (Jm S Q) (ae r rfl) Y af (.inr ⟨aa,rfl⟩) O
        grind
      grind
     grind
    grind
   grind
  grind
 case insert g m K x=>
  simp at M
  split at M
  ·rename_i kt et m' k' x' hu hm hk S
   split at M
   ·rename_i ek ai
    split at M
    ·rename_i am
     injection M with M;subst M;have ae:=ab m'.B rfl hm (fun q h=>h);have ah:=Jm hm Q;simp[evOp]at L
     split at L
     ·rename_i r hy
      rw[hy]at ah ae
      split at L
      ·rename_i tt es Y
       split at L
       ·cases L
       ·rename_i af
        have af:ek.A (k'.A fr)=true:=by grind
        split at L
        ·rename_i i' w' aa
         injection L with L;injection L with U T;subst U;subst T;exact JdS hu ai am ah (Jm hk Q) (Jm S Q) (ae r rfl) Y af (.inl ⟨_,_,aa,rfl⟩) O
        ·rename_i aa
         injection L with L;injection L with U T;subst U;subst T;exact JdS hu ai am ah (Jm hk Q) (Jm S Q) (ae r rfl) Y af (.inr ⟨aa,rfl⟩) O
        grind
      grind
     grind
    grind
   grind
  grind
 case call cl=>
  simp at M
  split at M
  ·rename_i as a3
   split at M
   ·split at M
    ·split at M
     ·injection M with M;subst M;cases L
     grind
    grind
   ·obtain⟨y,_,X⟩:=JJ M;subst X
    cases L
   ·rename_i b T
    exact Jkk hρ T rfl a3 M L Q O aj ag
   grind
  grind
 all_goals cases M
end
structure WF (st:St):Prop where
 a:∀r,st.A r≠ .none->r.A<st.b.A
 t:∀r,st.A r≠ .none->(st.A r).A<st.t
structure Mono (st st':St):Prop where
 wf:WF st'
 t:st.t<=st'.t
 i:st.b.A<=st'.b.A
 d:∀r,st'.A r≠st.A r->st.t<=(st'.A r).A/\st'.A r≠ .none
 g:st'.a<=st.a
 j:∀r,st.A r≠ .none->st'.A r≠st.A r->st'.a<=(st.A r).A
 f:∀r,st.A r= .none->st'.A r≠ .none->st.b.A<=r.A
theorem Mono.B (h:WF v):Mono v v:=⟨h,Xb _,Xb _,fun _ k=>absurd rfl k,Xb _,fun _ _ k=>absurd rfl k,fun _ e k=>absurd e k⟩
theorem Mono.A {a b c:St}(h:Mono a b)(k:Mono b c):Mono a c:=by
 refine⟨k.wf,X0 h.t k.t,X0 h.i k.i,fun r e=> ?_,X0 k.g h.g,fun r m n=> ?_,fun r m n=> ?_⟩
 ·by_cases l:c.A r=b.A r
  ·rw[l]at e⊢;exact h.d r e
  ·exact⟨X0 h.t (k.d r l).1,(k.d r l).2⟩
 ·by_cases l:b.A r=a.A r
  ·have:=k.j r (by grind) (by grind)
   grind
  ·exact X0 k.g (h.j r m l)
 ·by_cases l:b.A r= .none
  ·exact X0 h.i (k.f r l n)
  ·exact h.f r m l
def Eff.B (st:St):Eff->Prop
 | .a=>True
 | .b f=>∀u,(f u).A=u/\f u≠ .none
 | .d r t f=>st.A r≠ .none/\(st.A r).A=t/\∀u,(f u).A=u/\f u≠ .none
 | .e r t f=>st.A r≠ .none/\(st.A r).A=t/\∀u,(f u).A=u/\f u≠ .none
theorem ja (h:WF v)(k:∀u,(p u).A=u/\p u≠ .none):Mono v (v.B p):=by
 have l:v.A v.b= .none:=by
  apply Xf;intro e;exact absurd (h.a _ e) (Z9 _)
 have c:∀r,(v.B p).A r=upd v.A v.b (p v.t) r:=fun r=>by rw[St.F]
 have i:(v.B p).b.A=v.b.A+1:=Pt.D _;have m:(v.B p).t=v.t+1:=rfl;refine⟨⟨fun r e=> ?_,fun r e=> ?_⟩,by omega,by omega,fun r e=> ?_,Xb _,fun r j g=> ?_,fun r j g=> ?_⟩
 ·rw[c]at e;by_cases d:r=v.b
  ·grind
  ·rw[Ju _ _ d]at e;have:=h.a r e;omega
 ·rw[c]at e⊢;by_cases d:r=v.b
  ·simp_all
  ·rw[Ju _ _ d]at e⊢;have:=h.t r e;omega
 ·rw[c]at e⊢;by_cases d:r=v.b
  ·simp_all
  ·rw[Ju _ _ d]at e;grind
 ·rw[c]at g;by_cases d:r=v.b
  ·grind
  ·rw[Ju _ _ d]at g;grind
 ·rw[c]at g;by_cases d:r=v.b
  ·grind
  ·rw[Ju _ _ d]at g;grind
theorem Q9 (h:WF v){p:Pt}{f:Nat->Row}(i:v.A p≠ .none)(n:(v.A p).A=z)(o:∀u,(f u).A=u/\f u≠ .none):Mono v (v.D p z f):=by
 have c:∀r,(v.D p z f).A r=upd v.A p (f v.t) r:=fun r=>by rw[St.G]
 have j:(v.D p z f).a<=v.a:=by show(if z<v.a then z else v.a)<=v.a;grind
 have k:(v.D p z f).a<=z:=by show(if z<v.a then z else v.a)<=z;grind
 have q:(v.D p z f).t=v.t+1:=rfl;have l:(v.D p z f).b=v.b:=rfl;refine⟨⟨fun r e=> ?_,fun r e=> ?_⟩,by omega,by grind,fun r e=> ?_,j,fun r m g=> ?_,fun r m g=> ?_⟩
 ·rw[c]at e;rw[l];by_cases d:r=p
  ·subst d;exact h.a _ i
  ·rw[Ju _ _ d]at e;exact h.a r e
 ·rw[c]at e⊢;by_cases d:r=p
  ·simp_all
  ·rw[Ju _ _ d]at e⊢;have:=h.t r e;omega
 ·rw[c]at e⊢;by_cases d:r=p
  ·simp_all
  ·rw[Ju _ _ d]at e;grind
 ·rw[c]at g;by_cases d:r=p
  ·grind
  ·rw[Ju _ _ d]at g;grind
 ·rw[c]at g;by_cases d:r=p
  ·grind
  ·rw[Ju _ _ d]at g;grind
theorem Jlb (h:WF v){e:Eff}(g:e.B v):Mono v (v.I e):=by
 cases e with
 |a=>exact Mono.B h
 |b f=>exact ja h g
 |d r t f=>exact Q9 h g.1 g.2.1 g.2.2
 | e r t f=>
   have i:=Q9 (f:= .c) h g.1 g.2.1 (fun u=>⟨rfl,by simp⟩);exact i.A (ja i.wf g.2.2)
def Eff.F :Eff->Option Pt
 | .d r _ _=>some r
 | .e r _ _=>some r
 |_=>none
def Jek (fr:Fr)(st:St)(i:Iop)(e:Eff):Prop:=
 e.B st/\∀r,e.F=some r->i.F=true/\(∀s∈i.D,rowOf (fr s)=some r)
theorem Jek.A {st:St}{i:Iop}:Jek n st i .a:=⟨trivial,fun _ h=>by cases h⟩
theorem Jek.B (h:∀u,(p u).A=u/\p u≠ .none):Jek n v e (.b p):=⟨h,fun _ h=>by cases h⟩
theorem jb {r:Pt}(h:rowOf (d.A n)=some r):∀s∈d.B,rowOf (n s)=some r:=by
 intro s a
 cases d with
 |s i=>simp[Opd.B]at a;subst a;exact h
 |c v=>simp[Opd.B]at a
theorem JcH {f:List V}(g:rowOf k=rowOf (d.A n))(h:JO v k f=some t)(j:e.F=true)(l:e.D=d.B):Jek n v e t:=by
 unfold JO at h
 split at h
 ·rename_i r o
  split at h
  ·rename_i a m b
   split at h
   ·injection h with h;subst h;refine⟨⟨(by grind),(by rw[b];rfl),fun u=>⟨rfl,by simp⟩⟩,fun q c=> ?_⟩;injection c with c;subst c;exact⟨j,by rw[l];exact jb g.symm⟩
   grind
  grind
 grind
theorem Jf0 {p:V}(h:jQ k=some p):rowOf p=rowOf k:=by
 unfold jQ at h
 split at h<;>first|(injection h with h;subst h;rfl)|cases h
theorem Jqi {i:List V}{x:Opd}(h:JI v z f i (d.A n)=some (k,t)):Jek n v (.app z d x) t:=by
 unfold JI at h
 split at h
 ·split at h
  ·injection h with h;injection h with _ h;subst h;exact .A
  grind
 ·split at h
  ·injection h with h;injection h with _ h;subst h;exact .B fun u=>⟨rfl,by simp⟩
  ·rename_i r o a m j
   split at h
   ·cases h
   ·split at h
    ·rename_i b l c
     split at h
     ·injection h with h;injection h with _ h;subst h;refine⟨⟨(by grind),(by rw[c];rfl),fun u=>⟨rfl,by simp⟩⟩,fun q g=> ?_⟩;injection g with g;subst g;exact⟨rfl,jb (by rw[j];rfl)⟩
     grind
    grind
  ·rename_i r o a m p j
   split at h
   ·cases h
   ·split at h
    ·rename_i b l c
     split at h
     ·split at h
      ·split at h
       ·injection h with h;injection h with _ h;subst h;refine⟨⟨(by grind),(by rw[c];rfl),fun u=>⟨rfl,by simp⟩⟩,fun q g=> ?_⟩;injection g with g;subst g;exact⟨rfl,jb (by rw[j];rfl)⟩
       grind
      ·injection h with h;injection h with _ h;subst h;exact .B fun u=>⟨rfl,by simp⟩
     grind
    grind
  grind
theorem Jal (h:evOp n v e=some (k,t)):Jek n v e t:=by
 cases e<;>simp only[evOp]at h
 case store a x y=>
  split at h
  ·split at h
   ·obtain⟨K,o,g⟩:=JJ h;injection g with _ g;subst g;exact JcH rfl o rfl rfl
   grind
  grind
 case app z s x=>
  split at h
  ·split at h
   ·split at h
    ·exact Jqi h
    grind
   grind
  grind
 case copy z d x=>
  split at h
  ·split at h
   ·split at h
    ·injection h with h;injection h with _ h;subst h;exact .A
    ·split at h
     ·rename_i p w
      obtain⟨K,o,g⟩:=JJ h;injection g with _ g;subst g;exact JcH (Jf0 w) o rfl rfl
     grind
   grind
  grind
 case clear z N x=>
  split at h
  ·split at h
   ·injection h with h;injection h with _ h;subst h;exact .A
   ·split at h
    ·rename_i p w
     split at h
     ·obtain⟨K,o,g⟩:=JJ h;injection g with _ g;subst g;exact JcH (Jf0 w) o rfl rfl
     grind
    grind
  grind
 case mupd O m b x=>
  split at h
  ·rename_i r l
   split at h
   ·rename_i c P f
    split at h
    ·cases h
    ·split at h<;>first
      |(cases h;done)
      | (injection h with h;injection h with _ h;subst h
         refine⟨⟨(by grind),(by rw[f];rfl),fun u=>⟨rfl,by simp⟩⟩,fun q j=> ?_⟩;injection j with j;subst j;exact⟨rfl,jb (by rw[l];rfl)⟩)
   grind
  grind
 case nextS x=>
  split at h
  ·rename_i r l
   split at h
   ·rename_i c a s L f
    split at h
    ·split at h
     ·injection h with h;injection h with _ h;subst h;refine⟨⟨(by grind),(by rw[f];rfl),fun u=>⟨rfl,by simp⟩⟩,fun q j=> ?_⟩;injection j with j;subst j;exact⟨rfl,jb (by rw[l];rfl)⟩
     ·injection h with h;injection h with _ h;subst h;refine⟨⟨(by grind),(by rw[f];rfl),fun u=>⟨rfl,by simp⟩⟩,fun q j=> ?_⟩;injection j with j;subst j;exact⟨rfl,jb (by rw[l];rfl)⟩
    ·injection h with h;injection h with _ h;subst h;exact .A
   grind
  grind
 case nextM x=>
  split at h
  ·rename_i r l
   split at h
   ·injection h with h;injection h with _ h;subst h;exact .A
   ·rename_i c m Q M f
    split at h
    ·split at h
     ·cases h
     ·split at h
      ·injection h with h;injection h with _ h;subst h;refine⟨⟨(by grind),(by rw[f];rfl),fun u=>⟨rfl,by simp⟩⟩,fun q j=> ?_⟩;injection j with j;subst j;exact⟨rfl,jb (by rw[l];rfl)⟩
      ·injection h with h;injection h with _ h;subst h;exact .A
    grind
   grind
  grind
 all_goals (repeat' (split at h))<;>first
  |(cases h;done)
  |(injection h with h;injection h with _ h;subst h;exact .A)
  |(injection h with h;injection h with _ h;subst h;exact .B fun u=>⟨rfl,by simp⟩)
  |(obtain⟨_,_,g⟩:=JJ h;injection g with _ g;subst g;exact .A)
theorem Jf1 {l:List Opd}(h:∀x∈l,x.A n=x.A y):evs n l=evs y l:=Hk h
theorem Jel {l:List (Nat×Nat×Opd)}(h:∀x∈l.map (·.2.2),x.A n=x.A y):evps n l=evps y l:=
 Hk fun p a=>by grind
theorem QM {o:Option Opd}(h:∀x∈Ja1 o,x.A n=x.A y):o.map (Opd.A n)=o.map (Opd.A y):=by
 cases o with
 |none=>rfl
 |some x=>simp[h x (by simp[Ja1])]
theorem Jkl (h:∀x∈e.J,x.A n=x.A y):evOp n v e=evOp y v e:=by
 cases e<;>simp only[Iop.J,Xw,List.not_mem_nil,or_false,forall_eq_or_imp,forall_eq,Xy]at h
 case build k l=>simp only[evOp,Jel h]
 case bsl z a k l=>simp[evOp,Jel h]
 case mkfn f p q=>simp[evOp,Jf1 fun x b=>h x (.inl b),Jf1 fun x b=>h x (.inr b)]
 case cutS x g j=>simp[evOp,h.1,QM fun x b=>h.2 x (.inl b),QM fun x b=>h.2 x (.inr b)]
 case cutL z x g j m=>simp[evOp,h.1,QM fun x b=>h.2 x (.inl b),QM fun x b=>h.2 x (.inr (.inl b)),QM fun x b=>h.2 x (.inr (.inr b))]
 case cutA a z x g j m=>simp[evOp,h.1,QM fun x b=>h.2 x (.inl b),QM fun x b=>h.2 x (.inr (.inl b)),QM fun x b=>h.2 x (.inr (.inr b))]
 all_goals first
  |rfl
  |simp[evOp,h]
  |(obtain⟨c,d⟩:=h;simp[evOp,c,d])
  |(obtain⟨c,d,o⟩:=h;simp[evOp,c,d,o])
def only (l:List Nat)(fr:Fr):Fr:=fun s=>if s∈l then fr s else .y
theorem Jqj (h:z∈q):only q n z=n z:=Xd h
theorem Jlc (h:∀s∈d.B,s∈q):d.A (only q n)=d.A n:=by
 cases d with
 |s i=>exact Jqj (h i (by simp[Opd.B]))
 |c v=>rfl
theorem Jm1 :evOp (only e.H n) v e=evOp n v e:=
 Jkl fun x a=>Jlc fun s b=>by
  unfold Iop.H
  grind
structure Post (γ:Locs) (ρ:Nat->Value) (base:Bs) (c:Pt->Row) (st st':St) (w:World) (v:V) (γ':Locs) (c':Pt->Row) (y:Value) (w':World):Prop where
 f:R γ' ρ v y
 rel:Rel γ' ρ base c' w'
 d:Ext γ γ'
 g:∀r,γ' r≠none->γ r≠none\/(st.b.A<=r.A/\r.A<st'.b.A)
 a:∀r,st'.A r=st.A r->c' r=c r
 b:∀r,st'.A r≠st.A r->c' r=st'.A r
 below:Below base.n w w'
def YA (γ:Locs)(st st':St):Prop:=∀r,st.b.A<=r.A->r.A<st'.b.A->γ r=none
def Yc (P:Program)(ρ:Nat->Value)(base:Bs)(self:Self):Prop:=
 ∀ f args st v st', self f args st = some (v, st') -> WF st -> Mono st st' /\ (∃ fn, P.funcs[f]? = some fn /\ fn.body.isSome = true /\ fn.name ≠ "runtime.NumGoroutine") /\
  ∀γ c w xs,RL γ ρ args xs->Rel γ ρ base c w->Full γ c st->YA γ st st'->
   Calls P f xs.toArray w fun e w'=>∃y γ' c',e= .returned y/\Post γ ρ base c st st' w v γ' c' y w'
section
variable {P : Program} {γ : Locs} {ρ : Nat -> Value} {base : Bs} {st : St} {c : Pt -> Row} {w : World} {fr : Fr} {a : Act}
theorem Jld {e:Eff}(k:WF st)(j:e.B st)(r:Pt):(e.D st st.A r=st.A r->e.D st c r=c r)/\(e.D st st.A r≠st.A r->e.D st c r=e.D st st.A r):=by
 have g:∀(f:Nat->Row) (q:Pt) (u:Nat),(∀u,(f u).A=u/\f u≠ .none)->st.t<=u->f u≠st.A q:=fun f q u l m e=>by
  have n:=k.t q (by grind)
  grind
 cases e with
 |a=>exact⟨fun _=>rfl,fun h=>absurd rfl h⟩
 | b f=>
   simp[Eff.D];by_cases i:r=st.b
   ·subst i;rw[JG,JG];exact⟨fun h=>absurd h (g f _ _ j (Xb _)),fun _=>rfl⟩
   ·rw[Ju _ _ i,Ju _ _ i];simp
 | d p t f=>
   simp[Eff.D];by_cases i:r=p
   ·subst i;rw[JG,JG];exact⟨fun h=>absurd h (g f _ _ j.2.2 (Xb _)),fun _=>rfl⟩
   ·rw[Ju _ _ i,Ju _ _ i];simp
 | e p t f=>
   simp[Eff.D];by_cases i:r=st.b
   ·subst i;rw[JG,JG];exact⟨fun h=>absurd h (g f _ _ j.2.2 (Nat.le_succ _)),fun _=>rfl⟩
   ·rw[Ju _ _ i,Ju _ _ i];by_cases i:r=p
    ·subst i;rw[JG,JG];exact⟨fun h=>absurd h (g .c _ _ (fun u=>⟨rfl,by simp⟩) (Xb _)),fun _=>rfl⟩
    ·rw[Ju _ _ i,Ju _ _ i];simp
theorem Jrp {e:Eff}(h:e.A=true):(st.I e).b.A=st.b.A+1:=by
 cases e with
 |a=>cases h
 |b f=>exact Pt.D _
 |d p t f=>cases h
 |e p t f=>exact Pt.D _
theorem OpOK.F {v:V}{s:Sem Next}(f:WF st)(g:t.B st)(h:OpOK P γ ρ base st c w v t s):
  ∃x a y γ' i,s.run P w= .ok x a/\(x= .value y\/(x= .skip/\y=undef))/\Post γ ρ base c st (st.I t) w v γ' i y a:=by
 obtain⟨x,a,γ',j,l,m,n,o,p⟩:=h;have q:∀y,R γ' ρ v y->Post γ ρ base c st (st.I t) w v γ' (t.D st c) y a:=fun y u=>
  ⟨u,m,n,fun r k=>(o r k).imp id fun⟨b,d⟩=>by rw[Jrp d,b];omega,
   fun r k=>by rw[St.J]at k;exact(Jld f g r).1 k,fun r k=>by rw[St.J]at k⊢;exact(Jld f g r).2 k,p⟩
 rcases l with⟨y,b,d⟩|⟨b,d⟩
 ·grind
 ·exact⟨x,a,undef,γ',_,j, .inr ⟨b,rfl⟩,q undef (by rw[d];exact⟨[],rfl,rfl⟩)⟩
theorem Jrq (l:WF st)(m:t.B st)(h:OpOK P γ ρ base st c w k t (execOp a.eval i))
  (f:∀y γ' g d,Post γ ρ base c st (st.I t) w k γ' g y d->r (a.put i.dst y) d):i.wp P a w r b:=by
 obtain⟨x,d,y,γ',g,n,p,j⟩:=h.F l m;unfold Oper.wp;rw[n];rcases p with rfl|⟨rfl,rfl⟩
 ·exact f _ _ _ _ j
 ·exact f _ _ _ _ j
theorem Jhs {f : FuncId} {fn : Func} {args : Array Value} (h1 : P.funcs[f]? = some fn) (h2 : fn.body.isSome = true) (h3 : fn.name ≠ "runtime.NumGoroutine") : (callFunc f args).run P w = .ok (.enter f args) w := by
 obtain⟨b,hb⟩:=Zw.1 h2;simp[callFunc,h1,hb,h3]
theorem Jle {self:Self}(M:Yc P ρ base self)(j:YD P i=some e)(s:e.A=true)(Y:K0 self fr st e=some (k,v))(hw:WF st)
  (T:∀x∈e.J,∀xo,opd xo=some x->R γ ρ (x.A fr) (a.eval xo)) (U:Rel γ ρ base c w) (N:Full γ c st) (aa:YA γ st v)  
  (hK:∀y γ' c' w',Post γ ρ base c st v w k γ' c' y w'->r (a.put i.dst y) w'):i.wp P a w r b:=by
 obtain⟨dst,op,ty,pos,after,guard⟩:=i;have enter:∀(f:Nat) (args:List V) (W:List Value),self f args st=some (k,v)->RL γ ρ args W->(execOp a.eval {dst:=dst,op:=op,type:=ty,pos:=pos,after:=after,guard:=guard}).run P w=(callFunc f W.toArray).run P w->
   Oper.wp P {dst:=dst,op:=op,type:=ty,pos:=pos,after:=after,guard:=guard} a w r b:=by
  intro f args W L m Z;obtain⟨_,⟨fn,f1,f2,f3⟩,h4⟩:=M f args st k v L hw;unfold Oper.wp;rw[Z,Jhs f1 f2 f3];refine Calls.mono (h4 γ c w W m U N aa) fun d w' ⟨y,γ',c',e1,e2⟩=> ?_
  grind
 have n:∀(l:Array Operand) (S:List Opd),opds l=some S->(∀y∈S,y∈e.J)->RL γ ρ (evs fr S) (l.map a.eval).toList:=by
  intro l S L m;rw[Z2];unfold opds at L;generalize l.toList=l at L
  induction l generalizing S with
  |nil=>simp at L;subst L;rfl
  | cons x l ih=>
    rw[Zx]at L
    cases Z:opd x with
    |none=>grind
    | some z=>
      cases h4:l.mapM opd with
      |none=>grind
      | some zs=>
        simp[Z,h4]at L;subst L;exact⟨a.eval x,_,rfl,T z (m z (by simp)) x Z,ih zs (fun y O=>m y (by simp[O])) h4⟩
 unfold YD at j
 cases op
 case call cl=>
  simp at j
  split at j
  ·rename_i as X
   split at j
   ·rename_i f u
    split at j
    ·split at j
     ·injection j with j;subst j;refine enter f (evs fr as) _ Y (n _ _ X fun y O=>O) ?_;simp[execOp,resolve,u,Act.eval,Deferred.ofValue,invoke];congr 2
      grind
     grind
    grind
   ·rename_i x _ u
    obtain⟨y,O,m⟩:=JJ j;subst m;have hx:=T y (by simp[Iop.J]) x O;simp only[K0]at Y
    split at Y
    ·rename_i f p q ab
     rw[ab]at hx;obtain⟨W,S,e1,e2,e3⟩:=hx;refine enter f _ _ Y (RL.D (RL.D e2 (n _ _ X fun y O=>by simp[Iop.J,O])) e3) ?_;simp[execOp,resolve,u,e1,Deferred.ofValue,invoke];congr 2;simp
    grind
   ·rename_i g u
    exfalso;unfold jv at j
    (repeat' (split at j))<;>first
     |(cases j;done)
     |(injection j with j;subst j;cases s;done)
     |(obtain⟨_,_,m⟩:=JJ j;subst m;cases s;done)
   grind
  grind
 case binOp op t x y yt=>
  exfalso
  cases op<;>simp at j<;>(repeat' (split at j))<;>first
   |(cases j;done)
   |(injection j with j;subst j;cases s;done)
   |(obtain⟨_,_,m⟩:=JJ j;subst m;cases s;done)
 case unOp op t x=>
  exfalso
  cases op<;>simp only at j<;>(repeat' (split at j))<;>first
   |(cases j;done)
   |(injection j with j;subst j;cases s;done)
   |(obtain⟨_,_,m⟩:=JJ j;subst m;cases s;done)
 case makeFunc fn p q=>
  exfalso
  cases fn<;>simp at j<;>(repeat' (split at j))<;>first
   |(cases j;done)
   |(injection j with j;subst j;cases s;done)
   |(obtain⟨_,_,m⟩:=JJ j;subst m;cases s;done)
 case makeMap t h=>
  exfalso
  cases h<;>simp only at j<;>(repeat' (split at j))<;>first
   |(cases j;done)
   |(injection j with j;subst j;cases s;done)
   |(obtain⟨_,_,m⟩:=JJ j;subst m;cases s;done)
 case next it str=>
  exfalso
  cases str<;>simp only at j<;>(repeat' (split at j))<;>first
   |(cases j;done)
   |(injection j with j;subst j;cases s;done)
   |(obtain⟨_,_,m⟩:=JJ j;subst m;cases s;done)
 all_goals
  exfalso;simp only at j
  (repeat' (split at j))<;>first
   |(cases j;done)
   |(injection j with j;subst j;cases s;done)
   |(obtain⟨_,_,m⟩:=JJ j;subst m;cases s;done)
end
structure Jdj (n:Nat) (a:Act):Prop where
 c:n<=a.tmps.size
 b:a.defers=[]
theorem Jdj.A {a:Act}(h:Jdj z a)(d:Option Tmp)(y:Value):Jdj z (a.put d y):=by
 cases d with
 |none=>exact h
 |some d=>exact⟨by simpa[Act.put]using h.c,h.b⟩
theorem Jic {a:Act}(h:Jdj z a)(b:f<z)(y:Value):(a.put (some f) y).tmps.getD f undef=y:=by
 have:=h.c;simp[Act.put,Array.getD,show f<a.tmps.size by omega]
theorem JnI {a:Act}(h:f≠z)(y:Value):(a.put (some z) y).tmps.getD f undef=a.tmps.getD f undef:=by
 simp[Act.put,XR,Gj (Ne.symm h)]
section
variable {P : Program} {γ : Locs} {ρ : Nat -> Value} {base : Bs} {st : St} {c : Pt -> Row} {w : World} {fr : Fr} {a : Act}
theorem YY {l:List Iop}{n:Bool}{m:Ins}(h:jw j z l n f i e=some m):
  m.b=i.dst/\m.d=e/\(∀d,i.dst=some d->d<z)/\(m.c=if n&&e.A then okWs j l f else none)/\
  ((i.guard=none/\m.a=none)\/∃g p d,i.guard=some (g,p)/\m.a=some (d,p)/\(j[g]?).bind (·.dst)=some d/\d<z):=by
 unfold jw at h;have q:i.dst.all (·<z)=true->∀d,i.dst=some d->d<z:=fun h d k=>by grind
 split at h
 ·grind
 grind
theorem Jf2 {self:Self}{l:List Iop}{m:Bool}{o:Oper}{t:Ins}(h:jw j z l m f o e=some t)
  (p:Yk self m fr st t=some (n,v)) (S:Jdj z a) (T:∀s∈JaH j o,R γ ρ (fr s) (a.tmps.getD s undef)):
  (Region.wanted o (yielded j a.tmps)=true/\∃g,(if m&&e.A then KV self (okWs j l f) fr st e else K0 self fr st e)=some (g,v)/\n=put fr o.dst g)\/
  (Region.wanted o (yielded j a.tmps)=false/\v=st/\n=put fr o.dst Kj):=by
 obtain⟨Y,Z,h3,h4,U⟩:=YY h;have P:evGo self m fr st t=some (n,v)->∃g,(if m&&e.A then KV self (okWs j l f) fr st e else K0 self fr st e)=some (g,v)/\n=put fr o.dst g:=by
  intro y;unfold evGo at y
  grind
 unfold Yk at p;rcases U with⟨u,K⟩|⟨k,Q,d,u,K,L,g4⟩
 ·rw[K]at p;exact .inl ⟨by simp[Region.wanted,u],P p⟩
 ·rw[K]at p;simp at p;have q:=T d (by simp[JaH,u,L]);have W:d<a.tmps.size:=by have:=S.c;omega
  have r:a.tmps[d]? =some (a.tmps.getD d undef):=by simp_all
  split at p
  ·rename_i b M
   rw[M]at q;have q:a.tmps.getD d undef= .bool b:=q;have w:yielded j a.tmps k=some b:=by simp[yielded,L,r,q]
   split at p
   ·rename_i N
    exact .inl ⟨by simp[Region.wanted,u,w];grind,P p⟩
   ·rename_i N
    injection p with p;injection p with X O;exact .inr ⟨by simp[Region.wanted,u,w];grind,O.symm,by grind⟩
  ·rename_i tl M
   rw[M]at q;obtain⟨xs,q,_⟩:=q;have w:yielded j a.tmps k=none:=by simp[yielded,L,r,q]
   injection p with p;injection p with X O;exact .inr ⟨by simp[Region.wanted,u,w],O.symm,by grind⟩
  grind
end
structure Q3 (γ:Locs) (ρ:Nat->Value) (base:Bs) (c:Pt->Row) (st st':St) (w:World) (γ':Locs) (c':Pt->Row) (w':World):Prop where
 rel:Rel γ' ρ base c' w'
 f:Ext γ γ'
 b:∀r,γ' r≠none->γ r≠none\/(st.b.A<=r.A/\r.A<st'.b.A)
 a:∀r,st'.A r=st.A r->c' r=c r
 d:∀r,st'.A r≠st.A r->c' r=st'.A r
 below:Below base.n w w'
section
variable {P : Program} {γ : Locs} {ρ : Nat -> Value} {base : Bs} {st : St} {c : Pt -> Row} {w : World} {fr : Fr} {a : Act}
theorem Post.s {γ':Locs}(e:Post γ ρ base c st v w k γ' h u x):Q3 γ ρ base c st v w γ' h x:=
 ⟨e.rel,e.d,e.g,e.a,e.b,e.below⟩
theorem Q3.A (h:Rel γ ρ base c w):Q3 γ ρ base c st st w γ c w:=
 ⟨h,Ext.A _,fun _ k=> .inl k,fun _ _=>rfl,fun _ k=>absurd rfl k,Below.refl _ _⟩
theorem Q3.D {st':St}{γ':Locs}{w':World}(g:Q3 γ ρ base c st st' w γ' h w')(j:WF st)(l:Full γ c st):Full γ' h st':=by
 intro r m i;by_cases e:st'.A r=st.A r
 ·rw[g.a r e,e];rw[e]at i;rcases g.b r m with k|⟨k,_⟩
  ·exact l r k i
  ·have:=j.a r i;omega
 ·exact g.d r e
theorem Q3.B {j:St}{γ1 γ2:Locs}{o:Pt->Row}{w1 w2:World}(g:Q3 γ ρ base c st v w γ1 h w1)(k:Q3 γ1 ρ base h v j w1 γ2 o w2)(m:Mono st v)(p:Mono v j)(q:WF st):
  Q3 γ ρ base c st j w γ2 o w2:=by
 refine⟨k.rel,g.f.D k.f,fun r e=> ?_,fun r e=> ?_,fun r e=> ?_,g.below.trans k.below⟩
 ·have s:=m.i;have u:=p.i;rcases k.b r e with e|e
  ·rcases g.b r e with e|e
   ·grind
   omega
  omega
 ·by_cases n:v.A r=st.A r
  ·rw[k.a r (by grind),g.a r n]
  ·exfalso;have s:=m.d r n;have l:j.A r≠v.A r:=fun l=>n (by grind);have u:=p.d r l;have x:=m.t;have y:=q.t r (by grind)
   grind
 ·by_cases l:j.A r=v.A r
  ·rw[k.a r l,l];exact g.d r (by grind)
  ·exact k.d r l
theorem YZ {self:Self}(b:Yc P ρ base self)(c:K0 self fr st e=some (k,v))(d:WF st):Mono st v:=by
 unfold K0 at c
 split at c
 ·exact(b _ _ _ _ _ c d).1
 ·split at c
  ·exact(b _ _ _ _ _ c d).1
  grind
 ·obtain⟨⟨h,a⟩,g,f⟩:=JJ c;injection f with _ f;subst f;exact Jlb d (Jal g).1
theorem JcI {self:Self}(c:e.A=false)(b:K0 self fr st e=some (k,v)):∃a,evOp fr st e=some (k,a)/\v=st.I a:=by
 unfold K0 at b
 split at b
 ·cases c
 ·cases c
 ·obtain⟨⟨d,a⟩,f,g⟩:=JJ b
  grind
theorem FR.A {γ':Locs}{n:Nat}(h:FR γ ρ fr a)(b:Ext γ γ')(c:Jdj n a){d:Option Tmp}(f:∀k,d=some k->k<n){v:V}{y:Value}(g:R γ' ρ v y):FR γ' ρ (Eva.put fr d v) (a.put d y):=by
 intro s
 cases d with
 |none=>exact(h s).A b
 | some d=>
   by_cases e:s=d
   ·subst e;rw[Jic c (f s rfl)];simpa[Eva.put]using g
   ·rw[JnI e];have:Eva.put fr (some d) v s=fr s:=by simp[Eva.put,e]
    rw[this];exact(h s).A b
theorem Full.A {i:Iop}(h:Full γ c st):Jah γ c st fr i:=by
 unfold Jah
 split
 ·exact h
 ·intro s _ r _ a b;exact h r a b
theorem Post.A {e:Eff}(c:YA γ st (st.I e)):e.A=true->γ st.b=none:=fun h=>c st.b (Xb _) (by rw[Jrp h];omega)
end
end Eva
