/- An evaluator of the model's code, proved to tell what the model does. All operations th -/
import Derived.Test.YtdajkeoobbonjaaGreatEva3
set_option linter.constructorNameAsVariable false
set_option linter.unusedVariables false
set_option linter.unusedSimpArgs false
set_option linter.unusedSectionVars false
namespace Eva
open Go Go.RowKit
variable {v:St}{e:Iop}{n y:Fr}{t:Eff}{k:V}{z f:Nat}{b:Exit->Act->World->Prop}{d:Opd}{i:Oper}{r:Act->World->Prop}{q:List Nat}{p:Nat->Row}{l:Array Operand}{h:Pt->Row}{g:Self}{m:Option Tmp}{j:Array Oper}{u:Value}{x:World}
section
variable {P : Program} {γ : Locs} {ρ : Nat -> Value} {base : Bs} {st : St} {c : Pt -> Row} {w : World} {fr : Fr} {a : Act}
theorem Jah.A {i:Iop}(h:Jah γ c st fr i){l:List Nat}(e:i.B=some l){a:Operand}{x:Opd}(b:opd a=some x)(f:∀s∈x.B,s∈l):
  ∀r,rowOf (x.A fr)=some r->γ r≠none->st.A r≠ .none->c r=st.A r:=by
 intro r d;obtain⟨s,g,j⟩:=JqI b d;unfold Jah at h
 grind
theorem JiD {y:Opd}(h:opds l=some [d,y]):∃c e,l= #[c,e]/\opd c=some d/\opd e=some y:=by
 unfold opds at h;rcases l with⟨l⟩
 rcases l with _|⟨p,_|⟨q,_|⟨r,l⟩⟩⟩
 ·simp at h
 ·cases a:opd p<;>simp[a]at h
 ·cases a:opd p with
  |none=>grind
  | some i=>
    cases b:opd q with
    |none=>grind
    | some j=>
      simp[a,b]at h
      grind
 ·exfalso;simp at h
  cases a:opd p<;>cases b:opd q<;>cases f:opd r<;>cases g:l.mapM opd<;>simp[a,b,f,g]at h
theorem JiE (h:opds l=some [d]):∃a,l= #[a]/\opd a=some d:=by
 unfold opds at h;rcases l with⟨l⟩
 rcases l with _|⟨p,_|⟨q,l⟩⟩
 ·simp at h
 ·cases b:opd p with
  |none=>grind
  |some f=>simp_all
 ·exfalso;simp at h
  cases b:opd p<;>cases c:opd q<;>cases e:l.mapM opd<;>simp[b,c,e]at h
theorem JaZ (h:QK k=some z)(b:R γ ρ k u):∃a,u= .int a (z:Int):=by
 unfold QK at h
 split at h
 ·rename_i a m
  split at h
  ·rename_i c
   injection h with h;refine⟨a, ?_⟩;simp[R]at b
   grind
  grind
 grind
theorem JkR {b:Builtin}{L:Array TypeId}{ty:TypeId}{args:List Opd}{p:Call}{dst:Option Tmp}{pos:String}{after:Array Edge}{guard:Option (Nat×Bool)}(hρ:∀e,(ρ e).oneCell'=true)
  (ad:p.callee= .builtin b) (ai:p.argTypes=L) (J:opds p.args=some args) (o:jy P b L args=some e)   (m:evOp fr st e=some (k,t))
  (N:FR γ ρ fr a) (y:Rel γ ρ base c w) (ae:Jah γ c st fr e) (aj:t.A=true->γ st.b=none):
  OpOK P γ ρ base st c w k t (execOp a.eval {dst:=dst,op:= .call p,type:=ty,pos:=pos,after:=after,guard:=guard}):=by
 have ak:∀s:Sem Next,Go.builtin b L ty (p.args.map fun| .const _=>true|_=>false) (p.args.map a.eval)=s->OpOK P γ ρ base st c w k t s->
   OpOK P γ ρ base st c w k t (execOp a.eval {dst:=dst,op:= .call p,type:=ty,pos:=pos,after:=after,guard:=guard}):=by
  intro s U ⟨x,w',γ',h1,h2⟩;refine⟨x,w',γ', ?_,h2⟩;rw[<-U]at h1;simp[execOp,resolve,ad,invoke,ai];exact h1
 apply ak _ rfl;have j:∀(l:List Nat),e.B=some l->∀{xo:Operand} {x:Opd},opd xo=some x->(∀s∈x.B,s∈l)->∀r,rowOf (x.A fr)=some r->γ r≠none->st.A r≠ .none->c r=st.A r:=
  fun l hl _ _ O U=>Jah.A ae hl O U
 unfold jy at o
 split at o
 ·
  rename_i f W x ht
  have K:L[0]? =some f:=by rw[<-Z1,ht];rfl
  obtain⟨xo,Y,Q⟩:=JiE J;have O:=Jk Q N;rw[Y];simp[Go.builtin]
  split at o
  ·rename_i hu
   injection o with o;subst o;simp[evOp]at m
   split at m
   ·rename_i n s al
    injection m with m;injection m with ha hb;subst ha;subst hb;rw[al]at O;exact JkP K hu O y
   grind
  ·rename_i el hu
   injection o with o;subst o;simp[evOp]at m
   cases X:slen (x.A fr)with
   |none=>grind
   | some n=>
     rw[X]at m;injection m with m;injection m with ha hb;subst ha;subst hb;exact JhR K hu X O y
  grind
 ·
  rename_i f u s x ht
  have K:L= #[f,u]:=by grind
  obtain⟨so,xo,Y,Q,e3⟩:=JiD J;have U:=Jk Q N;have O:=Jk e3 N;rw[Y,K];simp[Go.builtin]
  split at o
  ·rename_i el aq S Z
   split at o
   ·rename_i am af
    split at o
    ·rename_i aa
     injection o with o;subst o;obtain⟨ao,T⟩:=aa
     cases ag:am.zero with
     |none=>grind
     | some zv=>
       simp[ag,ZF]at T;simp[evOp]at m
       split at m
       ·rename_i g hk
        split at m
        ·rename_i ar ah
         split at m
         ·rename_i M
          exact Js8 hρ S Z af ao ag T U O (j (s.B++x.B) rfl Q (fun q h=>Z5 _ h)) (j (s.B++x.B) rfl e3 (fun q h=>Gt _ h)) y aj hk ah M.1 M.2 m
         grind
        grind
       grind
    grind
   grind
  grind
 ·
  rename_i f u W d x ht
  have K:L[0]? =some f:=by rw[<-Z1,ht];rfl
  obtain⟨so,xo,Y,Q,e3⟩:=JiD J;have U:=Jk Q N;have O:=Jk e3 N;rw[Y];simp[Go.builtin]
  split at o
  ·rename_i el _ S Z
   cases T:szT P el with
   |none=>grind
   | some z=>
     simp[T]at o;subst o;simp only[evOp]at m
     split at m
     ·rename_i n g X hk
      split at m
      ·rename_i vs ab
       exact JlI hρ S T U O K (j (d.B++x.B) rfl Q (fun q h=>Z5 _ h)) (j (d.B++x.B) rfl e3 (fun q h=>Gt _ h)) y X hk ab m
      grind
     grind
  ·rename_i el S Z
   cases T:szT P el with
   |none=>grind
   | some z=>
     simp[T]at o;subst o;simp only[evOp]at m
     split at m
     ·rename_i n g X hk
      split at m
      ·rename_i vs ab
       exact JlI hρ S T U O K (j (d.B++x.B) rfl Q (fun q h=>Z5 _ h)) (j (d.B++x.B) rfl e3 (fun q h=>Gt _ h)) y X hk ab m
      grind
     grind
  grind
 ·
  rename_i f W x ht
  have K:L[0]? =some f:=by rw[<-Z1,ht];rfl
  obtain⟨xo,Y,Q⟩:=JiE J;have O:=Jk Q N;rw[Y];simp[Go.builtin]
  split at o
  ·rename_i el hu
   split at o
   ·rename_i z zs T ap
    injection o with o;subst o;simp[evOp]at m
    split at m
    ·rename_i n X
     exact Joa hρ hu ap O K (j x.B rfl Q (fun q h=>h)) y X m
    grind
   grind
  grind
 grind
theorem JH {α β:Type}{o:Option α}{f:α->β}{y:β}(h:o.map f=some y):∃x,o=some x/\f x=y:=Hh.1 h
theorem JeF (hρ:∀e,(ρ e).oneCell'=true)(L:YI P i=some e)(K:evOp fr st e=some (k,t))
  (O:FR γ ρ fr a) (M:Rel γ ρ base c w) (ak:Jah γ c st fr e) (ag:t.A=true->γ st.b=none):
  OpOK P γ ρ base st c w k t (execOp a.eval i):=by
 have aa:∀(l:List Nat),e.B=some l->∀{xo:Operand} {x:Opd},opd xo=some x->(∀s∈x.B,s∈l)->∀r,rowOf (x.A fr)=some r->γ r≠none->st.A r≠ .none->c r=st.A r:=
  fun l hl _ _ Q hs=>Jah.A ak hl Q hs
 obtain⟨dst,op,ty,pos,after,guard⟩:=i;unfold YI at L
 cases op
 case move x=>
  obtain⟨y,h1,Z⟩:=JH L;subst Z;injection K with K;injection K with T S;subst T;subst S;exact OpOK.A M (y:=a.eval x) rfl (Jk h1 O)
 case assign x=>
  obtain⟨y,h1,Z⟩:=JH L;subst Z;injection K with K;injection K with T S;subst T;subst S;exact OpOK.A M (y:=a.eval x) rfl (Jk h1 O)
 case pick x y z=>
  simp at L
  split at L
  ·rename_i c' a' b' h1 Z h3
   injection L with L;subst L;simp[evOp]at K
   split at K
   ·rename_i g ht
    injection K with K;injection K with T S;subst T;subst S;have Q:=Jk h1 O;rw[ht]at Q;have Q:a.eval x= .bool g:=Q;refine OpOK.A M (y:=if g then a.eval y else a.eval z) ?_ ?_
    ·simp[execOp,Q,asBool]
    ·cases g
     ·exact Jk h3 O
     ·exact Jk Z O
   grind
  grind
 case alloc g=>
  obtain⟨zs,h1,Z⟩:=JH L;subst Z;injection K with K;injection K with T S;subst T;subst S;exact JnY h1 M (ag rfl)
 case box g x=>
  obtain⟨y,h1,Z⟩:=JH L;subst Z;simp[evOp]at K
  split at K
  ·rename_i vs am
   split at K
   ·injection K with K;injection K with T S;subst T;subst S;exact Js3 hρ am (Jk h1 O) M (ag rfl)
   grind
  grind
 case build g ps=>
  simp only at L
  split at L
  ·rename_i fs zs hu hz
   split at L
   ·rename_i l hp
    split at L
    ·rename_i ap
     injection L with L;subst L;obtain⟨l',h1,Z⟩:=JH K;injection Z with T S;subst T;subst S;exact Jed hρ hu hz hp ap O h1 M
    grind
   grind
  ·rename_i a4 el zs hu hz
   split at L
   ·rename_i n hn
    obtain⟨l,hp,Z⟩:=JH L;subst Z;obtain⟨l',h1,Z⟩:=JH K;injection Z with T S;subst T;subst S;exact Jey hρ hu hz hn hp O h1 M
   grind
  grind
 case buildSlice g n ps=>
  simp at L
  split at L
  ·rename_i el hu
   split at L
   ·rename_i z zs au hz
    split at L
    ·rename_i l hp
     split at L
     ·rename_i W
      injection L with L;subst L;simp[evOp]at K
      split at K
      ·rename_i l' hf
       split at K
       ·rename_i hl
        injection K with K;injection K with T S;subst T;subst S;exact Js4 hρ hu au hz W.2 W.1 hp O hf hl.2 M (ag rfl)
       grind
      grind
     grind
    grind
   grind
  grind
 case load g x=>
  simp at L
  split at L
  ·rename_i n y hg hn Q
   injection L with L;subst L;obtain⟨l,h1,Z⟩:=JH K;injection Z with T S;subst T;subst S;exact Jn0 (Jk Q O) (aa y.B rfl Q (fun q h=>h)) M hg hn h1
  ·rename_i y hg Q
   injection L with L;subst L;simp[evOp]at K
   split at K
   ·rename_i u hl
    injection K with K;injection K with T S;subst T;subst S;exact JnZ (Jk Q O) (aa y.B rfl Q (fun q h=>h)) M hg hl
   grind
  grind
 case store g x z=>
  simp at L
  split at L
  ·rename_i n y u hn Q hz
   injection L with L;subst L;simp[evOp]at K
   split at K
   ·rename_i vs am
    split at K
    ·rename_i hl
     obtain⟨e',h1,Z⟩:=JH K;injection Z with T S;subst T;subst S;exact Jn1 hρ (Jk Q O) (Jk hz O) (aa y.B rfl Q (fun q h=>h)) M hn am hl h1
    grind
   grind
  grind
 case nilCheck x=>
  obtain⟨y,h1,Z⟩:=JH L;subst Z;have Q:=Jk h1 O;simp[evOp]at K
  split at K
  ·rename_i r i hy
   injection K with K;injection K with T S;subst T;subst S;rw[hy]at Q;refine Jiw Q M (.inl ⟨_,_,rfl⟩) (fun ad h=> ?_) (fun f p q h=> ?_)<;>simp[execOp,h]
  ·rename_i f p q hy
   injection K with K;injection K with T S;subst T;subst S;rw[hy]at Q;refine Jiw Q M (.inr ⟨_,_,_,rfl⟩) (fun ad h=> ?_) (fun f p q h=> ?_)<;>simp[execOp,h]
  grind
 case binOp op g x y yt=>
  have a2:∀(aq:op≠ .eql/\op≠ .neq),(match opd x,opd y with
    |some x,some y=>some (Iop.N op x y)
    |_,_=>none)=some e->OpOK P γ ρ base st c w k t (execOp a.eval {dst:=dst,op:= .binOp op g x y yt,type:=ty,pos:=pos,after:=after,guard:=guard}):=by
   intro aq L
   split at L
   ·rename_i x' y' Q hy
    injection L with L;subst L;obtain⟨r,h1,Z⟩:=JH K;injection Z with T S;subst T;subst S;exact Jn3 h1 (Jk Q O) (Jk hy O) M g x y aq
   grind
  cases op
  case eql=>
   simp at L
   split at L
   ·rename_i ek x' y' hk Q hy
    injection L with L;subst L;obtain⟨b,h1,Z⟩:=JH K;injection Z with T S;subst T;subst S;exact Jr5 (.inl ⟨rfl,rfl⟩) hk h1 (Jk Q O) (Jk hy O) M x y
   grind
  case neq=>
   simp at L
   split at L
   ·rename_i ek x' y' hk Q hy
    injection L with L;subst L;obtain⟨b,h1,Z⟩:=JH K;injection Z with T S;subst T;subst S;exact Jr5 (.inr ⟨rfl,rfl⟩) hk h1 (Jk Q O) (Jk hy O) M x y
   grind
  all_goals grind
 case unOp op g x=>
  cases op
  case not=>
   obtain⟨y,h1,Z⟩:=JH L;subst Z;have Q:=Jk h1 O;simp[evOp]at K
   split at K
   ·rename_i b S
    rw[S]at Q;injection K with K;injection K with T S;subst T;subst S;exact Js5 Q M
   grind
  all_goals cases L
 case convert s d x=>
  simp at L
  split at L
  ·rename_i k0 J y h1 Z Q
   injection L with L;subst L;have Q:=Jk Q O;simp[evOp]at K
   split at K
   ·rename_i k1 n S
    rw[S]at Q;injection K with K;injection K with T S;subst T;subst S;exact Jn4 h1 Z Q M
   grind
  ·rename_i el y h1 Z Q
   split at L
   ·rename_i av
    split at L
    ·injection L with L;subst L;simp[evOp]at K
     split at K
     ·rename_i n hn
      split at K
      ·rename_i l hl
       obtain⟨s',h3,h4⟩:=JH K;injection h4 with T S;subst T;subst S;exact Js6 h1 Z av (Jk Q O) (aa y.B rfl Q (fun q h=>h)) M hn hl h3
      grind
     grind
    grind
   grind
  grind
 case makeFunc fn p q=>
  cases fn
  case func f=>
   simp at L
   split at L
   ·rename_i ps qs h1 Z
    injection L with L;subst L;injection K with K;injection K with T S;subst T;subst S;exact JqK h1 Z O M
   grind
  all_goals cases L
 case makeMap g r=>
  cases r
  case none=>
   injection L with L;subst L;injection K with K;injection K with T S;subst T;subst S;exact Jn5 M (ag rfl)
  grind
 case makeSlice g n cp=>
  simp at L
  split at L
  ·rename_i el hu
   split at L
   ·rename_i a5 zs n' c' h1 Z h3 h4
    split at L
    ·rename_i aw
     injection L with L;subst L;simp[evOp]at K
     split at K
     ·rename_i n1 c1 hn ax
      split at K
      ·rename_i W
       injection K with K;injection K with T S;subst T;subst S;exact JqL hu h1 Z aw (Jk h3 O) (Jk h4 O) hn ax W.1 W.2.1 W.2.2 M (ag rfl)
      grind
     grind
    grind
   grind
  grind
 case slice g x lo hi mx=>
  simp at L
  split at L
  ·rename_i y a6 a7 a8 Q h1 Z h3
   split at L
   ·cases L
   ·rename_i ae
    have hm:mx.isSome->hi.isSome:=fun h=>by
     cases mx with
     |none=>cases h
     | some m=>
       cases hi with
       |some=>rfl
       | none=>
         simp[opdO]at Z;subst Z;obtain⟨m',_,h4⟩:=JH h3
         grind
    split at L
    ·rename_i hu
     split at L
     ·rename_i hn
      injection L with L;subst L;have ay:mx=none:=by
       cases mx with
       |none=>rfl
       | some m=>
         obtain⟨m',_,h4⟩:=JH h3
         grind
      subst ay;have Q:=Jk Q O;simp[evOp]at K
      split at K
      ·rename_i n s hy
       rw[hy]at Q
       split at K
       ·rename_i l h hl hh
        split at K
        ·rename_i W
         injection K with K;injection K with T S;subst T;subst S;exact JqM hu Q h1 Z O hl hh W.1 W.2 M
        grind
       grind
      grind
     grind
    ·rename_i el hu
     obtain⟨z,hz,h4⟩:=JH L;subst h4;obtain⟨v',h5,h6⟩:=JH K;injection h6 with T S;subst T;subst S;exact JqN hu hz (Jk Q O) h1 Z h3 hm O h5 M
    ·rename_i n el hu
     obtain⟨z,hz,h4⟩:=JH L;subst h4;have Y:=aa y.B rfl Q (fun q h=>h);have Q:=Jk Q O;simp[evOp]at K
     split at K
     ·rename_i r i hy
      rw[hy]at Q Y
      split at K
      ·rename_i tt l U
       split at K
       ·rename_i a9
        obtain⟨v',h5,h6⟩:=JH K;injection h6 with T S;subst T;subst S;refine JqO hu hz Q (fun lc az=> ?_) h1 Z h3 hm O h5 M;obtain⟨l',k1,_,_,k4⟩:=YK M Q (Y r rfl) U (by simp);rw[az]at k1;injection k1 with k1;subst k1;obtain⟨ba,a3,fz,_,_,k5,_⟩:=k4;omega
       grind
      grind
     grind
    grind
  grind
 case fieldAddr g x f=>
  simp only at L
  split at L
  ·rename_i fs y hu Q
   split at L
   ·rename_i fd hf
    split at L
    ·rename_i n hn
     split at L
     ·rename_i h0
      injection L with L;subst L;have Q:=Jk Q O;simp[evOp]at K
      split at K
      ·rename_i r q hy
       rw[hy]at Q;injection K with K;injection K with T S;subst T;subst S;exact Jn6 hu hf hn h0 Q M
      grind
     grind
    grind
   grind
  grind
 case field g x f=>
  simp at L
  split at L
  ·rename_i fs y hu Q
   split at L
   ·rename_i fd hf
    split at L
    ·rename_i n hg hn
     injection L with L;subst L;have Q:=Jk Q O;simp[evOp]at K
     split at K
     ·rename_i l hy
      rw[hy]at Q
      split at K
      ·injection K with K;injection K with T S;subst T;subst S;exact JkN hu hf hg hn Q M
      grind
     grind
    ·rename_i hg
     injection L with L;subst L;have Q:=Jk Q O;simp[evOp]at K
     split at K
     ·rename_i l hy
      rw[hy]at Q;obtain⟨u,h1,Z⟩:=JH K;injection Z with T S;subst T;subst S;exact JkO hu hf hg Q h1 M
     grind
    grind
   grind
  grind
 case indexAddr g x ix=>
  simp at L
  split at L
  ·rename_i el y j hu Q hj
   obtain⟨z,hz,h4⟩:=JH L;subst h4;have Q:=Jk Q O;have hj:=Jk hj O;simp[evOp]at K
   split at K
   ·rename_i J r i n z' hk hy
    obtain⟨kk,ai⟩:=JaZ hk hj;rw[hy]at Q
    split at K
    ·rename_i W
     injection K with K;injection K with T S;subst T;subst S;obtain⟨l,ad,cp,k1,k2,k3,k4,_⟩:=Q;simp[execOp,k2,ai];exact Jgi hu hz k1 W.1 k3 k4 M
    grind
   ·rename_i J r i n z' cp hk hy
    obtain⟨kk,ai⟩:=JaZ hk hj;rw[hy]at Q
    split at K
    ·rename_i W
     injection K with K;injection K with T S;subst T;subst S;obtain⟨l,ad,k1,k2,k3,k4,_⟩:=Q;simp[execOp,k2,ai];exact Jgi hu hz k1 W.1 k3 k4 M
    grind
   grind
  grind
 case index g x ix=>
  simp at L
  split at L
  ·rename_i y j hu Q hj
   injection L with L;subst L;have Q:=Jk Q O;have hj:=Jk hj O;simp[evOp]at K
   split at K
   ·rename_i J n s hk hy
    obtain⟨kk,ai⟩:=JaZ hk hj;rw[hy]at Q
    split at K
    ·rename_i W
     injection K with K;injection K with T S;subst T;subst S;simp[execOp,ai];exact JqP hu Q W M
    grind
   grind
  grind
 case lookup g x ix ok=>
  simp at L
  split at L
  ·rename_i kt et m J hu hm hk
   split at L
   ·rename_i ek z af hz
    injection L with L;subst L;simp[evOp]at K
    split at K
    ·rename_i es ar
     split at K
     ·cases K
     ·rename_i ab
      have ab:ek.A (J.A fr)=true:=by grind
      have Y:=aa m.B rfl hm (fun q h=>h)
      split at K
      ·rename_i i' w' X
       injection K with K;injection K with T S;subst S;exact Jgj hu af hz (Jk hm O) (Jk hk O) Y ar ab (.inl ⟨_,_,X,T.symm⟩) M
      ·rename_i X
       injection K with K;injection K with T S;subst S;exact Jgj hu af hz (Jk hm O) (Jk hk O) Y ar ab (.inr ⟨X,T.symm⟩) M
      grind
    grind
   grind
  grind
 case next it str=>
  cases str
  ·obtain⟨y,h1,Z⟩:=JH L;subst Z;have Q:=Jk h1 O;have al:Full γ c st:=ak;simp only[evOp]at K
   split at K
   ·rename_i r hy
    rw[hy]at Q
    split at K
    ·rename_i tt n0 a0 U
     injection K with K;injection K with T S;subst T;subst S;exact JhV Q (al r) U M
    ·rename_i tt m n0 a0 U
     split at K
     ·rename_i t2 es hm
      split at K
      ·cases K
      ·rename_i hn
       exact Job Q al U hm (by omega) M K
     grind
    grind
   grind
  ·obtain⟨y,h1,Z⟩:=JH L;subst Z;have Q:=Jk h1 O;have Y:=aa y.B rfl h1 (fun q h=>h);simp[evOp]at K
   split at K
   ·rename_i r hy
    rw[hy]at Q Y
    split at K
    ·rename_i tt n s q U
     split at K
     ·rename_i aj
      split at K
      ·rename_i S
       injection K with K;injection K with T ao;subst T;subst ao;exact Jn8 Q (Y r rfl) U aj S M
      ·injection K with K;injection K with T ao;subst T;subst ao;exact Jf8 Q (Y r rfl) U aj M
     ·rename_i aj
      injection K with K;injection K with T S;subst T;subst S;exact JhU Q (Y r rfl) U aj M
    grind
   grind
 case mapEntry g m J=>
  simp at L
  split at L
  ·rename_i kt et m' k' hu hm hk
   split at L
   ·rename_i ek z af hz
    split at L
    ·rename_i ah
     injection L with L;subst L;have Y:=aa m'.B rfl hm (fun q h=>h);have ae:=Jk hm O;simp[evOp]at K
     split at K
     ·rename_i r hy
      rw[hy]at ae Y
      split at K
      ·rename_i tt es U
       split at K
       ·cases K
       ·rename_i ab
        have ab:ek.A (k'.A fr)=true:=by grind
        split at K
        ·rename_i i' w' X
         injection K with K;injection K with T S;subst T;subst S;exact JlH hu af ah hz ae (Jk hk O) (Y r rfl) U ab (.inl ⟨_,_,X,rfl,rfl⟩) M
        ·rename_i X
         injection K with K;injection K with T S;subst T;subst S;exact JlH hu af ah hz ae (Jk hk O) (Y r rfl) U ab (.inr ⟨X,rfl,rfl⟩) M
        grind
      grind
     grind
    grind
   grind
  grind
 case entryStore g m sl x=>
  simp at L
  split at L
  ·rename_i m' s' x' hm hs Q
   injection L with L;subst L;have Y:=aa m'.B rfl hm (fun q h=>h);have ae:=Jk hm O;simp[evOp]at K
   split at K
   ·rename_i r i' hy hi
    rw[hy]at ae Y;obtain⟨kk,ai⟩:=JaZ hi (Jk hs O)
    split at K
    ·rename_i tt es U
     split at K
     ·rename_i aj
      injection K with K;injection K with T S;subst T;subst S;simp[execOp,ai];exact JqS ae (Jk Q O) (Y r rfl) U aj M
     grind
    grind
   grind
  grind
 case range g x=>
  simp at L
  split at L
  ·rename_i y hu Q
   injection L with L;subst L;have Q:=Jk Q O;simp[evOp]at K
   split at K
   ·rename_i n s hy
    rw[hy]at Q;injection K with K;injection K with T S;subst T;subst S;exact JqQ hu Q M (ag rfl)
   grind
  ·rename_i kt et y hu Q
   injection L with L;subst L;have Y:=aa y.B rfl Q (fun q h=>h);have Q:=Jk Q O;simp[evOp]at K
   split at K
   ·rename_i hy
    rw[hy]at Q;injection K with K;injection K with T S;subst T;subst S;exact JiB hu Q M (ag rfl)
   ·rename_i r hy
    rw[hy]at Q Y
    split at K
    ·rename_i tt es U
     injection K with K;injection K with T S;subst T;subst S;exact JqR hu Q (Y r rfl) U M (ag rfl)
    grind
   grind
  grind
 case extract x n=>
  obtain⟨y,h1,Z⟩:=JH L;subst Z;have Q:=Jk h1 O;simp[evOp]at K
  split at K
  ·rename_i l hy
   rw[hy]at Q;obtain⟨u,h1,Z⟩:=JH K;injection Z with T S;subst T;subst S;exact Js7 Q h1 M
  grind
 case mapUpdate g m J x=>
  simp at L
  split at L
  ·rename_i kt et m' k' x' hu hm hk Q
   split at L
   ·rename_i ek af
    split at L
    ·rename_i ah
     injection L with L;subst L;have Y:=aa m'.B rfl hm (fun q h=>h);have ae:=Jk hm O;simp[evOp]at K
     split at K
     ·rename_i r hy
      rw[hy]at ae Y
      split at K
      ·rename_i tt es U
       split at K
       ·cases K
       ·rename_i ab
        have ab:ek.A (k'.A fr)=true:=by grind
        split at K
        ·rename_i i' w' X
         injection K with K;injection K with T S;subst T;subst S;exact Jei hu af ah ae (Jk hk O) (Jk Q O) (Y r rfl) U ab (.inl ⟨_,_,X,rfl⟩) M
        ·rename_i X
         injection K with K;injection K with T S;subst T;subst S;exact Jei hu af ah ae (Jk hk O) (Jk Q O) (Y r rfl) U ab (.inr ⟨X,rfl⟩) M
        grind
      grind
     grind
    grind
   grind
  grind
 case insert g m J x=>
  simp at L
  split at L
  ·rename_i kt et m' k' x' hu hm hk Q
   split at L
   ·rename_i ek af
    split at L
    ·rename_i ah
     injection L with L;subst L;have Y:=aa m'.B rfl hm (fun q h=>h);have ae:=Jk hm O;simp[evOp]at K
     split at K
     ·rename_i r hy
      rw[hy]at ae Y
      split at K
      ·rename_i tt es U
       split at K
       ·cases K
       ·rename_i ab
        have ab:ek.A (k'.A fr)=true:=by grind
        split at K
        ·rename_i i' w' X
         injection K with K;injection K with T S;subst T;subst S;exact Jei hu af ah ae (Jk hk O) (Jk Q O) (Y r rfl) U ab (.inl ⟨_,_,X,rfl⟩) M
        ·rename_i X
         injection K with K;injection K with T S;subst T;subst S;exact Jei hu af ah ae (Jk hk O) (Jk Q O) (Y r rfl) U ab (.inr ⟨X,rfl⟩) M
        grind
      grind
     grind
    grind
   grind
  grind
 case call cl=>
  simp at L
  split at L
  ·rename_i as a1
   split at L
   ·split at L
    ·split at L
     ·injection L with L;subst L;cases K
     grind
    grind
   ·obtain⟨y,_,Z⟩:=JH L;subst Z
    cases K
   ·rename_i b S
    exact JkR hρ S rfl a1 L K O M ak ag
   grind
  grind
 all_goals cases L
end
structure WF (st:St):Prop where
 a:∀r,st.A r≠ .none->r.A<st.b.A
 t:∀r,st.A r≠ .none->(st.A r).A<st.t
structure Mono (st st':St):Prop where
 wf:WF st'
 t:st.t<=st'.t
 i:st.b.A<=st'.b.A
 d:∀r,st'.A r≠st.A r->st.t<=(st'.A r).A/\st'.A r≠ .none
 g:st'.a<=st.a
 j:∀r,st.A r≠ .none->st'.A r≠st.A r->st'.a<=(st.A r).A
 f:∀r,st.A r= .none->st'.A r≠ .none->st.b.A<=r.A
theorem Mono.B (h:WF v):Mono v v:=⟨h,Xb _,Xb _,fun _ k=>absurd rfl k,Xb _,fun _ _ k=>absurd rfl k,fun _ e k=>absurd e k⟩
theorem Mono.A {a b c:St}(h:Mono a b)(k:Mono b c):Mono a c:=by
 refine⟨k.wf,Zb h.t k.t,Zb h.i k.i,fun r e=> ?_,Zb k.g h.g,fun r m n=> ?_,fun r m n=> ?_⟩
 ·by_cases l:c.A r=b.A r
  ·rw[l]at e⊢;exact h.d r e
  ·exact⟨Zb h.t (k.d r l).1,(k.d r l).2⟩
 ·by_cases l:b.A r=a.A r
  ·have:=k.j r (by grind) (by grind)
   grind
  ·exact Zb k.g (h.j r m l)
 ·by_cases l:b.A r= .none
  ·exact Zb h.i (k.f r l n)
  ·exact h.f r m l
def Eff.B (st:St):Eff->Prop
 | .a=>True
 | .b f=>∀u,(f u).A=u/\f u≠ .none
 | .d r t f=>st.A r≠ .none/\(st.A r).A=t/\∀u,(f u).A=u/\f u≠ .none
 | .e r t f=>st.A r≠ .none/\(st.A r).A=t/\∀u,(f u).A=u/\f u≠ .none
theorem jd (h:WF v)(k:∀u,(p u).A=u/\p u≠ .none):Mono v (v.B p):=by
 have l:v.A v.b= .none:=by
  apply Xd;intro e;exact absurd (h.a _ e) (Gi _)
 have c:∀r,(v.B p).A r=upd v.A v.b (p v.t) r:=fun r=>by rw[St.F]
 have i:(v.B p).b.A=v.b.A+1:=Pt.D _;have m:(v.B p).t=v.t+1:=rfl;refine⟨⟨fun r e=> ?_,fun r e=> ?_⟩,by omega,by omega,fun r e=> ?_,Xb _,fun r j g=> ?_,fun r j g=> ?_⟩
 ·rw[c]at e;by_cases d:r=v.b
  ·grind
  ·rw[Jy _ _ d]at e;have:=h.a r e;omega
 ·rw[c]at e⊢;by_cases d:r=v.b
  ·simp_all
  ·rw[Jy _ _ d]at e⊢;have:=h.t r e;omega
 ·rw[c]at e⊢;by_cases d:r=v.b
  ·simp_all
  ·rw[Jy _ _ d]at e;grind
 ·rw[c]at g;by_cases d:r=v.b
  ·grind
  ·rw[Jy _ _ d]at g;grind
 ·rw[c]at g;by_cases d:r=v.b
  ·grind
  ·rw[Jy _ _ d]at g;grind
theorem Q8 (h:WF v){p:Pt}{f:Nat->Row}(i:v.A p≠ .none)(n:(v.A p).A=z)(o:∀u,(f u).A=u/\f u≠ .none):Mono v (v.D p z f):=by
 have c:∀r,(v.D p z f).A r=upd v.A p (f v.t) r:=fun r=>by rw[St.G]
 have j:(v.D p z f).a<=v.a:=by show(if z<v.a then z else v.a)<=v.a;grind
 have k:(v.D p z f).a<=z:=by show(if z<v.a then z else v.a)<=z;grind
 have q:(v.D p z f).t=v.t+1:=rfl;have l:(v.D p z f).b=v.b:=rfl;refine⟨⟨fun r e=> ?_,fun r e=> ?_⟩,by omega,by grind,fun r e=> ?_,j,fun r m g=> ?_,fun r m g=> ?_⟩
 ·rw[c]at e;rw[l];by_cases d:r=p
  ·subst d;exact h.a _ i
  ·rw[Jy _ _ d]at e;exact h.a r e
 ·rw[c]at e⊢;by_cases d:r=p
  ·simp_all
  ·rw[Jy _ _ d]at e⊢;have:=h.t r e;omega
 ·rw[c]at e⊢;by_cases d:r=p
  ·simp_all
  ·rw[Jy _ _ d]at e;grind
 ·rw[c]at g;by_cases d:r=p
  ·grind
  ·rw[Jy _ _ d]at g;grind
 ·rw[c]at g;by_cases d:r=p
  ·grind
  ·rw[Jy _ _ d]at g;grind
theorem JlJ (h:WF v){e:Eff}(g:e.B v):Mono v (v.J e):=by
 cases e with
 |a=>exact Mono.B h
 |b f=>exact jd h g
 |d r t f=>exact Q8 h g.1 g.2.1 g.2.2
 | e r t f=>
   have i:=Q8 (f:= .c) h g.1 g.2.1 (fun u=>⟨rfl,by simp⟩);exact i.A (jd i.wf g.2.2)
def Eff.F :Eff->Option Pt
 | .d r _ _=>some r
 | .e r _ _=>some r
 |_=>none
def JeG (fr:Fr)(st:St)(i:Iop)(e:Eff):Prop:=
 e.B st/\∀r,e.F=some r->i.G=true/\(∀s∈i.D,rowOf (fr s)=some r)
theorem JeG.A {st:St}{i:Iop}:JeG n st i .a:=⟨trivial,fun _ h=>by cases h⟩
theorem JeG.B (h:∀u,(p u).A=u/\p u≠ .none):JeG n v e (.b p):=⟨h,fun _ h=>by cases h⟩
theorem Yu {r:Pt}(h:rowOf (d.A n)=some r):∀s∈d.B,rowOf (n s)=some r:=by
 intro s a
 cases d with
 |s i=>simp[Opd.B]at a;subst a;exact h
 |c v=>simp[Opd.B]at a
theorem Jc7 {f:List V}(g:rowOf k=rowOf (d.A n))(h:JO v k f=some t)(j:e.G=true)(l:e.D=d.B):JeG n v e t:=by
 unfold JO at h
 split at h
 ·rename_i r o
  split at h
  ·rename_i a m b
   split at h
   ·injection h with h;subst h;refine⟨⟨(by grind),(by rw[b];rfl),fun u=>⟨rfl,by simp⟩⟩,fun q c=> ?_⟩;injection c with c;subst c;exact⟨j,by rw[l];exact Yu g.symm⟩
   grind
  grind
 grind
theorem Jgk {p:V}(h:jY k=some p):rowOf p=rowOf k:=by
 unfold jY at h
 split at h<;>first|(injection h with h;subst h;rfl)|cases h
theorem JqW {i:List V}{x:Opd}(h:JG v z f i (d.A n)=some (k,t)):JeG n v (.app z d x) t:=by
 unfold JG at h
 split at h
 ·split at h
  ·injection h with h;injection h with _ h;subst h;exact .A
  grind
 ·split at h
  ·injection h with h;injection h with _ h;subst h;exact .B fun u=>⟨rfl,by simp⟩
  ·rename_i r o a m j
   split at h
   ·cases h
   ·split at h
    ·rename_i b l c
     split at h
     ·injection h with h;injection h with _ h;subst h;refine⟨⟨(by grind),(by rw[c];rfl),fun u=>⟨rfl,by simp⟩⟩,fun q g=> ?_⟩;injection g with g;subst g;exact⟨rfl,Yu (by rw[j];rfl)⟩
     grind
    grind
  ·rename_i r o a m p j
   split at h
   ·cases h
   ·split at h
    ·rename_i b l c
     split at h
     ·split at h
      ·split at h
       ·injection h with h;injection h with _ h;subst h;refine⟨⟨(by grind),(by rw[c];rfl),fun u=>⟨rfl,by simp⟩⟩,fun q g=> ?_⟩;injection g with g;subst g;exact⟨rfl,Yu (by rw[j];rfl)⟩
       grind
      ·injection h with h;injection h with _ h;subst h;exact .B fun u=>⟨rfl,by simp⟩
     grind
    grind
  grind
theorem Jaw (h:evOp n v e=some (k,t)):JeG n v e t:=by
 cases e<;>simp only[evOp]at h
 case store a x y=>
  split at h
  ·split at h
   ·obtain⟨K,w,l⟩:=JH h;injection l with _ l;subst l;exact Jc7 rfl w rfl rfl
   grind
  grind
 case app z s x=>
  split at h
  ·split at h
   ·split at h
    ·exact JqW h
    grind
   grind
  grind
 case copy z d x=>
  split at h
  ·split at h
   ·split at h
    ·injection h with h;injection h with _ h;subst h;exact .A
    ·split at h
     ·rename_i p J
      obtain⟨K,w,l⟩:=JH h;injection l with _ l;subst l;exact Jc7 (Jgk J) w rfl rfl
     grind
   grind
  grind
 case clear z P x=>
  split at h
  ·split at h
   ·injection h with h;injection h with _ h;subst h;exact .A
   ·split at h
    ·rename_i p J
     split at h
     ·obtain⟨K,w,l⟩:=JH h;injection l with _ l;subst l;exact Jc7 (Jgk J) w rfl rfl
     grind
    grind
  grind
 case mupd M m b x=>
  split at h
  ·rename_i r o
   split at h
   ·rename_i c L f
    split at h
    ·cases h
    ·split at h<;>first
      |(cases h;done)
      | (injection h with h;injection h with _ h;subst h
         refine⟨⟨(by grind),(by rw[f];rfl),fun u=>⟨rfl,by simp⟩⟩,fun q g=> ?_⟩;injection g with g;subst g;exact⟨rfl,Yu (by rw[o];rfl)⟩)
   grind
  grind
 case ment M z m b=>
  split at h
  ·rename_i r o
   split at h
   ·rename_i c L f
    split at h
    ·cases h
    ·split at h<;>first
      |(cases h;done)
      | (injection h with h;injection h with _ h;subst h
         refine⟨⟨(by grind),(by rw[f];rfl),fun u=>⟨rfl,by simp⟩⟩,fun q g=> ?_⟩;injection g with g;subst g;exact⟨rfl,Yu (by rw[o];rfl)⟩)
   grind
  grind
 case ests m s x=>
  split at h
  ·rename_i r j o _
   split at h
   ·rename_i c L f
    split at h
    ·injection h with h;injection h with _ h;subst h;refine⟨⟨(by grind),(by rw[f];rfl),fun u=>⟨rfl,by simp⟩⟩,fun q g=> ?_⟩;injection g with g;subst g;exact⟨rfl,Yu (by rw[o];rfl)⟩
    grind
   grind
  grind
 case nextS x=>
  split at h
  ·rename_i r o
   split at h
   ·rename_i c a s N f
    split at h
    ·split at h
     ·injection h with h;injection h with _ h;subst h;refine⟨⟨(by grind),(by rw[f];rfl),fun u=>⟨rfl,by simp⟩⟩,fun q g=> ?_⟩;injection g with g;subst g;exact⟨rfl,Yu (by rw[o];rfl)⟩
     ·injection h with h;injection h with _ h;subst h;refine⟨⟨(by grind),(by rw[f];rfl),fun u=>⟨rfl,by simp⟩⟩,fun q g=> ?_⟩;injection g with g;subst g;exact⟨rfl,Yu (by rw[o];rfl)⟩
    ·injection h with h;injection h with _ h;subst h;exact .A
   grind
  grind
 case nextM x=>
  split at h
  ·rename_i r o
   split at h
   ·injection h with h;injection h with _ h;subst h;exact .A
   ·rename_i c m Q O f
    split at h
    ·split at h
     ·cases h
     ·split at h
      ·injection h with h;injection h with _ h;subst h;refine⟨⟨(by grind),(by rw[f];rfl),fun u=>⟨rfl,by simp⟩⟩,fun q g=> ?_⟩;injection g with g;subst g;exact⟨rfl,Yu (by rw[o];rfl)⟩
      ·injection h with h;injection h with _ h;subst h;exact .A
    grind
   grind
  grind
 all_goals (repeat' (split at h))<;>first
  |(cases h;done)
  |(injection h with h;injection h with _ h;subst h;exact .A)
  |(injection h with h;injection h with _ h;subst h;exact .B fun u=>⟨rfl,by simp⟩)
  |(obtain⟨_,_,l⟩:=JH h;injection l with _ l;subst l;exact .A)
theorem Jgl {l:List Opd}(h:∀x∈l,x.A n=x.A y):evs n l=evs y l:=Hw h
theorem JeH {l:List (Nat×Nat×Opd)}(h:∀x∈l.map (·.2.2),x.A n=x.A y):evps n l=evps y l:=
 Hw fun p a=>by grind
theorem QM {o:Option Opd}(h:∀x∈Jbg o,x.A n=x.A y):o.map (Opd.A n)=o.map (Opd.A y):=by
 cases o with
 |none=>rfl
 |some x=>simp[h x (by simp[Jbg])]
theorem JkS (h:∀x∈e.I,x.A n=x.A y):evOp n v e=evOp y v e:=by
 cases e<;>simp only[Iop.I,Xq,HQ,or_false,forall_eq_or_imp,forall_eq,Xs]at h
 case build k l=>simp only[evOp,JeH h]
 case bsl z a k l=>simp[evOp,JeH h]
 case mkfn f p q=>simp[evOp,Jgl fun x b=>h x (.inl b),Jgl fun x b=>h x (.inr b)]
 case cutS x g j=>simp[evOp,h.1,QM fun x b=>h.2 x (.inl b),QM fun x b=>h.2 x (.inr b)]
 case cutL z x g j m=>simp[evOp,h.1,QM fun x b=>h.2 x (.inl b),QM fun x b=>h.2 x (.inr (.inl b)),QM fun x b=>h.2 x (.inr (.inr b))]
 case cutA a z x g j m=>simp[evOp,h.1,QM fun x b=>h.2 x (.inl b),QM fun x b=>h.2 x (.inr (.inl b)),QM fun x b=>h.2 x (.inr (.inr b))]
 all_goals first
  |rfl
  |simp[evOp,h]
  |(obtain⟨c,d⟩:=h;simp[evOp,c,d])
  |(obtain⟨c,d,o⟩:=h;simp[evOp,c,d,o])
def only (l:List Nat)(fr:Fr):Fr:=fun s=>if s∈l then fr s else .y
theorem JqX (h:z∈q):only q n z=n z:=Xe h
theorem JlK (h:∀s∈d.B,s∈q):d.A (only q n)=d.A n:=by
 cases d with
 |s i=>exact JqX (h i (by simp[Opd.B]))
 |c v=>rfl
theorem Jgm :evOp (only e.F n) v e=evOp n v e:=
 JkS fun x a=>JlK fun s b=>by
  unfold Iop.F
  grind
structure Post (γ:Locs) (ρ:Nat->Value) (base:Bs) (c:Pt->Row) (st st':St) (w:World) (v:V) (γ':Locs) (c':Pt->Row) (y:Value) (w':World):Prop where
 f:R γ' ρ v y
 rel:Rel γ' ρ base c' w'
 d:Ext γ γ'
 g:∀r,γ' r≠none->γ r≠none\/(st.b.A<=r.A/\r.A<st'.b.A)
 a:∀r,st'.A r=st.A r->c' r=c r
 b:∀r,st'.A r≠st.A r->c' r=st'.A r
 below:Below base.n w w'
def YF (γ:Locs)(st st':St):Prop:=∀r,st.b.A<=r.A->r.A<st'.b.A->γ r=none
def Ye (P:Program)(ρ:Nat->Value)(base:Bs)(self:Self):Prop:=
 ∀ f args st v st', self f args st = some (v, st') -> WF st -> Mono st st' /\ (∃ fn, P.funcs[f]? = some fn /\ fn.body.isSome = true /\ fn.name ≠ "runtime.NumGoroutine") /\
  ∀γ c w xs,RL γ ρ args xs->Rel γ ρ base c w->Full γ c st->YF γ st st'->
   Calls P f xs.toArray w fun e w'=>∃y γ' c',e= .returned y/\Post γ ρ base c st st' w v γ' c' y w'
section
variable {P : Program} {γ : Locs} {ρ : Nat -> Value} {base : Bs} {st : St} {c : Pt -> Row} {w : World} {fr : Fr} {a : Act}
theorem JlL {e:Eff}(k:WF st)(j:e.B st)(r:Pt):(e.D st st.A r=st.A r->e.D st c r=c r)/\(e.D st st.A r≠st.A r->e.D st c r=e.D st st.A r):=by
 have g:∀(f:Nat->Row) (q:Pt) (u:Nat),(∀u,(f u).A=u/\f u≠ .none)->st.t<=u->f u≠st.A q:=fun f q u l m e=>by
  have n:=k.t q (by grind)
  grind
 cases e with
 |a=>exact⟨fun _=>rfl,fun h=>absurd rfl h⟩
 | b f=>
   simp[Eff.D];by_cases i:r=st.b
   ·subst i;rw[JC,JC];exact⟨fun h=>absurd h (g f _ _ j (Xb _)),fun _=>rfl⟩
   ·rw[Jy _ _ i,Jy _ _ i];simp
 | d p t f=>
   simp[Eff.D];by_cases i:r=p
   ·subst i;rw[JC,JC];exact⟨fun h=>absurd h (g f _ _ j.2.2 (Xb _)),fun _=>rfl⟩
   ·rw[Jy _ _ i,Jy _ _ i];simp
 | e p t f=>
   simp[Eff.D];by_cases i:r=st.b
   ·subst i;rw[JC,JC];exact⟨fun h=>absurd h (g f _ _ j.2.2 (Nat.le_succ _)),fun _=>rfl⟩
   ·rw[Jy _ _ i,Jy _ _ i];by_cases i:r=p
    ·subst i;rw[JC,JC];exact⟨fun h=>absurd h (g .c _ _ (fun u=>⟨rfl,by simp⟩) (Xb _)),fun _=>rfl⟩
    ·rw[Jy _ _ i,Jy _ _ i];simp
theorem Jr6 {e:Eff}(h:e.A=true):(st.J e).b.A=st.b.A+1:=by
 cases e with
 |a=>cases h
 |b f=>exact Pt.D _
 |d p t f=>cases h
 |e p t f=>exact Pt.D _
theorem OpOK.F {v:V}{s:Sem Next}(f:WF st)(g:t.B st)(h:OpOK P γ ρ base st c w v t s):
  ∃x a y γ' i,s.run P w= .ok x a/\(x= .value y\/(x= .skip/\y=undef))/\Post γ ρ base c st (st.J t) w v γ' i y a:=by
 obtain⟨x,a,γ',j,l,m,n,o,p⟩:=h;have q:∀y,R γ' ρ v y->Post γ ρ base c st (st.J t) w v γ' (t.D st c) y a:=fun y u=>
  ⟨u,m,n,fun r k=>(o r k).imp id fun⟨b,d⟩=>by rw[Jr6 d,b];omega,
   fun r k=>by rw[St.I]at k;exact(JlL f g r).1 k,fun r k=>by rw[St.I]at k⊢;exact(JlL f g r).2 k,p⟩
 rcases l with⟨y,b,d⟩|⟨b,d⟩
 ·grind
 ·exact⟨x,a,undef,γ',_,j, .inr ⟨b,rfl⟩,q undef (by rw[d];exact⟨[],rfl,rfl⟩)⟩
theorem Jr7 (l:WF st)(m:t.B st)(h:OpOK P γ ρ base st c w k t (execOp a.eval i))
  (f:∀y γ' g d,Post γ ρ base c st (st.J t) w k γ' g y d->r (a.put i.dst y) d):i.wp P a w r b:=by
 obtain⟨x,d,y,γ',g,n,p,j⟩:=h.F l m;unfold Oper.wp;rw[n];rcases p with rfl|⟨rfl,rfl⟩
 ·exact f _ _ _ _ j
 ·exact f _ _ _ _ j
theorem JhW {f : FuncId} {fn : Func} {args : Array Value} (h1 : P.funcs[f]? = some fn) (h2 : fn.body.isSome = true) (h3 : fn.name ≠ "runtime.NumGoroutine") : (callFunc f args).run P w = .ok (.enter f args) w := by
 obtain⟨b,hb⟩:=ZD.1 h2;simp[callFunc,h1,hb,h3]
theorem JlM {self:Self}(L:Ye P ρ base self)(j:YI P i=some e)(s:e.A=true)(X:KW self fr st e=some (k,v))(hw:WF st)
  (S:∀x∈e.I,∀xo,opd xo=some x->R γ ρ (x.A fr) (a.eval xo)) (T:Rel γ ρ base c w) (M:Full γ c st) (aa:YF γ st v)  
  (hK:∀y γ' c' w',Post γ ρ base c st v w k γ' c' y w'->r (a.put i.dst y) w'):i.wp P a w r b:=by
 obtain⟨dst,op,ty,pos,after,guard⟩:=i;have enter:∀(f:Nat) (args:List V) (U:List Value),self f args st=some (k,v)->RL γ ρ args U->(execOp a.eval {dst:=dst,op:=op,type:=ty,pos:=pos,after:=after,guard:=guard}).run P w=(callFunc f U.toArray).run P w->
   Oper.wp P {dst:=dst,op:=op,type:=ty,pos:=pos,after:=after,guard:=guard} a w r b:=by
  intro f args U J m Y;obtain⟨_,⟨fn,f1,f2,f3⟩,Z⟩:=L f args st k v J hw;unfold Oper.wp;rw[Y,JhW f1 f2 f3];refine Calls.mono (Z γ c w U m T M aa) fun d w' ⟨y,γ',c',e1,e2⟩=> ?_
  grind
 have n:∀(l:Array Operand) (O:List Opd),opds l=some O->(∀y∈O,y∈e.I)->RL γ ρ (evs fr O) (l.map a.eval).toList:=by
  intro l O J m;rw[Z8];unfold opds at J;generalize l.toList=l at J
  induction l generalizing O with
  |nil=>simp at J;subst J;rfl
  | cons x l ih=>
    rw[Zt]at J
    cases Y:opd x with
    |none=>grind
    | some z=>
      cases Z:l.mapM opd with
      |none=>grind
      | some zs=>
        simp[Y,Z]at J;subst J;exact⟨a.eval x,_,rfl,S z (m z (by simp)) x Y,ih zs (fun y N=>m y (by simp[N])) Z⟩
 unfold YI at j
 cases op
 case call cl=>
  simp at j
  split at j
  ·rename_i as W
   split at j
   ·rename_i f u
    split at j
    ·split at j
     ·injection j with j;subst j;refine enter f (evs fr as) _ X (n _ _ W fun y N=>N) ?_;simp[execOp,resolve,u,Act.eval,Deferred.ofValue,invoke];congr 2
      grind
     grind
    grind
   ·rename_i x _ u
    obtain⟨y,N,m⟩:=JH j;subst m;have hx:=S y (by simp[Iop.I]) x N;simp only[KW]at X
    split at X
    ·rename_i f p q ab
     rw[ab]at hx;obtain⟨U,O,e1,e2,e3⟩:=hx;refine enter f _ _ X (RL.D (RL.D e2 (n _ _ W fun y N=>by simp[Iop.I,N])) e3) ?_;simp[execOp,resolve,u,e1,Deferred.ofValue,invoke];congr 2;simp
    grind
   ·rename_i g u
    exfalso;unfold jy at j
    (repeat' (split at j))<;>first
     |(cases j;done)
     |(injection j with j;subst j;cases s;done)
     |(obtain⟨_,_,m⟩:=JH j;subst m;cases s;done)
   grind
  grind
 case binOp op t x y yt=>
  exfalso
  cases op<;>simp at j<;>(repeat' (split at j))<;>first
   |(cases j;done)
   |(injection j with j;subst j;cases s;done)
   |(obtain⟨_,_,m⟩:=JH j;subst m;cases s;done)
 case unOp op t x=>
  exfalso
  cases op<;>simp only at j<;>(repeat' (split at j))<;>first
   |(cases j;done)
   |(injection j with j;subst j;cases s;done)
   |(obtain⟨_,_,m⟩:=JH j;subst m;cases s;done)
 case makeFunc fn p q=>
  exfalso
  cases fn<;>simp at j<;>(repeat' (split at j))<;>first
   |(cases j;done)
   |(injection j with j;subst j;cases s;done)
   |(obtain⟨_,_,m⟩:=JH j;subst m;cases s;done)
 case makeMap t h=>
  exfalso
  cases h<;>simp only at j<;>(repeat' (split at j))<;>first
   |(cases j;done)
   |(injection j with j;subst j;cases s;done)
   |(obtain⟨_,_,m⟩:=JH j;subst m;cases s;done)
 case next it str=>
  exfalso
  cases str<;>simp only at j<;>(repeat' (split at j))<;>first
   |(cases j;done)
   |(injection j with j;subst j;cases s;done)
   |(obtain⟨_,_,m⟩:=JH j;subst m;cases s;done)
 all_goals
  exfalso;simp only at j
  (repeat' (split at j))<;>first
   |(cases j;done)
   |(injection j with j;subst j;cases s;done)
   |(obtain⟨_,_,m⟩:=JH j;subst m;cases s;done)
end
structure JdH (n:Nat) (a:Act):Prop where
 c:n<=a.tmps.size
 b:a.defers=[]
theorem JdH.A {a:Act}(h:JdH z a)(d:Option Tmp)(y:Value):JdH z (a.put d y):=by
 cases d with
 |none=>exact h
 |some d=>exact⟨by simpa[Act.put]using h.c,h.b⟩
theorem JiF {a:Act}(h:JdH z a)(b:f<z)(y:Value):(a.put (some f) y).tmps.getD f undef=y:=by
 have:=h.c;simp[Act.put,Array.getD,show f<a.tmps.size by omega]
theorem Joc {a:Act}(h:f≠z)(y:Value):(a.put (some z) y).tmps.getD f undef=a.tmps.getD f undef:=by
 simp[Act.put,XR,Gq (Ne.symm h)]
section
variable {P : Program} {γ : Locs} {ρ : Nat -> Value} {base : Bs} {st : St} {c : Pt -> Row} {w : World} {fr : Fr} {a : Act}
theorem Yl {l:List Iop}{n:Bool}{m:Ins}(h:jz j z l n f i e=some m):
  m.b=i.dst/\m.d=e/\(∀d,i.dst=some d->d<z)/\(m.c=if n&&e.A then okWs j l f else none)/\
  ((i.guard=none/\m.a=none)\/∃g p d,i.guard=some (g,p)/\m.a=some (d,p)/\(j[g]?).bind (·.dst)=some d/\d<z):=by
 unfold jz at h;have q:i.dst.all (·<z)=true->∀d,i.dst=some d->d<z:=fun h d k=>by grind
 split at h
 ·grind
 grind
theorem Jgn {self:Self}{l:List Iop}{m:Bool}{o:Oper}{t:Ins}(h:jz j z l m f o e=some t)
  (p:Yq self m fr st t=some (n,v)) (Q:JdH z a) (S:∀s∈JaW j o,R γ ρ (fr s) (a.tmps.getD s undef)):
  (Region.wanted o (yielded j a.tmps)=true/\∃g,(if m&&e.A then KQ self (okWs j l f) fr st e else KW self fr st e)=some (g,v)/\n=put fr o.dst g)\/
  (Region.wanted o (yielded j a.tmps)=false/\v=st/\n=put fr o.dst JY):=by
 obtain⟨X,Y,Z,h4,T⟩:=Yl h;have O:evGo self m fr st t=some (n,v)->∃g,(if m&&e.A then KQ self (okWs j l f) fr st e else KW self fr st e)=some (g,v)/\n=put fr o.dst g:=by
  intro y;unfold evGo at y
  grind
 unfold Yq at p;rcases T with⟨u,J⟩|⟨k,P,d,u,J,K,g4⟩
 ·rw[J]at p;exact .inl ⟨by simp[Region.wanted,u],O p⟩
 ·rw[J]at p;simp at p;have q:=S d (by simp[JaW,u,K]);have U:d<a.tmps.size:=by have:=Q.c;omega
  have r:a.tmps[d]? =some (a.tmps.getD d undef):=by simp_all
  split at p
  ·rename_i b L
   rw[L]at q;have q:a.tmps.getD d undef= .bool b:=q;have w:yielded j a.tmps k=some b:=by simp[yielded,K,r,q]
   split at p
   ·rename_i M
    exact .inl ⟨by simp[Region.wanted,u,w];grind,O p⟩
   ·rename_i M
    injection p with p;injection p with W N;exact .inr ⟨by simp[Region.wanted,u,w];grind,N.symm,by grind⟩
  ·rename_i tl L
   rw[L]at q;obtain⟨xs,q,_⟩:=q;have w:yielded j a.tmps k=none:=by simp[yielded,K,r,q]
   injection p with p;injection p with W N;exact .inr ⟨by simp[Region.wanted,u,w],N.symm,by grind⟩
  grind
end
structure Q0 (γ:Locs) (ρ:Nat->Value) (base:Bs) (c:Pt->Row) (st st':St) (w:World) (γ':Locs) (c':Pt->Row) (w':World):Prop where
 rel:Rel γ' ρ base c' w'
 f:Ext γ γ'
 b:∀r,γ' r≠none->γ r≠none\/(st.b.A<=r.A/\r.A<st'.b.A)
 a:∀r,st'.A r=st.A r->c' r=c r
 d:∀r,st'.A r≠st.A r->c' r=st'.A r
 below:Below base.n w w'
section
variable {P : Program} {γ : Locs} {ρ : Nat -> Value} {base : Bs} {st : St} {c : Pt -> Row} {w : World} {fr : Fr} {a : Act}
theorem Post.s {γ':Locs}(e:Post γ ρ base c st v w k γ' h u x):Q0 γ ρ base c st v w γ' h x:=
 ⟨e.rel,e.d,e.g,e.a,e.b,e.below⟩
theorem Q0.A (h:Rel γ ρ base c w):Q0 γ ρ base c st st w γ c w:=
 ⟨h,Ext.A _,fun _ k=> .inl k,fun _ _=>rfl,fun _ k=>absurd rfl k,Below.refl _ _⟩
theorem Q0.D {st':St}{γ':Locs}{w':World}(g:Q0 γ ρ base c st st' w γ' h w')(j:WF st)(l:Full γ c st):Full γ' h st':=by
 intro r m i;by_cases e:st'.A r=st.A r
 ·rw[g.a r e,e];rw[e]at i;rcases g.b r m with k|⟨k,_⟩
  ·exact l r k i
  ·have:=j.a r i;omega
 ·exact g.d r e
theorem Q0.B {j:St}{γ1 γ2:Locs}{o:Pt->Row}{p:World}(g:Q0 γ ρ base c st v w γ1 h x)(k:Q0 γ1 ρ base h v j x γ2 o p)(m:Mono st v)(q:Mono v j)(s:WF st):
  Q0 γ ρ base c st j w γ2 o p:=by
 refine⟨k.rel,g.f.D k.f,fun r e=> ?_,fun r e=> ?_,fun r e=> ?_,g.below.trans k.below⟩
 ·have u:=m.i;have y:=q.i;rcases k.b r e with e|e
  ·rcases g.b r e with e|e
   ·grind
   omega
  omega
 ·by_cases n:v.A r=st.A r
  ·rw[k.a r (by grind),g.a r n]
  ·exfalso;have u:=m.d r n;have l:j.A r≠v.A r:=fun l=>n (by grind);have y:=q.d r l;have z:=m.t;have J:=s.t r (by grind)
   grind
 ·by_cases l:j.A r=v.A r
  ·rw[k.a r l,l];exact g.d r (by grind)
  ·exact k.d r l
theorem Y3 {self:Self}(b:Ye P ρ base self)(c:KW self fr st e=some (k,v))(d:WF st):Mono st v:=by
 unfold KW at c
 split at c
 ·exact(b _ _ _ _ _ c d).1
 ·split at c
  ·exact(b _ _ _ _ _ c d).1
  grind
 ·obtain⟨⟨h,a⟩,g,f⟩:=JH c;injection f with _ f;subst f;exact JlJ d (Jaw g).1
theorem Ja0 {self:Self}(c:e.A=false)(b:KW self fr st e=some (k,v)):∃a,evOp fr st e=some (k,a)/\v=st.J a:=by
 unfold KW at b
 split at b
 ·cases c
 ·cases c
 ·obtain⟨⟨d,a⟩,f,g⟩:=JH b
  grind
theorem FR.A {γ':Locs}{n:Nat}(h:FR γ ρ fr a)(b:Ext γ γ')(c:JdH n a){d:Option Tmp}(f:∀k,d=some k->k<n){v:V}{y:Value}(g:R γ' ρ v y):FR γ' ρ (Eva.put fr d v) (a.put d y):=by
 intro s
 cases d with
 |none=>exact(h s).A b
 | some d=>
   by_cases e:s=d
   ·subst e;rw[JiF c (f s rfl)];simpa[Eva.put]using g
   ·rw[Joc e];have:Eva.put fr (some d) v s=fr s:=by simp[Eva.put,e]
    rw[this];exact(h s).A b
theorem Full.A {i:Iop}(h:Full γ c st):Jah γ c st fr i:=by
 unfold Jah
 split
 ·exact h
 ·intro s _ r _ a b;exact h r a b
theorem Post.A {e:Eff}(c:YF γ st (st.J e)):e.A=true->γ st.b=none:=fun h=>c st.b (Xb _) (by rw[Jr6 h];omega)
end
end Eva
