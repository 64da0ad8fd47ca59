/- Functions by contracts that read memory. strings.Join, as a hook that reads memory. 'Su -/
import Derived.Test.YtdajkeoobbonjaaGreatEvd9
import Derived.Lib.Join
import Derived.ChangeArms
set_option linter.constructorNameAsVariable false
set_option linter.unusedVariables false
set_option linter.unusedSimpArgs false
set_option linter.unusedSectionVars false
set_option maxRecDepth 100000
namespace Eva
open Go Go.RowKit
variable {t:List (Str×Ty)}{k:Nat}{b:Pt->Prop}{d:List V}{i:List (List V)}{q M:St}{p:Str->Bool}{j:List Value}{a:V}{u:Tb}{T:Pt}{U:Value}{K:List Str}{N:Sch}{O:V->St->Prop}{X:Ty}{Y:St->List V->Prop}{Z:World}
noncomputable def JaB (g:List V->St->Option V):E:={b:=fun _ args st=>match g args st with
 |some v=>some (v,st)
 |none=>none}
section
variable {P : Program} {ρ : Nat -> Value} {base : Bs}
theorem JjC {f : Nat} {fn : Func} (h1 : P.funcs[f]? = some fn) (h2 : fn.body.isSome = true) (h3 : fn.name ≠ "runtime.NumGoroutine") {g : List V -> St -> Option V}
  (hc:∀args st v,g args st=some v->∀γ c w xs,RL γ ρ args xs->Rel γ ρ base c w->Full γ c st->Calls P f xs.toArray w fun e w'=>∃y,e= .returned y/\R γ ρ v y/\Below w.heap.size w w'):
  KM P ρ base f (JaB g).b:=by
 intro self _ args st v st' he hw;have he:(match g args st with
  |some v=>some (v,st)
  |none=>none)=some (v,st'):=he
 split at he
 ·rename_i u hg
  injection he with he;injection he with e1 e2;subst e1;subst e2;refine⟨Mono.B hw,⟨fn,h1,h2,h3⟩,fun γ c w xs hx hrel hfull _=> ?_⟩;refine(hc args st u hg γ c w xs hx hrel hfull).mono fun e w' ⟨y,e1,e2,e3⟩=> ?_;exact⟨y,γ,c,e1,e2,hrel.below e3,Ext.A _,fun _ k=> .inl k,fun _ _=>rfl,fun _ k=>absurd rfl k,e3.mono hrel.y⟩
 grind
theorem Jg4 {γ:Locs}{c:Pt->Row}(j:Rel γ ρ base c Z)(O:Full γ c q){m:Loc}(P:γ T=some m){n:Nat}(h:Kn q n (.g T k)=some d):
  d.length=n/\∀i v,d[i]? =some v->∃x,Z.cell? ⟨m.b,m.o+k+i,none⟩=some x/\R γ ρ v x:=by
 unfold Kn at h;simp at h;have get:∀(l:List V),k+n<=l.length->∀i v,((l.drop k).take n)[i]? =some v->l[k+i]? =some v:=fun l y i v z=>by grind
 split at h
 ·rename_i t l y
  split at h
  ·rename_i p
   injection h with h;subst h;refine⟨by grind,fun i v z=> ?_⟩;have J:c T= .a t l:=by rw[O T (by grind) (by grind),y]
   obtain⟨U,e,s⟩:=j.f T (by grind);rw[P]at e;injection e with e;subst e;rw[J]at s;obtain⟨K,u,W,L,Q,S,X,Y⟩:=s;obtain⟨x,M,N⟩:=X _ _ (get l p i v z);refine⟨x, ?_,N⟩;rw[show m.o+k+i=m.o+(k+i) by omega];simp[World.cell?,L,M]
  grind
 ·rename_i l y
  split at h
  ·rename_i p
   injection h with h;subst h;refine⟨by grind,fun i v z=> ?_⟩;have J:c T= .f l:=by rw[O T (by grind) (by grind),y]
   obtain⟨U,e,s⟩:=j.f T (by grind);rw[P]at e;injection e with e;subst e;rw[J]at s;obtain⟨K,u,W,x,L,Q,S⟩:=s _ _ (get l p i v z);refine⟨x, ?_,S⟩;rw[show m.o+k+i=m.o+(k+i) by omega];simp[World.cell?,L,Q]
  grind
 grind
end
def jl {α:Type}(p:α->Bool):List α->Option Nat
 |[]=>none
 | x::r=>match jl p r with
   |some i=>some (i+1)
   |none=>if p x then some 0 else none
theorem Y6 {α:Type}{p:α->Bool}:∀{l:List α} {i:Nat},jl p l=some i->∃h:i<l.length,p l[i]=true/\∀j (c:j<l.length),i<j->p l[j]=false
 |[],_,h=>by cases h
 | x::r,i,h=>by
   unfold jl at h
   cases b:jl p r with
   | some k=>
     rw[b]at h;injection h with h;subst h;obtain⟨e,f,g⟩:=Y6 b
     grind
   | none=>
     rw[b]at h;simp only[]at h
     split at h
     ·rename_i m
      injection h with h;subst h;refine⟨by simp,by grind,fun j c d=> ?_⟩
      cases j with
      |zero=>omega
      |succ j=>simpa using a b _ (Xh (by grind))
     grind
where a {α:Type} {p:α->Bool}:∀{l:List α},jl p l=none->∀x∈l,p x=false
 |[],_,x,hx=>by cases hx
 | y::r,h,x,hx=>by
   unfold jl at h
   cases hr:jl p r with
   |some k=>grind
   | none=>
     rw[hr]at h;simp only[]at h
     split at h
     ·cases h
     ·rename_i hp
      rcases Xq.1 hx with e|e
      ·grind
      ·exact a hr x e
def kP :List V->Option (List (Nat×Nat×Int))
 |[]=>some []
 | .t n v:: .d .i64 t::r=>(kP r).map fun l=>(n,v,t)::l
 |_=>none
theorem Jfo :∀{a:List V} {l:List (Nat×Nat×Int)},kP a=some l->a.length=2*l.length/\∀i (h:i<l.length),a[2*i]? =some (.t l[i].1 l[i].2.1)/\a[2*i+1]? =some (.d .i64 l[i].2.2)
 |[],l,h=>by injection h with h;grind
 | .t n v:: .d .i64 t::r,l,h=>by
   simp only[kP]at h
   cases b:kP r with
   |none=>grind
   | some m=>
     rw[b]at h;injection h with h;subst h;obtain⟨c,e⟩:=Jfo b
     grind
def Jfp :List V->St->Option V
 | [.j [.d .i64 _,vars,nar], .t n v],st=>match slen nar with
   |none=>none
   | some _=>match slen vars with
     |none=>none
     | some k=>if 100000<k then none else if n=0 then some (.p [.d .i64 (-1), .h true])else match(Jz st 2 k vars).bind kP with
       |none=>none
       | some l=>match jl (fun p=>p.1==n&&p.2.1==v) l with
         |some i=>some (.p [.d .i64 i, .h true])
         |none=>some (.p [.d .i64 (-1), .h false])
 |_,_=>none
def JbN (w:World)(a:Option Addr)(zs:List (ByteArray×Int)):Prop:=
 zs=[]\/∃b off,a=some ⟨b,off,none⟩/\b<w.heap.size/\∀j (h:j<zs.length),w.cell? ⟨b,off+2*j,none⟩=some (.string zs[j].1)/\w.cell? ⟨b,off+2*j+1,none⟩=some (.int .i64 zs[j].2)
theorem JmM {ρ:Nat->Value}{K:Bs}{γ:Locs}{c:Pt->Row}(u:Rel γ ρ K c Z)(hf:Full γ c q)(L:R γ ρ a U)(t:slen a=some k)(v:Jz q 2 k a=some d)
  {l:List (Nat×Nat×Int)} (hl:kP d=some l):l.length=k/\∃e f n,U= .slice e k f/\n.length=k/\JbN Z e n/\∀i (h:i<l.length) (M:i<n.length),n[i].1.data.toList.length=l[i].1/\snum n[i].1.data.toList=l[i].2.1/\n[i].2=l[i].2.2:=by
 obtain⟨p1,p2⟩:=Jfo hl;have y:k=0->∀e f,U= .slice e k f->d.length=2*k->l.length=k/\∃e f n,U= .slice e k f/\n.length=k/\JbN Z e n/\∀i (h:i<l.length) (M:i<n.length),n[i].1.data.toList.length=l[i].1/\snum n[i].1.data.toList=l[i].2.1/\n[i].2=l[i].2.2:=by
  intro S e f L O;exact⟨by omega,e,f,[],L,by simp[S], .inl rfl,fun i h M=>by omega⟩
 have T:∀r o J f p,γ r=some p->U= .slice (some J) k f->k<=f->(f≠0->J=⟨p.b,p.o+o,none⟩)->Kn q (k*2) (.g r o)=some d->l.length=k/\∃e f n,U= .slice e k f/\n.length=k/\JbN Z e n/\∀i (h:i<l.length) (M:i<n.length),n[i].1.data.toList.length=l[i].1/\snum n[i].1.data.toList=l[i].2.1/\n[i].2=l[i].2.2:=by
  intro r o J f p W M h3 h4 h5;obtain⟨q1,X⟩:=Jg4 u hf W h5;by_cases S:k=0
  ·grind
  have P:l.length=k:=by omega
  have Q:=h4 (by omega);refine⟨P,some J,f, ?_⟩;have N:∀i,∃z:ByteArray×Int,∀h:i<l.length,Z.cell? ⟨p.b,p.o+o+2*i,none⟩=some (.string z.1)/\Z.cell? ⟨p.b,p.o+o+2*i+1,none⟩=some (.int .i64 z.2)/\z.1.data.toList.length=l[i].1/\snum z.1.data.toList=l[i].2.1/\z.2=l[i].2.2:=fun i=>by
   by_cases h:i<l.length
   ·obtain⟨r1,r2⟩:=p2 i h;obtain⟨x1,a1,s,a2,a3,a4⟩:=X _ _ r1;obtain⟨x2,b1,Y⟩:=X _ _ r2;have Y:x2= .int .i64 l[i].2.2:=Y;exact⟨(s,l[i].2.2),fun _=>⟨by grind,by grind,a3,a4,rfl⟩⟩
   ·exact⟨default,fun k=>absurd k h⟩
  refine⟨(List.range k).map fun i=>Classical.choose (N i),M,by simp, .inr ⟨p.b,p.o+o,by rw[Q],(u.d r p W).2,fun j hj=> ?_⟩,fun i hi aa=> ?_⟩
  ·grind
  grind
 unfold slen at t
 split at t
 ·injection t with t;subst t;have O:d=[]:=by simpa[Jz]using v.symm
  exact y rfl none 0 L (by grind)
 ·rename_i r o m z
  injection t with t;subst t;unfold Jz at v;simp only[]at v
  split at v
  ·obtain⟨p,J,cp,k1,k2,k3,k4,_⟩:=L
   grind
  grind
 ·rename_i r o m z cp
  injection t with t;subst t;unfold Jz at v;simp only[]at v
  split at v
  ·obtain⟨p,J,k1,k2,k3,k4,_⟩:=L
   grind
  grind
 grind
theorem qV {γ:Locs}{ρ:Nat->Value}(d:R γ ρ a U)(c:slen a=some k):∃b e,U= .slice b k e:=by
 unfold slen at c
 split at c
 ·injection c with c;subst c;exact⟨none,0,d⟩
 ·injection c with c;subst c;obtain⟨f,g,j,h,i,_⟩:=d
  grind
 ·injection c with c;subst c;obtain⟨f,g,h,i,_⟩:=d
  grind
 grind
def Jg5 (P:Program)(f:Nat):Prop:=∀(w:World) (d:Int) (a:Option Addr) (cap:Nat) (b:Option Addr) (m cap2:Nat) (s:ByteArray) (zs:List (ByteArray×Int)),zs.length<=100000->(s.size≠0->JbN w a zs)->
 Calls P f #[.agg #[.int .i64 d, .slice a zs.length cap, .slice b m cap2], .string s] w fun e w'=>Below w.heap.size w w'/\
  ((s.size=0/\e= .returned (.tuple #[.int .i64 (-1), .bool true]))\/
   (s.size≠0/\∃k:Nat,∃h:k<zs.length,e= .returned (.tuple #[.int .i64 k, .bool true])/\zs[k].1=s/\∀j (hj:j<zs.length),k<j->zs[j].1≠s)\/
   (s.size≠0/\e= .returned (.tuple #[.int .i64 (-1), .bool false])/\∀j (hj:j<zs.length),zs[j].1≠s))
theorem Jsz {a b:ByteArray}(c:a.data.toList.length=b.data.toList.length)(d:snum a.data.toList=snum b.data.toList):a=b:=by
 have:=jb c d
 cases a;simp_all
theorem JjD {P : Program} {ρ : Nat -> Value} {base : Bs} {f : Nat} {fn : Func} (h1 : P.funcs[f]? = some fn) (h2 : fn.body.isSome = true) (h3 : fn.name ≠ "runtime.NumGoroutine") (hp : Jg5 P f) : KM P ρ base f (JaB Jfp).b :=
 JjC h1 h2 h3 fun args st v hv γ c w xs hx hrel hf=>by
  unfold Jfp at hv
  split at hv
  ·rename_i st d vars nar n u
   obtain⟨y,ys,e1,⟨fs,e2,d',fs1,e3,ed,sv,fs2,e4,hsv,nv,fs3,e5,hnv,e6⟩,y',ys',e7,⟨s,e8,e9,e10⟩,e11⟩:=hx;simp[RL]at e6 e11;have ed:d'= .int .i64 d:=ed;subst e11;subst e8;subst e7;subst e6;subst e5;subst e4;subst ed;subst e3;subst e2;subst e1;have hsz:s.size=n:=by simp_all
   split at hv
   ·cases hv
   rename_i m hm
   obtain⟨b,cap2,eb⟩:=qV hnv hm;subst eb
   split at hv
   ·cases hv
   rename_i k hk
   split at hv
   ·cases hv
   rename_i hle
   split at hv
   ·rename_i hn
    injection hv with hv;subst hv;obtain⟨a,cap,ea⟩:=qV hsv hk;subst ea;obtain⟨zs,hz⟩:∃zs:List (ByteArray×Int),zs.length=k:=⟨List.replicate k default,by simp⟩
    subst hz;have:=hp w d a cap b m cap2 s zs (by omega) (fun e=>absurd (by omega) e);refine this.mono fun e w' ⟨hb,h⟩=> ?_;rcases h with⟨_,e1⟩|⟨h,_⟩|⟨h,_⟩
    ·exact⟨_,e1,⟨[.int .i64 (-1), .bool true],rfl,_,_,rfl,rfl,_,_,rfl,rfl,rfl⟩,hb⟩
    ·omega
    omega
   ·rename_i hn
    split at hv
    ·cases hv
    rename_i l hl
    obtain⟨cs,hcs,hl⟩:=ZE.1 hl;obtain⟨hlk,a,cap,zs,ea,hz,hva,hzs⟩:=JmM hrel hf hsv hk hcs hl;subst ea;subst hz;refine(hp w d a cap b m cap2 s zs (by omega) (fun _=>hva)).mono fun e w' ⟨hb,h⟩=> ?_;have key:∀i (h:i<l.length) (h2:i<zs.length),(zs[i].1=s<->(l[i].1==n&&l[i].2.1==u)=true):=fun i h h2=>by
     obtain⟨q1,q2,_⟩:=hzs i h h2;simp[ZF];constructor
     ·grind
     ·rintro⟨a1,a2⟩;exact Jsz (by omega) (by omega)
    split at hv
    ·rename_i i hi
     injection hv with hv;subst hv;obtain⟨i1,i2,i3⟩:=Y6 hi;have a1:=(key i i1 (by omega)).2 i2;rcases h with⟨h,_⟩|⟨_,j,hj,e1,e2,e3⟩|⟨_,e1,e2⟩
     ·omega
     ·have:i=j:=by grind
      subst this;exact⟨_,e1,⟨[_,_],rfl,_,_,rfl,rfl,_,_,rfl,rfl,rfl⟩,hb⟩
     grind
    ·rename_i hi
     injection hv with hv;subst hv;have no:=Y6.a hi;rcases h with⟨h,_⟩|⟨_,j,hj,e1,e2,e3⟩|⟨_,e1,e2⟩
     ·omega
     ·grind
     ·exact⟨_,e1,⟨[_,_],rfl,_,_,rfl,rfl,_,_,rfl,rfl,rfl⟩,hb⟩
  grind
def JaC :List V->Option (List Int)
 |[]=>some []
 | .d .i64 v::p:: .d .i64 _::r=>if(slen p).isSome then(JaC r).map fun l=>v::l else none
 |_=>none
theorem Jg6 :∀{a:List V} {l:List Int},JaC a=some l->a.length=3*l.length/\∀i (h:i<l.length),a[3*i]? =some (.d .i64 l[i])/\(∃p k,a[3*i+1]? =some p/\slen p=some k)/\∃t,a[3*i+2]? =some (.d .i64 t)
 |[],l,h=>by injection h with h;grind
 | .d .i64 v::p:: .d .i64 t::r,l,h=>by
   simp only[JaC]at h
   split at h
   ·rename_i c
    cases b:JaC r with
    |none=>grind
    | some m=>
      rw[b]at h;injection h with h;subst h;obtain⟨e,f⟩:=Jg6 b;obtain⟨k,g⟩:=ZD.1 c;refine⟨by grind,fun i j=> ?_⟩
      cases i with
      |zero=>grind
      | succ i=>
        grind
   grind
abbrev Nar :=Int×(Option Addr×Nat×Nat)×Int
def qW (w:World)(a:Option Addr)(ns:List Nar):Prop:=
 ns=[]\/∃b off,a=some ⟨b,off,none⟩/\b<w.heap.size/\∀j (h:j<ns.length),w.cell? ⟨b,off+3*j,none⟩=some (.int .i64 ns[j].1)/\w.cell? ⟨b,off+3*j+1,none⟩=some (.slice ns[j].2.1.1 ns[j].2.1.2.1 ns[j].2.1.2.2)/\w.cell? ⟨b,off+3*j+2,none⟩=some (.int .i64 ns[j].2.2)
theorem Jrc {ρ:Nat->Value}{L:Bs}{γ:Locs}{c:Pt->Row}(v:Rel γ ρ L c Z)(hf:Full γ c q)(M:R γ ρ a U)(u:slen a=some k)(y:Jz q 3 k a=some d)
  {l:List Int} (hl:JaC d=some l):l.length=k/\∃e f s,U= .slice e k f/\s.length=k/\qW Z e s/\∀i (h:i<l.length) (N:i<s.length),s[i].1=l[i]:=by
 obtain⟨p1,p2⟩:=Jg6 hl;have J:k=0->∀e f,U= .slice e k f->d.length=3*k->l.length=k/\∃e f s,U= .slice e k f/\s.length=k/\qW Z e s/\∀i (h:i<l.length) (N:i<s.length),s[i].1=l[i]:=by
  intro W e f M P;exact⟨by omega,e,f,[],M,by simp[W], .inl rfl,fun i h N=>by omega⟩
 have X:∀r o K f n,γ r=some n->U= .slice (some K) k f->k<=f->(f≠0->K=⟨n.b,n.o+o,none⟩)->Kn q (k*3) (.g r o)=some d->l.length=k/\∃e f s,U= .slice e k f/\s.length=k/\qW Z e s/\∀i (h:i<l.length) (N:i<s.length),s[i].1=l[i]:=by
  intro r o K f n Y N h3 h4 h5;obtain⟨q1,Q⟩:=Jg4 v hf Y h5;by_cases W:k=0
  ·grind
  have S:l.length=k:=by omega
  have T:=h4 (by omega);refine⟨S,some K,f, ?_⟩;have O:∀i,∃z:Nar,∀h:i<l.length,Z.cell? ⟨n.b,n.o+o+3*i,none⟩=some (.int .i64 z.1)/\Z.cell? ⟨n.b,n.o+o+3*i+1,none⟩=some (.slice z.2.1.1 z.2.1.2.1 z.2.1.2.2)/\Z.cell? ⟨n.b,n.o+o+3*i+2,none⟩=some (.int .i64 z.2.2)/\z.1=l[i]:=fun i=>by
   by_cases h:i<l.length
   ·obtain⟨r1,⟨p,m,r2,r3⟩,t,r4⟩:=p2 i h;obtain⟨x1,a1,a2⟩:=Q _ _ r1;obtain⟨x2,b1,b2⟩:=Q _ _ r2;obtain⟨x3,c1,c2⟩:=Q _ _ r4;obtain⟨pa,pc,rfl⟩:=qV b2 r3;have a2:x1= .int .i64 l[i]:=a2;have c2:x3= .int .i64 t:=c2;exact⟨(l[i],(pa,m,pc),t),fun _=>⟨by grind,by omega,by grind,rfl⟩⟩
   ·exact⟨default,fun k=>absurd k h⟩
  refine⟨(List.range k).map fun i=>Classical.choose (O i),N,by simp, .inr ⟨n.b,n.o+o,by rw[T],(v.d r n Y).2,fun j hj=> ?_⟩,fun i hi aa=> ?_⟩
  ·grind
  grind
 unfold slen at u
 split at u
 ·injection u with u;subst u;have P:d=[]:=by simpa[Jz]using y.symm
  exact J rfl none 0 M (by grind)
 ·rename_i r o m z
  injection u with u;subst u;unfold Jz at y;simp only[]at y
  split at y
  ·obtain⟨n,K,cp,k1,k2,k3,k4,_⟩:=M
   grind
  grind
 ·rename_i r o m z cp
  injection u with u;subst u;unfold Jz at y;simp only[]at y
  split at y
  ·obtain⟨n,K,k1,k2,k3,k4,_⟩:=M
   grind
  grind
 grind
def setG :List V->St->Option V
 | [_, .j [.d .i64 _,vars,nar], .t n v, .d .i64 id],st=>match slen vars,slen nar with
   | some k,some m=>if 100000<k\/100000<m then none else match(Jz st 2 k vars).bind kP,(Jz st 3 m nar).bind JaC with
     | some l,some q=>some (.d .i64 (match jl (fun p=>p.1==n&&p.2.1==v) l with
       |none=>15
       |some i=>if(l.getD i default).2.2=id/\q.contains (i:Int)=false then 0 else 17))
     |_,_=>none
   |_,_=>none
 |_,_=>none
def JmN (P:Program)(f:Nat):Prop:=∀(w:World) (pw:Value) (d:Int) (a:Option Addr) (cap:Nat) (b:Option Addr) (cap2:Nat) (s:ByteArray) (id:Int) (zs:List (ByteArray×Int)) (ns:List Nar),zs.length<=100000->ns.length<=100000->JbN w a zs->qW w b ns->
 Calls P f #[pw, .agg #[.int .i64 d, .slice a zs.length cap, .slice b ns.length cap2], .string s, .int .i64 id] w fun e w'=>Below w.heap.size w w'/\
  ((∃k:Nat,∃h:k<zs.length,zs[k].1=s/\(∀j (hj:j<zs.length),k<j->zs[j].1≠s)/\
    (((zs[k].2≠id\/∃j,∃hj:j<ns.length,ns[j].1=(k:Int))/\e= .returned (.int .i64 17))\/((zs[k].2=id/\∀j (hj:j<ns.length),ns[j].1≠(k:Int))/\e= .returned (.int .i64 0))))\/
   (e= .returned (.int .i64 15)/\∀j (hj:j<zs.length),zs[j].1≠s))
theorem Jpr {P : Program} {ρ : Nat -> Value} {base : Bs} {f : Nat} {fn : Func} (h1 : P.funcs[f]? = some fn) (h2 : fn.body.isSome = true) (h3 : fn.name ≠ "runtime.NumGoroutine") (hp : JmN P f) : KM P ρ base f (JaB setG).b :=
 JjC h1 h2 h3 fun args st v hv γ c w xs hx hrel hf=>by
  unfold setG at hv
  split at hv
  ·rename_i st pw d vars nar n u id
   obtain⟨y0,ys0,e0,hpw,y,ys,e1,⟨fs,e2,d',fs1,e3,ed,sv,fs2,e4,hsv,nv,fs3,e5,hnv,e6⟩,y',ys',e7,⟨s,e8,e9,e10⟩,y2,ys2,e12,eid,e11⟩:=hx;simp[RL]at e6 e11;have ed:d'= .int .i64 d:=ed;have eid:y2= .int .i64 id:=eid;subst e11;subst eid;subst e12;subst e8;subst e7;subst e6;subst e5;subst e4;subst ed;subst e3;subst e2;subst e1;subst e0
   split at hv
   ·rename_i k m hk hm
    split at hv
    ·cases hv
    rename_i hle
    split at hv
    ·rename_i l q hl hq
     obtain⟨cs,hcs,hl⟩:=ZE.1 hl;obtain⟨ds,hds,hq⟩:=ZE.1 hq;obtain⟨hlk,a,cap,zs,ea,hz,hva,hzs⟩:=JmM hrel hf hsv hk hcs hl;obtain⟨hqm,b,cap2,ns,eb,hn,hna,hns⟩:=Jrc hrel hf hnv hm hds hq;subst ea;subst eb;subst hz;subst hn;injection hv with hv;subst hv;refine(hp w y0 d a cap b cap2 s id zs ns (by omega) (by omega) hva hna).mono fun e w' ⟨hb,h⟩=> ?_;have key:∀i (h:i<l.length) (h2:i<zs.length),(zs[i].1=s<->(l[i].1==n&&l[i].2.1==u)=true):=fun i h h2=>by
      obtain⟨q1,q2,_⟩:=hzs i h h2;simp[ZF];constructor
      ·grind
      ·rintro⟨a1,a2⟩;exact Jsz (by omega) (by omega)
     have kn:∀i:Int,q.contains i=true<->∃j,∃hj:j<ns.length,ns[j].1=i:=fun i=>by
      rw[Gu,XU]
      grind
     split
     ·rename_i hi
      have no:=Y6.a hi;rcases h with⟨k,hk,e1,_⟩|⟨e1,_⟩
      ·grind
      ·exact⟨_,e1,rfl,hb⟩
     ·rename_i i hi
      obtain⟨i1,i2,i3⟩:=Y6 hi;have a1:=(key i i1 (by omega)).2 i2;rcases h with⟨k,hk,e1,e2,h⟩|⟨_,h⟩
      ·have:i=k:=by grind
       subst this;have ht:(l.getD i default).2.2=zs[i].2:=by grind
       rw[ht];rcases h with⟨h,e3⟩|⟨⟨h,h'⟩,e3⟩
       ·rw[Xa]
        ·exact⟨_,e3,rfl,hb⟩
        grind
       ·rw[Xe]
        ·exact⟨_,e3,rfl,hb⟩
        grind
      grind
    grind
   grind
  grind
theorem JmO (g:List V->St->Option V):Jaj (JaB g).b:=by
 intro self e args c v a h d;have h:(match g args c with
  |some v=>some (v,c)
  |none=>none)=some (v,a):=h
 split at h
 ·injection h with h;injection h with _ h;subst h;exact Mon.A d
 ·cases h
section
variable {P : Program} {ρ : Nat -> Value} {γ : Locs}
end
theorem Yc {S0:St}{y:V}{f:List (List V)}(g:Gr S0 q)(h:SlF S0 q a k i)(J:SlAt b q y k f)(M:okC f)(Y:f≠[])(hn:f.length<2^20)(aa:i.length+f.length<=2^24){R:V->St->Prop}
  (d:∀x S,Gr S0 x->SlF S0 x S k (i++f)->rowOf S=some q.b->(∀p,q.A p≠ .none->rowOf a≠some p->x.A p=q.A p)->R S x):wW (appV q k a y) q R:=by
 have Y:¬f.length=0:=fun e=>Y (XD.1 e);have j:appV q k a y=JG q k f.length f.flatten a:=by
  unfold appV;rw[J.N];simp only[J.O];rw[Xe ⟨hn,M.A⟩]
 have T:∀e∈i++f,e.length=k:=fun e l=>by
  rcases Xs.1 l with l|l
  ·exact h.1 e l
  ·exact J.1 e l
 rw[j];have w:=g.D;rcases h.2 with⟨rfl,U⟩|⟨r,t,h2,Z,h4⟩
 ·have n:JG q k f.length f.flatten .e=some (.w q.b 0 f.length k, .b fun t=> .a t f.flatten):=by
   unfold JG
   grind
  rw[n];subst U;refine d (q.B fun t=> .a t f.flatten) _ (g.L (Jc _)) ⟨T, .inr ⟨q.b,q.t,g.K,by rw[JI];simp, .inl (by simp)⟩⟩ rfl fun p o _=>KC w _ o
 ·have ab:=Jp h.1;have ad:0+i.length*k<=i.flatten.length:=by omega
  have ae:(i.flatten.drop 0).take (i.length*k)=i.flatten:=by grind
  rcases h4 with rfl|rfl
  ·have n:JG q k f.length f.flatten (.w r 0 i.length k)=some (.w q.b 0 (i.length+f.length) k, .e r t fun u=> .a u (i.flatten++f.flatten)):=by
    unfold JG
    grind
   rw[n];refine d ((q.D r t .c).B fun u=> .a u (i.flatten++f.flatten)) _ (g.Q h2 (by grind) (by rw[Z];rfl) (Jc _)) ⟨T, .inr ⟨q.b,q.t+1,g.K, ?_, .inl (by simp)⟩⟩ rfl fun p o W=> ?_
   ·rw[XJ];exact JI (q.D r t .c) _
   ·have s:p≠r:=fun e=>W (by rw[e];rfl);have X:WF (q.D r t .c):=(Q8 w (by grind) (by rw[Z];rfl) fun u=>⟨rfl,fun e=>by cases e⟩).wf;rw[KC X _ (by rw[Jj _ _ _ s];exact o),Jj _ _ _ s]
  ·have n:JG q k f.length f.flatten (.m r 0 i.length k i.length)=some (.w q.b 0 (i.length+f.length) k, .b fun u=> .a u (i.flatten++f.flatten)):=by
    unfold JG
    grind
   rw[n];refine d (q.B fun u=> .a u (i.flatten++f.flatten)) _ (g.L (Jc _)) ⟨T, .inr ⟨q.b,q.t,g.K, ?_, .inl (by simp)⟩⟩ rfl fun p o _=>KC w _ o;rw[XJ];exact JI q _
def OwnF (S:St)(f:Nat->V):Prop:=(∀i r,rowOf (f i)=some r->S.A r≠ .none)/\∀i j r,i≠j->rowOf (f i)=some r->rowOf (f j)≠some r
def intW :List V:=[.d .i64 2,ofL [], .e, .e]
def kidW (wd:Bool)(f:Nat->V)(i:Nat):List V:=if wd=true then[.d .i64 6,ofL [], .e,f (8+i)]else intW
structure UI (S1:St) (wd:Bool) (o x y:Pt) (S:St) (f:Nat->V) (xs:List Str) (n:Nat) (ys:List Str) (m:Nat) (cx cy:List V):Prop where
 h:Gr S1 S
 b:OwnF S f
 c:f 4= .g o 0
 d:f 5= .g x 0
 e:f 6= .g y 0
 g:S1.A x= .none/\S1.A y= .none
 q:∃t,S.A o= .a t intW
 r:∃t,S.A x= .a t cx
 s:∃t,S.A y= .a t cy
 l:SlF S1 S (f 0) 1 (strs xs)
 j:SlF S1 S (f 1) 4 (List.replicate n intW)
 p:SlF S1 S (f 2) 1 (strs ys)
 k:SlF S1 S (f 3) 4 ((List.range m).map (kidW wd f))
 a:wd=true->∀i,i<m->SlF S1 S (f (8+i)) 4 [intW]
section
variable {S1 S S' : St} {wd : Bool} {o x y : Pt} {f : Nat -> V} {xs ys : List Str} {n m : Nat} {cx cy : List V}
theorem SlF.A {a st:St}{v:V}{z:Nat}{b:List (List V)}(h:SlF a st v z b){r:Pt}(c:rowOf v=some r):st.A r≠ .none:=by
 obtain⟨_,t,e⟩:=h.H c
 grind
section
variable {v' : V} (h : UI S1 wd o x y S f xs n ys m cx cy) (g : Gr S1 S') (hf : ∀ r, rowOf v' = some r -> S.A r = .none /\ S'.A r ≠ .none)
include h g hf
end
end
section
variable {S1 S S' : St} {wd : Bool} {o x y : Pt} {f : Nat -> V} {xs ys : List Str} {n m : Nat} {cx cy : List V}
end
theorem Jh7 (a:Fr)(p q:List Nat×List Nat):JM a [p,q]=(JM a [p]&&JM a [q]):=by simp[JM]
theorem Ja4 {a:Fr}{p q:List Nat×List Nat}(b:JM a [p]=true)(c:JM a [q]=true):JM a [p,q]=true:=by rw[Jh7,b,c];rfl
theorem Jrd {x:Nat}(b:q.A T= .a k [.d .u8 x])(f:x<256):btsV q (.m T 0 1 1 1)=some (ofL [UInt8.ofNat x], .a):=by
 have c:(UInt8.ofNat x).toNat=x:=Gh (by omega);have e:(0:Int)<=(x:Int)/\(x:Int)<256:=by omega
 simp[btsV,slen,Jz,Kn,b];simp[QX,e,ofL,snum,c]
inductive Rw where
 |mk (kind n:Int) (names:List Int) (kids:List Rw)
 deriving Inhabited
def Rw.A :Rw->Int| .mk k _ _ _=>k
def Rw.n :Rw->Int| .mk _ n _ _=>n
def Rw.F :Rw->List Int| .mk _ _ l _=>l
def Rw.D :Rw->List Rw| .mk _ _ _ l=>l
def In64 (z:Int):Prop:= -9223372036854775808<=z/\z<9223372036854775808
def JbO (l:List Int):List (List V):=l.map fun z=>[V.d .i64 z]
theorem Yg (l:List Int):(JbO l).length=l.length:=Xr _
inductive RwC (P:Pt->Prop) (st:St):List V->Rw->Prop
 | mk {k n:Int} {zs:List Int} {ks:List Rw} {nv kv:V} {es:List (List V)} (hk:In64 k) (hn:In64 n) (hz:∀z∈zs,In64 z) (h1:SlAt P st nv 1 (JbO zs)) (h2:SlAt P st kv 4 es) (h3:es.length=ks.length) (hl:zs.length<2^63/\ks.length<2^63) (h4:∀i (h:i<es.length) (h':i<ks.length),RwC P st es[i] ks[i]):
   RwC P st [.d .i64 k, .d .i64 n,nv,kv] (.mk k n zs ks)
section
variable {P Q : Pt -> Prop} {st st' : St} {e : List V} {r : Rw}
theorem RwC.D (h:RwC P st e r)(k:∀r,P r->st.A r≠ .none->Q r/\st'.A r=st.A r):RwC Q st' e r:=by
 induction h with
 |mk a b c d f g i l j=>exact .mk a b c (d.D k) (f.D k) g i j
theorem RwC.F (h:RwC P st e r)(g:Gr st st'):RwC P st' e r:=h.D fun r p e=>⟨p,g.d r e⟩
theorem RwC.A (h:RwC P st e r):∃b c a,e=[.d .i64 r.A, .d .i64 r.n,b,c]/\In64 r.A/\In64 r.n/\(∀z∈r.F,In64 z)/\SlAt P st b 1 (JbO r.F)/\SlAt P st c 4 a/\a.length=r.D.length/\(r.F.length<2^63/\r.D.length<2^63)/\∀i (h:i<a.length) (q:i<r.D.length),RwC P st a[i] r.D[i]:=by
 cases h with
 |mk f g j k l m o p=>exact⟨_,_,_,rfl,f,g,j,k,l,m,o,p⟩
theorem RwC.G (h:RwC P st e r):e.length=4:=by cases h;rfl
end
def kidS (r:Rw)(i:Nat):Rw:=if r.D.length=0 then .mk (IntKind.i64.wrap (r.n+i)) r.A [] []else r.D.getD (i%r.D.length) default
def nms7 :List Str:=[[97],[98],[99],[110,97,109,101],[110],[73,110,116],[116,121,112,101]]
def JjE (z:Int):Str:=nms7.getD (z%7).toNat []
def KN (n:Str):List Str->Nat
 |[]=>0
 |a::r=>if Op.bytesLess a n=true then KN n r+1 else 0
theorem Jdb (n:Str):∀l,KN n l<=l.length
 |[]=>Xb _
 | a::r=>by
   rw[KN];have:=Jdb n r
   grind
theorem Jg7 (n:Str):∀(l:List Str) (i:Nat) (h:i<l.length),i<KN n l->Op.bytesLess l[i] n=true
 | a::r,i,h,b=>by
   rw[KN]at b
   split at b
   ·cases i with
    |zero=>grind
    |succ i=>exact Jg7 n r i (by grind) (by omega)
   ·omega
theorem Jg8 (n:Str):∀(l:List Str) (h:KN n l<l.length),Op.bytesLess l[KN n l] n=false
 |[],h=>absurd h (by simp)
 | a::r,h=>by
   by_cases c:Op.bytesLess a n=true
   ·have e:KN n (a::r)=KN n r+1:=by rw[KN,Xe c]
    have:=Jg8 n r (by grind)
    grind
   ·have e:KN n (a::r)=0:=by rw[KN,Xa c]
    grind
def putS (t:Ty)(n:Str)(x:Ty):Ty:=
 if t.D[KN n t.D]? =some n then t else .mk t.A t.B (t.D.take (KN n t.D)++n::t.D.drop (KN n t.D)) (t.G.take (KN n t.D)++x::t.G.drop (KN n t.D))
def nameAt (r:Rw)(i:Nat):Str:=match r.F[i]? with
 |some z=>JjE z
 |none=>[117]
def QU (nms:List Str)(deep:Nat)(r:Rw):Int:=if(1+r.A%9=9/\nms=[])\/(deep<=1/\4<=1+r.A%9/\1+r.A%9<=8)then 2 else 1+r.A%9
def JbP (k:Int)(r:Rw):Nat:=max (min r.F.length 4) (if k=8 then 1 else 0)
def JJ (nms:List Str):Nat->Rw->Ty
 |0,r=> .mk (QU nms 0 r) [] [] []
 | d+1,r=>
   let k:=QU nms (d+1) r
   if k=9 then .mk 9 (nms.getD (r.n%nms.length).toNat []) [] []
   else if k=4\/k=5\/k=6 then(if k=6/\(JJ nms d (kidS r 0)).A=6 then JJ nms d (kidS r 0)else .mk k [] [] [JJ nms d (kidS r 0)])
   else if k=7\/k=8 then(List.range (JbP k r)).foldl (fun t i=>putS t (nameAt r i) (JJ nms d (kidS r i))) (.mk k [] [] [])
   else .mk k [] [] []
theorem Qj {S0:St}{o:V}{j:List (List V)}(u:Gr S0 q)(h:SlF S0 q a k i)(r:SlAt b q o k j)(s:okC j)(x:j.length<2^20)(t:i.length+j.length<=2^24){R:V->St->Prop}
  (e:∀l m,Gr S0 l->SlF S0 l m k (i++j)->(rowOf m=rowOf a\/rowOf m=some q.b)->(∀p,q.A p≠ .none->rowOf a≠some p->l.A p=q.A p)->R m l):wW (appV q k a o) q R:=by
 by_cases w:j=[]
 ·subst w;have n:appV q k a o=JG q k 0 [] a:=by
   unfold appV;rw[r.N];simp only[r.O];rfl
  have y:JG q k 0 [] a=some (a, .a):=by
   have J:(slen a).isSome=true:=by rw[h.D.N];rfl
   unfold JG
   grind
  rw[n,y];exact e q a u (by grind) (.inl rfl) fun _ _ _=>rfl
 ·exact Yc u h r s w x t fun l m f g c d=>e l m f g (.inr c) d
theorem Qo (h:SlF q M a k i)(c:q.A T≠ .none):rowOf a≠some T:=fun e=>c (h.H e).1
theorem Jps (a:Int){n:Int}(b:0<n):(¬a.tmod n<0/\a.tmod n=a%n)\/(a.tmod n<0/\a.tmod n+n=a%n):=by
 have c:=Zr a (show n≠0 by omega);have d:=Zc a b
 grind
theorem JmP {n:Nd}{r:List Nd}:∀{l:List Nd} {i j:Nat},idx n l i=some j->idx n (l++r) i=some j
 |[],i,j,h=>by cases h
 | a::l,i,j,h=>by
   rw[X2,idx];rw[idx]at h;by_cases c:n=a
   ·grind
   ·rw[Xa c]at h⊢;exact JmP h
theorem Jh8 {n:Nd}:∀{l:List Nd} {i:Nat},idx n l i=none->idx n (l++[n]) i=some (i+l.length)
 |[],i,_=>by rw[X0,idx,Xe rfl];rfl
 | a::l,i,h=>by
   rw[idx]at h;by_cases c:n=a
   ·grind
   ·rw[Xa c]at h;rw[X2,idx,Xa c,Jh8 h,XF]
    grind
theorem jG {n:Nd}:∀{l:List Nd} {i j:Nat},idx n l i=some j->i<=j/\l[j-i]? =some n
 |[],i,j,h=>by cases h
 | a::l,i,j,h=>by
   rw[idx]at h;by_cases c:n=a
   ·grind
   ·rw[Xa c]at h;obtain⟨b,d⟩:=jG h
    grind
mutual
def Ki (nodes:List Nd):Ty->Option Nat
 | .mk k n ns ks=>match JS nodes ks with
   |none=>none
   |some ids=>idx ⟨k,n,ns,ids⟩ nodes 0
def JS (nodes:List Nd):List Ty->Option (List Nat)
 |[]=>some []
 | t::r=>match Ki nodes t,JS nodes r with
   |some i,some l=>some (i::l)
   |_,_=>none
end
mutual
def Q1 :Ty->Nat
 | .mk _ _ _ ks=>QF ks+1
def QF :List Ty->Nat
 |[]=>0
 |t::r=>Q1 t+QF r
end
mutual
theorem jm {l r:List Nd}:∀(t:Ty) {i:Nat},Ki l t=some i->Ki (l++r) t=some i
 | .mk k n d a,i,h=>by
   rw[Ki]at h⊢
   cases c:JS l a with
   |none=>rw[c]at h;cases h
   | some b=>
     rw[c]at h;rw[kZ a c];exact JmP h
theorem kZ {l r:List Nd}:∀(b:List Ty) {a:List Nat},JS l b=some a->JS (l++r) b=some a
 |[],a,h=>by rw[JS]at h⊢;exact h
 | t::b,a,h=>by
   rw[JS]at h⊢
   cases c:Ki l t with
   |none=>rw[c]at h;cases h
   | some i=>
     cases d:JS l b with
     |none=>rw[c,d]at h;cases h
     | some e=>
       rw[c,d]at h;rw[jm t c,kZ b d];exact h
end
theorem Jcu {n:Nd}(h:(layS u n).2.2=0):∃r,(layS u n).1={u with a:=u.a++r}/\idx n (layS u n).1.a 0=some (layS u n).2.1/\r.length<=1:=by
 unfold layS at h⊢
 cases c:idx n u.a 0 with
 |some i=>exact⟨[],by simp,by omega,by simp⟩
 | none=>
   rw[c]at h;by_cases b:120<=u.a.length
   ·grind
   ·simp only[Xa b];refine⟨[n],rfl, ?_,by simp⟩;have:=Jh8 c
    grind
mutual
theorem Yz :∀(t:Ty) {left:Int} {tb:Tb},(addT t left tb).2.2.1=0->∃r,(addT t left tb).1={tb with a:=tb.a++r}/\Ki (addT t left tb).1.a t=some (addT t left tb).2.1/\(addT t left tb).2.2.2=left-Q1 t
 | .mk k n j b,left,tb,h=>by
   rw[QS]at h⊢;by_cases c:left-1<0\/8<b.length\/8<j.length
   ·rw[Xe c]at h;cases h
   rw[Xa c]at h⊢;have d:=qi b (left:=left-1) (tb:=tb);generalize JA b (left-1) tb=x at h d⊢;obtain⟨l,m,e,u⟩:=x;simp only at h d⊢;by_cases f:e=0
   ·subst f;obtain⟨r,o,p,q⟩:=d rfl;simp only[GS,XQ,X8]at h⊢;obtain⟨s,g,i,v⟩:=Jcu h;refine⟨r++s,by rw[g,o];simp, ?_,by rw[q,Q1];push_cast;omega⟩;rw[Ki,g];simp;rw[kZ b p];rw[g]at i;exact i
   ·rw[Xe f]at h;exact absurd h f
theorem qi :∀(b:List Ty) {left:Int} {tb:Tb},(JA b left tb).2.2.1=0->∃r,(JA b left tb).1={tb with a:=tb.a++r}/\JS (JA b left tb).1.a b=some (JA b left tb).2.1/\(JA b left tb).2.2.2=left-QF b
 | [],left,tb,h=>by
   rw[Qm];exact⟨[],by simp,by rw[JS],by simp[QF]⟩
 | t::b,left,tb,h=>by
   rw[Ku]at h⊢;have d:=Yz t (left:=left) (tb:=tb);generalize addT t left tb=x at h d⊢;obtain⟨c,i,e,k⟩:=x;simp only at h d⊢;by_cases f:e=0
   ·subst f;obtain⟨r,m,n,o⟩:=d rfl;simp only[GS,XQ,X8]at h⊢;have g:=qi b (left:=k) (tb:=c);generalize JA b k c=y at h g⊢;obtain⟨j,u,v,w⟩:=y;simp only at h g⊢;obtain⟨p,l,q,s⟩:=g h;refine⟨r++p,by rw[l,m];simp, ?_,by rw[s,o,QF];push_cast;omega⟩;rw[JS,q];have:Ki j.a t=some i:=by rw[l];exact jm t n
    rw[this]
   ·rw[Xe f]at h;exact absurd h f
end
mutual
theorem Jfq :∀(t:Ty) {left f:Int} {g b:Tb} {i:Nat},(addT t f b).2.2.1=0->Ki g.a t=some i->(Q1 t:Int)<=left->addT t left g=(g,i,0,left-Q1 t)
 | .mk k n q j,left,f,g,b,i,d,h,l=>by
   rw[QS]at d⊢;by_cases c:f-1<0\/8<j.length\/8<q.length
   ·rw[Xe c]at d;cases d
   rw[Xa c]at d;rw[Q1]at l⊢;rw[Xa (by push_cast at l;omega)];rw[Ki]at h
   cases m:JS g.a j with
   |none=>rw[m]at h;cases h
   | some r=>
     rw[m]at h;simp at h;have s:(JA j (f-1) b).2.2.1=0:=by
      generalize JA j (f-1) b=x at d⊢;obtain⟨u,p,e,v⟩:=x;simp only at d⊢;by_cases o:e=0
      ·exact o
      ·rw[Xe o]at d;exact absurd d o
     rw[JdU j s m (by push_cast at l;omega)];simp only[GS,XQ,X8];unfold layS;rw[h];simp only;congr 3
     push_cast;omega
theorem JdU :∀(d:List Ty) {left f:Int} {g b:Tb} {k:List Nat},(JA d f b).2.2.1=0->JS g.a d=some k->(QF d:Int)<=left->JA d left g=(g,k,0,left-QF d)
 | [],left,f,g,b,k,_,h,m=>by
   rw[JS]at h;injection h with h;rw[Qm,<-h];simp[QF]
 | t::d,left,f,g,b,k,j,h,m=>by
   rw[Ku]at j⊢;rw[QF]at m⊢;rw[JS]at h
   cases c:Ki g.a t with
   |none=>rw[c]at h;cases h
   | some i=>
     cases n:JS g.a d with
     |none=>rw[c,n]at h;cases h
     | some l=>
       rw[c,n]at h;injection h with h;have p:(addT t f b).2.2.1=0/\(JA d (addT t f b).2.2.2 (addT t f b).1).2.2.1=0:=by
        generalize addT t f b=x at j⊢;obtain⟨q,r,e,s⟩:=x;simp only at j⊢;by_cases o:e=0
        ·subst o;simp only[GS,XQ,X8]at j;exact⟨rfl,j⟩
        ·rw[Xe o]at j;exact absurd j o
       rw[Jfq t p.1 c (by push_cast at m;omega)];simp only[GS,XQ,X8];rw[JdU d p.2 n (by push_cast at m;omega),<-h];simp only;congr 3
       push_cast;omega
end
theorem Jpt (a:Tb)(n:Nd):(layS a n).2.2=0\/(layS a n).2.2=20:=by
 unfold layS
 split
 ·exact .inl rfl
 ·split
  ·exact .inr rfl
  ·exact .inl rfl
mutual
theorem Jfr :∀(t:Ty) (left:Int) (a:Tb),(addT t left a).2.2.1=0\/(addT t left a).2.2.1=20
 | .mk k n h c,left,a=>by
   rw[QS]
   split
   ·exact .inr rfl
   ·have b:=Jg9 c (left-1) a;generalize JA c (left-1) a=x at b⊢;obtain⟨f,g,e,i⟩:=x;simp only at b⊢;by_cases d:e=0
    ·rw[Xa (fun k=>k d)];exact Jpt _ _
    ·rw[Xe d];exact b
theorem Jg9 :∀(b:List Ty) (left:Int) (a:Tb),(JA b left a).2.2.1=0\/(JA b left a).2.2.1=20
 |[],left,a=>by rw[Qm];exact .inl rfl
 | t::b,left,a=>by
   rw[Ku];have d:=Jfr t left a;generalize addT t left a=x at d⊢;obtain⟨c,i,e,f⟩:=x;simp only at d⊢;by_cases g:e=0
   ·rw[Xa (fun k=>k g)];have h:=Jg9 b f c;generalize JA b f c=y at h⊢;obtain⟨j,l,m,n⟩:=y;exact h
   ·rw[Xe g];exact d
end
def Acy (tb:Tb):Prop:=∀(i:Nat) (nd:Nd),tb.a[i]? =some nd->nd.a≠9/\∀k∈nd.c,k<i
mutual
def Jlb :Ty->Bool
 | .mk k _ _ ks=>decide (k≠9)&&Jen ks
def Jen :List Ty->Bool
 |[]=>true
 |t::r=>Jlb t&&Jen r
end
theorem Jre {n:Nd}(h:Acy u)(e:n.a≠9)(f:∀k∈n.c,k<u.a.length):Acy (layS u n).1:=by
 unfold layS
 split
 ·exact h
 ·split
  ·exact h
  ·intro i d b;have b:(u.a++[n])[i]? =some d:=b;rcases Nat.lt_or_ge i u.a.length with c|c
   ·rw[XG c]at b;exact h i d b
   grind
theorem Jtl {n:Nd}(h:(layS u n).2.2=0):(layS u n).2.1<(layS u n).1.a.length:=by
 obtain⟨r,_,b,_⟩:=Jcu h;have:=(jG b).2
 grind
mutual
theorem Jpu :∀(t:Ty) {left:Int} {tb:Tb},Jlb t=true->Acy tb->Acy (addT t left tb).1/\((addT t left tb).2.2.1=0->(addT t left tb).2.1<(addT t left tb).1.a.length)
 | .mk k n i d,left,tb,f,h=>by
   rw[Jlb,Xk,Zg]at f;rw[QS];by_cases c:left-1<0\/8<d.length\/8<i.length
   ·rw[Xe c];exact⟨h,fun e=>by cases e⟩
   rw[Xa c];have b:=Jha d (left:=left-1) (tb:=tb) f.2 h;generalize JA d (left-1) tb=x at b⊢;obtain⟨j,l,e,m⟩:=x;simp only at b⊢;by_cases g:e=0
   ·subst g;simp only[GS,XQ,X8];exact⟨Jre b.1 f.1 (b.2 rfl),fun e=>Jtl e⟩
   ·rw[Xe g];exact⟨b.1,fun e=>absurd e g⟩
theorem Jha :∀(b:List Ty) {left:Int} {tb:Tb},Jen b=true->Acy tb->Acy (JA b left tb).1/\((JA b left tb).2.2.1=0->∀i∈(JA b left tb).2.1,i<(JA b left tb).1.a.length)
 |[],left,tb,f,h=>by rw[Qm];exact⟨h,fun _ i n=>by cases n⟩
 | t::b,left,tb,f,h=>by
   rw[Jen,Xk]at f;rw[Ku];have d:=Jpu t (left:=left) (tb:=tb) f.1 h;generalize addT t left tb=x at d⊢;obtain⟨c,i,e,j⟩:=x;simp only at d⊢;by_cases k:e=0
   ·subst k;simp only[GS,XQ,X8];have g:=Jha b (left:=j) (tb:=c) f.2 d.1;have l:=qi b (left:=j) (tb:=c);generalize JA b j c=y at g l⊢;obtain⟨o,s,u,v⟩:=y;simp only at g l⊢;refine⟨g.1,fun e q m=> ?_⟩;rcases Xq.1 m with rfl|m
    ·obtain⟨r,p,_⟩:=l e;have:=d.2 rfl;rw[p];simp only[XW];omega
    ·exact g.2 e q m
   ·rw[Xe k];exact⟨d.1,fun e=>absurd e k⟩
end
def TabX (S:St)(W:Pt->Prop)(rt:Pt)(tb:Tb):Prop:=WF S/\∃F,Tab W F S rt tb
def Kept (S:St)(W:Pt->Prop)(S':St)(W':Pt->Prop):Prop:=∀r,S.A r≠ .none->¬W r->S'.A r=S.A r/\¬W' r
section
variable {S S' S'' : St} {W W' W'' : Pt -> Prop} {rt : Pt} {tb : Tb}
theorem Kept.A (h:Kept S W S' W')(k:Kept S' W' S'' W''):Kept S W S'' W'':=fun r e n=>by
 obtain⟨b,a⟩:=h r e n;obtain⟨c,d⟩:=k r (by grind) a
 grind
theorem Kept.I (g:Gr S S')(W:Pt->Prop):Kept S W S' W:=fun r e n=>⟨g.d r e,n⟩
theorem Kept.F (c:Ch W S S')(h:∀r,W' r->W r\/S.A r= .none):Kept S W S' W':=fun r e n=>⟨c.d r e n,fun w=>by grind⟩
theorem Kept.D (h:Kept S W S' W')(e:S.A T= .a k d)(n:¬W T):S'.A T= .a k d:=by rw[(h T (by grind) n).1,e]
theorem Kept.J (h:Kept S W S' W'){z:Nat}{es:List (List V)}(k:SlAt (fun r=>¬W r) S a z es):SlAt (fun r=>¬W' r) S' a z es:=k.D fun r n e=>⟨(h r e n).2,(h r e n).1⟩
theorem TabX.A (h:TabX S W rt tb){r:Pt}(e:S.A r= .none):¬W r:=by
 obtain⟨_,F,_,_,_,_,_,_,h⟩:=h;exact fun w=>h.u r w e
end
theorem Jlc (r:Pt)(o:Nat):eqV (.a .p) false (.g r o) .s=some (.h false, .a):=Xf (Xl _)
theorem Jpv :eqV (.a .p) false .s .s=some (.h true, .a):=Xf (Xl _)
theorem YQ {b:List Nd}(h:Ki b X=some k):∃d,b[k]? =some ⟨X.A,X.B,X.D,d⟩/\JS b X.G=some d:=by
 obtain⟨a,n,f,e⟩:=X;rw[Ki]at h
 cases c:JS b e with
 |none=>grind
 | some d=>
   rw[c]at h;have:=(jG h).2;rw[ZN]at this;exact⟨d,this,c⟩
def TysF (P:Pt->Prop)(S0 st:St)(v:V)(ts:List Ty):Prop:=∃es,SlF S0 st v 4 es/\es.length=ts.length/\∀i (h:i<es.length) (h':i<ts.length),TyC P S0 es[i] ts[i]
section
variable {P : Pt -> Prop} {S0 st st' : St} {v : V} {ts : List Ty}
theorem TysF.F (P:Pt->Prop)(S0 st:St):TysF P S0 st .e []:=⟨[],SlF.I _ _ _,rfl,fun i h=>absurd h (by simp)⟩
theorem TysF.A (h:TysF P S0 st v ts)(g:Gr st st'):TysF P S0 st' v ts:=by
 obtain⟨a,b,c,d⟩:=h;exact⟨a,b.G g,c,d⟩
theorem TysF.D (h:TysF P S0 st v ts)(g:Gr S0 st){Q:Pt->Prop}(c:∀r,P r->Q r)(f:∀r,S0.A r= .none->Q r):LstAt (TyC Q st) Q st v 4 ts:=by
 obtain⟨j,k,l,m⟩:=h;exact⟨j,k.D.D fun r p _=>⟨f r p,rfl⟩,l,fun i a b=>(m i a b).A fun r p e=>⟨c r p,g.d r e⟩⟩
theorem Jeo (t:Gr S0 st)(h:TysF P S0 st v ts){ts':List Ty}(u:SlAt b st a 4 i)(q:i.length=ts'.length)(n:∀c (h:c<i.length) (M:c<ts'.length),TyC P S0 i[c] ts'[c])(N:ts'.length<2^20)(w:ts.length+ts'.length<=2^24){R:V->St->Prop}
  (k:∀l m,Gr S0 l->TysF P S0 l m (ts++ts')->(rowOf m=rowOf v\/rowOf m=some st.b)->(∀p,st.A p≠ .none->rowOf v≠some p->l.A p=st.A p)->R m l):wW (appV st 4 v a) st R:=by
 obtain⟨x,y,O,Q⟩:=h;have o:okC i:=fun e z=>by
  obtain⟨j,K,rfl⟩:=XU.1 z;exact(n j K (by omega)).J
 refine Qj t y u o (by omega) (by omega) fun l m g s r L=>k l m g ⟨x++i,s,by grind,fun c d f=> ?_⟩ r L
 grind
theorem Jh9 {st:St}(f:st.b=T)(c:d.length=4):SlAt (fun r=>r=T) (st.B fun t=> .a t d) (.m T 0 1 4 1) 4 [d]:=by
 have:=QE (st:=st) (z:=4) c
 grind
end
theorem qX :∀{a b c:List UInt8},Op.bytesLess a b=true->Op.bytesLess b c=true->Op.bytesLess a c=true
 |_,[],_,h,_=>by simp[Op.bytesLess]at h
 |_,_::_,[],_,h=>by simp[Op.bytesLess]at h
 |[],_::_,_::_,_,_=>by rfl
 | a::x,b::y,c::z,h,k=>by
   simp[Op.bytesLess,Zg,ZF]at h k⊢;rcases h with h|⟨rfl,h⟩
   ·grind
   ·rcases k with k|⟨rfl,k⟩
    ·grind
    ·exact .inr ⟨rfl,qX h k⟩
theorem JaD :∀a:List UInt8,Op.bytesLess a a=false
 |[]=>rfl
 | a::x=>by
   simp only[Op.bytesLess,JaD x,Bool.and_false,Hz,decide_eq_false_iff_not];simp
theorem Jbq :∀(p:Option Str) (l:List Str),Ka p l=0->l.Pairwise (fun a b=>Op.bytesLess a b=true)/\∀a∈l,∀q,p=some q->Op.bytesLess q a=true
 |p,[],_=>⟨List.Pairwise.nil,fun a h=>by cases h⟩
 | p,n::r,h=>by
   rw[Ka]at h
   split at h
   ·cases h
   split at h
   ·cases h
   rename_i _ e
   obtain⟨g,f⟩:=Jbq (some n) r h;have i:∀q,p=some q->Op.bytesLess q n=true:=fun q d=>by
    rw[d]at e;simpa[Kx]using e
   refine⟨HE.2 ⟨fun a c=>f a c n rfl,g⟩,fun a c q d=> ?_⟩;rcases Xq.1 c with rfl|c
   ·grind
   ·exact qX (i q d) (f a c n rfl)
theorem qY (h:Ka none K=0):K.Nodup:=
 (Jbq none K h).1.imp fun{a b} h e=>by rw[e,JaD]at h;cases h
theorem Y7 (e:Str->Bool)(p:Option Str)(f:Sg)(r:List Sg)(d:Nat):Qv e p (f::r) d=if(!Ko f.c||Ja3 f.c)=true then(15,d)else if Kx p f.c=true then(6,d)else if 4<f.a.length then(18,d)else
  if(JE e (f.a++[f.b]) 1 d).1≠0 then JE e (f.a++[f.b]) 1 d else Qv e (some f.c) r (JE e (f.a++[f.b]) 1 d).2:=by rfl
theorem Jcv (e:Str->Bool):∀(p:Option Str) (i:List Sg) (d:Nat),d<=400->(Qv e p i d).1=0->(∀f∈i,f.a.length<=4)/\(∀f∈i,qg (f.a++[f.b])<=400)/\(Qv e p i d).2<=400
 |p,[],d,j,h=>by rw[Qv];grind
 | p,f::r,d,j,h=>by
   rw[Y7]at h⊢
   split at h
   ·cases h
   rename_i k
   split at h
   ·cases h
   rename_i l
   split at h
   ·cases h
   rename_i m
   split at h
   ·omega
   rename_i n
   have g:(JE e (f.a++[f.b]) 1 d).1=0:=by omega
   rw[Xa k,Xa l,Xa m,Xa n];have o:=(YP e (f.a++[f.b]) 1 d j).2 g;have q:=kY e (f.a++[f.b]) 1 d g;obtain⟨s,t,u⟩:=Jcv e (some f.c) r _ o h
   grind
def qj (l:List Sg):List Ty:=(l.map fun f=>f.a++[f.b]).flatten
theorem Jhb (s:Sch):Qn s=s.a.map Prod.snd++[s.b]++qj s.c:=rfl
theorem JmQ :∀{a:List Ty} {t:Ty},t∈a->cntT t<=qg a:=fun{a t} h=>by
 obtain⟨i,b,rfl⟩:=XU.1 h;exact jF b
theorem qm (s:Sch):Qx s=
  if 12<s.a.length\/12<s.c.length then 3 else
  if Ka none (s.a.map Prod.fst)≠0 then Ka none (s.a.map Prod.fst)else
  if(JE (hasN s.a) (s.a.map Prod.snd) 1 0).1≠0 then(JE (hasN s.a) (s.a.map Prod.snd) 1 0).1 else
  if(mayS (hasN s.a) s.b 1 (JE (hasN s.a) (s.a.map Prod.snd) 1 0).2).1≠0 then(mayS (hasN s.a) s.b 1 (JE (hasN s.a) (s.a.map Prod.snd) 1 0).2).1 else
  if(Qv (hasN s.a) none s.c (mayS (hasN s.a) s.b 1 (JE (hasN s.a) (s.a.map Prod.snd) 1 0).2).2).1≠0 then(Qv (hasN s.a) none s.c (mayS (hasN s.a) s.b 1 (JE (hasN s.a) (s.a.map Prod.snd) 1 0).2).2).1 else
  if s.a.any (fun p=> !finS s.a p.2)then 14 else
  if jh s.a (Qn s)then 17 else 0:=rfl
theorem qr (h:Qx N=0):N.a.length<=12/\N.c.length<=12/\Ka none (N.a.map Prod.fst)=0/\(JE (hasN N.a) (N.a.map Prod.snd) 1 0).1=0/\(mayS (hasN N.a) N.b 1 (JE (hasN N.a) (N.a.map Prod.snd) 1 0).2).1=0/\(∀f∈N.c,f.a.length<=4):=by
 rw[qm]at h
 split at h
 ·cases h
 rename_i j
 split at h
 ·omega
 rename_i k
 split at h
 ·omega
 rename_i d
 split at h
 ·omega
 rename_i e
 split at h
 ·omega
 rename_i l
 have d:(JE (hasN N.a) (N.a.map Prod.snd) 1 0).1=0:=by omega
 have e:(mayS (hasN N.a) N.b 1 (JE (hasN N.a) (N.a.map Prod.snd) 1 0).2).1=0:=by omega
 have g:=(YP (hasN N.a) (N.a.map Prod.snd) 1 0 (by decide)).2 d;have i:=(QN (hasN N.a) N.b 1 _ g).2 e;have:=Jcv (hasN N.a) none N.c _ i (by omega)
 grind
theorem Jfs (n:Str)(id:Nat):∀l:List (Str×Nat),Y4 n (V.d .i64 (id:Int)) (l.map fun p=>(p.1,V.d .i64 (p.2:Int)))=(setI n id l).map fun p=>(p.1,V.d .i64 (p.2:Int))
 |[]=>rfl
 | (a,c)::r=>by
   have b:=Jfs n id r;rw[XK,Y4,setI]
   grind
section
variable {S : St} {W : Pt -> Prop} {rt : Pt} {tb : Tb}
theorem Kept.G {f:Nat->Row}(a:W T):Kept S W (S.D T k f) W:=fun r e n=>⟨Jj _ _ _ fun h=>n (by grind),n⟩
end
theorem Jcw (n:Str)(t:Ty)(r:List (Str×Ty))(a:Tb):Jr ((n,t)::r) a=if(addT t 400 a).2.2.1≠0 then((addT t 400 a).1,(addT t 400 a).2.2.1)else Jr r {(addT t 400 a).1 with c:=setI n (addT t 400 a).2.1 (addT t 400 a).1.c}:=by rfl
theorem Jia (t:Ty)(r:List Ty)(a:Tb):JN (t::r) a=if(addT t 400 a).2.2.1≠0 then((addT t 400 a).1,[],(addT t 400 a).2.2.1)else((JN r (addT t 400 a).1).1,(addT t 400 a).2.1::(JN r (addT t 400 a).1).2.1,(JN r (addT t 400 a).1).2.2):=by rfl
theorem Jib (f:Sg)(r:List Sg)(e:Tb):Kb (f::r) e=if(JN (f.a++[f.b]) e).2.2≠0 then((JN (f.a++[f.b]) e).1,(JN (f.a++[f.b]) e).2.2)else Kb r {(JN (f.a++[f.b]) e).1 with d:=setI f.c (JN (f.a++[f.b]) e).2.1 (JN (f.a++[f.b]) e).1.d}:=by rfl
theorem Jcx (s:Sch):newS s=if Qx s≠0 then(none,Qx s)else
  if(Jr s.a JF).2≠0 then(none,(Jr s.a JF).2)else
  if(addT s.b 400 (Jr s.a JF).1).2.2.1≠0 then(none,(addT s.b 400 (Jr s.a JF).1).2.2.1)else
  if(Kb s.c {(addT s.b 400 (Jr s.a JF).1).1 with b:=(addT s.b 400 (Jr s.a JF).1).2.1}).2≠0 then(none,(Kb s.c {(addT s.b 400 (Jr s.a JF).1).1 with b:=(addT s.b 400 (Jr s.a JF).1).2.1}).2)else
  (some (Kb s.c {(addT s.b 400 (Jr s.a JF).1).1 with b:=(addT s.b 400 (Jr s.a JF).1).2.1}).1,0):=rfl
theorem JdV (h:LstAt (NmC b q) b q a 5 t)(z:∀r,q.A r≠ .none->M.A r=q.A r)(J:k<t.length):
  ∃r f m n,Js 5 a (.d .i64 k)=some (.g r f, .a)/\M.A r≠ .none/\ldn (M.A r) f 5=some (.j [ofL t[k].1, .d .i64 t[k].2.A,ofL t[k].2.B,m,n], .a)/\TyC b q [.d .i64 t[k].2.A,ofL t[k].2.B,m,n] t[k].2/\(m.A=some [m]/\m.B=true/\n.A=some [n]/\n.B=true):=by
 obtain⟨r,f,e,K,Q,L,u,⟨c,N,w⟩,T,U⟩:=h.A J;have o:=w;obtain⟨p,s,O,rfl,x,y,W,X⟩:=w.B;subst N;rw[<-z r L]at u;exact⟨r,f,p,s,K,by grind,u,o,x.A,x.B,y.A,y.B⟩
def TabZ (S:St)(W Z:Pt->Prop)(rt:Pt)(tb:Tb):Prop:=WF S/\∃F,Tab W F S rt tb/\∀r,F r->¬Z r
theorem TabZ.x {Z:Pt->Prop}(h:TabZ q b Z T u):TabX q b T u:=by
 obtain⟨a,F,h,_⟩:=h;exact⟨a,F,h⟩
theorem TabZ.D {S a:St}{W Z:Pt->Prop}{b:Pt}{c:Tb}(h:TabZ S W Z b c)(g:Gr S a):TabZ a W Z b c:=by
 obtain⟨d,F,h,k⟩:=h;exact⟨g.D,F,h.G g,k⟩
mutual
def KO (has:Str->Bool):Ty->Bool
 | .mk k n _ ks=>(decide (k≠9)||has n)&&Kr has ks
def Kr (has:Str->Bool):List Ty->Bool
 |[]=>true
 |t::r=>KO has t&&Kr has r
end
mutual
theorem Jdc (a:Str->Bool):∀(t:Ty) (b d:Nat),(mayS a t b d).1=0->KO a t=true
 | .mk k n i f,b,d,h=>by
   rw[qR]at h
   split at h
   ·cases h
   split at h
   ·cases h
   split at h
   ·cases h
   split at h
   ·cases h
   split at h
   ·cases h
   rename_i c
   split at h
   ·rename_i c;exact absurd h c
   rw[KO,Xk,jn a f _ _ h];refine⟨?_,rfl⟩;by_cases e:k=9
   ·cases g:a n with
    |true=>simp
    |false=>exact absurd ⟨e,g⟩ c
   ·simp[e]
theorem jn (b:Str->Bool):∀(e:List Ty) (a d:Nat),(JE b e a d).1=0->Kr b e=true
 |[],_,_,_=>by rw[Kr]
 | t::r,a,d,h=>by
   rw[Kg]at h
   split at h
   ·rename_i c;exact absurd h c
   rename_i c
   rw[Kr,Jdc b t a d (by simpa using c),jn b r _ _ h];rfl
end
theorem qZ {b:Str->Bool}:∀{c:List Ty},Kr b c=true->∀t∈c,KO b t=true
 |[],_,t,h=>by cases h
 | a::r,d,t,h=>by
   rw[Kr,Xk]at d;rcases Xq.1 h with rfl|h
   ·grind
   ·exact qZ d.2 t h
theorem Jft (d:Str->Bool):∀(p:Option Str) (j:List Sg) (e:Nat),(Qv d p j e).1=0->(∀f∈j,Kr d (f.a++[f.b])=true)/\(j.map Sg.c).Pairwise (fun a b=>Op.bytesLess a b=true)/\∀f∈j,∀q,p=some q->Op.bytesLess q f.c=true
 |p,[],e,_=>⟨fun f h=>(by cases h),List.Pairwise.nil,fun f h=>(by cases h)⟩
 | p,f::r,e,h=>by
   rw[Y7]at h
   split at h
   ·cases h
   split at h
   ·cases h
   rename_i l
   split at h
   ·cases h
   split at h
   ·omega
   rename_i c
   obtain⟨o,s,m⟩:=Jft d _ r _ h;have n:∀q,p=some q->Op.bytesLess q f.c=true:=fun q k=>by
    rw[k]at l;simpa[Kx]using l
   refine⟨fun g i=> ?_, ?_,fun g i q k=> ?_⟩
   ·rcases Xq.1 i with rfl|i
    ·exact jn d _ 1 e (by omega)
    grind
   ·simp_all
   ·rcases Xq.1 i with rfl|i
    ·grind
    ·exact qX (n q k) (m g i _ rfl)
theorem Jcy (h:K.Pairwise (fun a b=>Op.bytesLess a b=true)):K.Nodup:=h.imp fun{a b} h e=>by rw[e,JaD]at h;cases h
def Able (X:Ty):Prop:=Q1 X<=400/\∃l0 tb0,(addT X l0 tb0).2.2.1=0
structure TInv (has:Str->Bool) (nodes:List Nd):Prop where
 b:∀i,i<nodes.length->∃X,Ki nodes X=some i/\Able X
 a:∀(i:Nat) (n:Nd),nodes[i]? =some n->n.a=9->has n.d=true
theorem TInv.A {e:List Nd}{nd:Nd}(h:TInv p e)(l:nd.a=9->p nd.d=true)(m:Ki (e++[nd]) X=some e.length)(o:Able X):TInv p (e++[nd]):=by
 refine⟨fun i f=> ?_,fun i n f k=> ?_⟩
 ·by_cases c:i<e.length
  ·obtain⟨X,g,j⟩:=h.b i c;exact⟨X,jm X g,j⟩
  grind
 ·by_cases c:i<e.length
  ·rw[XG c]at f;exact h.a i n f k
  grind
mutual
theorem JaE {d:Str->Bool}:∀(t:Ty) {left:Int} {tb:Tb},0<=left->left<=400->KO d t=true->(addT t left tb).2.2.1=0->TInv d tb.a->TInv d (addT t left tb).1.a
 | .mk k n j f,left,tb,u,K,p,h,v=>by
   have l:Able (.mk k n j f):=⟨by
    have w:=(qe (.mk k n j f) left tb u).2.2 h;obtain⟨_,_,_,y⟩:=Yz _ h;rw[y]at w;omega,left,tb,h⟩
   obtain⟨L,M,b,_⟩:=Yz _ h;rw[KO,Xk]at p;rw[QS]at h b⊢;by_cases c:left-1<0\/8<f.length\/8<j.length
   ·rw[Xe c]at h;cases h
   rw[Xa c]at h b⊢;have g:=Jhc f (left:=left-1) (tb:=tb) (by omega) (by omega) p.2;have r:=qi f (left:=left-1) (tb:=tb);generalize JA f (left-1) tb=x at h b g r⊢;obtain⟨m,o,e,N⟩:=x;simp only at h b g r⊢;by_cases q:e=0
   ·subst q;simp only[GS,XQ,X8]at h b⊢;have g:=g rfl v;unfold layS at h b⊢
    cases z:idx ⟨k,n,j,o⟩ m.a 0 with
    |some i=>exact g
    | none=>
      rw[z]at h b;by_cases s:120<=m.a.length
      ·rw[Xe s]at h;cases h
      ·simp only[Xa s]at b⊢;refine g.A (nd:=⟨k,n,j,o⟩) (fun J=> ?_) b l;have:=p.1;rw[show k=9 from J]at this;simpa using this
   ·rw[Xe q]at h;exact absurd h q
theorem Jhc {b:Str->Bool}:∀(c:List Ty) {left:Int} {tb:Tb},0<=left->left<=400->Kr b c=true->(JA c left tb).2.2.1=0->TInv b tb.a->TInv b (JA c left tb).1.a
 |[],left,tb,_,_,_,_,d=>by rw[Qm];exact d
 | t::c,left,tb,l,m,f,h,d=>by
   rw[Kr,Xk]at f;rw[Ku]at h⊢;have g:=JaE t (left:=left) (tb:=tb) l m f.1;have j:=qe t left tb l;generalize addT t left tb=x at h g j⊢;obtain⟨n,i,e,o⟩:=x;simp only at h g j⊢;by_cases k:e=0
   ·subst k;simp only[GS,XQ,X8]at h⊢;exact Jhc c (j.2.2 rfl) (by omega) f.2 h (g rfl d)
   ·rw[Xe k]at h;exact absurd h k
end
def sigI (tb:Tb)(n:Str):Option (List Nat):=(tb.d.find? fun p=>n=p.1).map (·.2)
theorem JaF {α:Type}(n m:Str)(x:α):∀l:List (Str×α),((setI n x l).find? fun p=>m=p.1).map (·.2)=if m=n then some x else(l.find? fun p=>m=p.1).map (·.2)
 | []=>by
   rw[setI];simp
 | (a,y)::r=>by
   rw[setI];by_cases c:n=a
   ·grind
   ·rw[Xa c];have b:=JaF n m x r
    grind
structure Grown (tb tb':Tb):Prop where
 d:∃r,tb'.a=tb.a++r
theorem Grown.A {b:Tb}(h:Grown u b){i:Nat}(k:Ki u.a X=some i):Ki b.a X=some i:=by
 obtain⟨r,e⟩:=h.d;rw[e];exact jm X k
theorem Grown.F {b:Tb}(h:Grown u b){X:List Ty}{i:List Nat}(k:JS u.a X=some i):JS b.a X=some i:=by
 obtain⟨r,e⟩:=h.d;rw[e];exact kZ X k
theorem Grown.G (a:Tb):Grown a a:=⟨[],by simp⟩
theorem Grown.D {b c:Tb}(h:Grown u b)(k:Grown b c):Grown u c:=by
 obtain⟨r,e⟩:=h.d;obtain⟨q,f⟩:=k.d;exact⟨r++q,by grind⟩
theorem JdW {b:Str->Bool}:∀(l:List (Str×Ty)) {tb:Tb},(∀p∈l,KO b p.2=true)->(l.map Prod.fst).Nodup->(Jr l tb).2=0->TInv b tb.a->
  TInv b (Jr l tb).1.a/\Grown tb (Jr l tb).1/\(∀p∈l,∃j,defI (Jr l tb).1 p.1=some j/\Ki (Jr l tb).1.a p.2=some j)/\(∀n,n∉l.map Prod.fst->defI (Jr l tb).1 n=defI tb n)/\(Jr l tb).1.d=tb.d/\∀p∈l,Able p.2
 |[],tb,_,_,_,f=>by rw[Jr];exact⟨f,Grown.G _,fun p h=>(by cases h),fun _ _=>rfl,rfl,fun p h=>(by cases h)⟩
 | (n,t)::r,tb,o,g,h,f=>by
   rw[XK,ZK]at g;rw[Jcw]at h⊢;by_cases c:(addT t 400 tb).2.2.1=0
   ·rw[Xa (fun k=>k c)]at h⊢;have v:=JaE t (left:=400) (tb:=tb) (by decide) (by decide) (o (n,t) (by simp)) c f;obtain⟨w,q,x,y⟩:=Yz t c;have z:=(qe t 400 tb (by decide)).2.2 c;rw[y]at z;obtain⟨J,s,L,u,M,N⟩:=JdW r (tb:={(addT t 400 tb).1 with c:=setI n (addT t 400 tb).2.1 (addT t 400 tb).1.c}) (fun p e=>o p (Xi _ e)) g.2 h v;have K:Grown tb {(addT t 400 tb).1 with c:=setI n (addT t 400 tb).2.1 (addT t 400 tb).1.c}:=⟨w,by rw[q]⟩
    refine⟨J,K.D s,fun p e=> ?_,fun m i=> ?_,by grind,fun p e=> ?_⟩
    ·rcases Xq.1 e with rfl|e
     ·refine⟨(addT t 400 tb).2.1, ?_,s.A x⟩;rw[u n g.1];show((setI n _ _).find? _).map _=_;rw[JaF,Xe rfl]
     grind
    ·rw[XK,Xq,Hc]at i;rw[u m i.2];show((setI n _ _).find? _).map _=_;rw[JaF,Xa i.1,q];rfl
    ·rcases Xq.1 e with rfl|e
     ·exact⟨by grind,400,tb,c⟩
     grind
   grind
theorem JdX {g:Str->Bool}:∀(f:List Ty) {e:Tb},Kr g f=true->(JN f e).2.2=0->TInv g e.a->
  TInv g (JN f e).1.a/\Grown e (JN f e).1/\JS (JN f e).1.a f=some (JN f e).2.1/\(JN f e).1.c=e.c/\(JN f e).1.d=e.d/\(JN f e).1.b=e.b
 |[],e,_,_,i=>by rw[JN];exact⟨i,Grown.G _,by rfl,rfl,rfl,rfl⟩
 | t::r,e,j,h,i=>by
   rw[Kr,Xk]at j;rw[Jia]at h⊢;by_cases c:(addT t 400 e).2.2.1=0
   ·rw[Xa (fun k=>k c)]at h⊢;have m:=JaE t (left:=400) (tb:=e) (by decide) (by decide) j.1 c i;obtain⟨n,o,p,v⟩:=Yz t c;obtain⟨q,l,s,w,x,y⟩:=JdX r j.2 h m;have u:Grown e (addT t 400 e).1:=⟨n,by rw[o]⟩
    refine⟨q,u.D l, ?_,by grind,by grind,by grind⟩;rw[JS,l.A p,s]
   grind
theorem JdY {g:Str->Bool}:∀(e:List Sg) {tb:Tb},(∀f∈e,Kr g (f.a++[f.b])=true)->(e.map Sg.c).Nodup->(Kb e tb).2=0->TInv g tb.a->
  TInv g (Kb e tb).1.a/\Grown tb (Kb e tb).1/\(Kb e tb).1.c=tb.c/\(∀f∈e,∃i,sigI (Kb e tb).1 f.c=some i/\JS (Kb e tb).1.a (f.a++[f.b])=some i)/\(∀n,n∉e.map Sg.c->sigI (Kb e tb).1 n=sigI tb n)/\(Kb e tb).1.b=tb.b
 |[],tb,_,_,_,l=>by rw[Kb];exact⟨l,Grown.G _,rfl,fun p h=>(by cases h),fun _ _=>rfl,rfl⟩
 | f::r,tb,s,o,h,l=>by
   rw[XK,ZK]at o;rw[Jib]at h⊢;by_cases c:(JN (f.a++[f.b]) tb).2.2=0
   ·rw[Xa (fun k=>k c)]at h⊢;obtain⟨v,w,x,K,y,L⟩:=JdX (f.a++[f.b]) (s f (by simp)) c l;obtain⟨z,t,M,N,u,O⟩:=JdY r (tb:={(JN (f.a++[f.b]) tb).1 with d:=setI f.c (JN (f.a++[f.b]) tb).2.1 (JN (f.a++[f.b]) tb).1.d}) (fun p j=>s p (Xi _ j)) o.2 h v;have J:Grown tb {(JN (f.a++[f.b]) tb).1 with d:=setI f.c (JN (f.a++[f.b]) tb).2.1 (JN (f.a++[f.b]) tb).1.d}:=⟨w.d⟩
    refine⟨z,J.D t,by grind,fun p j=> ?_,fun m q=> ?_,by grind⟩
    ·rcases Xq.1 j with rfl|j
     ·refine⟨(JN (p.a++[p.b]) tb).2.1, ?_,t.F x⟩;rw[u _ o.1];show((setI p.c _ _).find? _).map _=_;rw[JaF,Xe rfl]
     grind
    ·rw[XK,Xq,Hc]at q;rw[u m q.2];show((setI f.c _ _).find? _).map _=_;rw[JaF,Xa q.1,y];rfl
   grind
structure kC (s:Sch) (tb:Tb):Prop where
 d:Qx s=0
 c:TInv (hasN s.a) tb.a
 a:∀p∈s.a,∃j,defI tb p.1=some j/\Ki tb.a p.2=some j
 l:∀p∈s.a,Able p.2
 m:∀f∈s.c,∃ids,sigI tb f.c=some ids/\JS tb.a (f.a++[f.b])=some ids
 b:∀n,n∉s.c.map Sg.c->sigI tb n=none
 e:Ki tb.a s.b=some tb.b
theorem JdZ (h:Qx N=0):(∀p∈N.a,KO (hasN N.a) p.2=true)/\(N.a.map Prod.fst).Nodup/\KO (hasN N.a) N.b=true/\(∀f∈N.c,Kr (hasN N.a) (f.a++[f.b])=true)/\(N.c.map Sg.c).Nodup/\(∀p∈N.a,finS N.a p.2=true):=by
 rw[qm]at h
 split at h
 ·cases h
 split at h
 ·omega
 rename_i l
 split at h
 ·omega
 rename_i m
 split at h
 ·omega
 rename_i e
 split at h
 ·omega
 rename_i g
 split at h
 ·cases h
 rename_i n
 have i:=jn _ _ _ _ (show(JE (hasN N.a) (N.a.map Prod.snd) 1 0).1=0 by omega);obtain⟨j,k,_⟩:=Jft _ _ _ _ (by simpa using g);refine⟨fun p d=>qZ i p.2 (Xz.2 ⟨p,d,rfl⟩),qY (by omega),Jdc _ _ _ _ (by simpa using e),j,Jcy k,fun p d=> ?_⟩
 grind
theorem Jpw {e:Int}(h:newS N=(some u,e)):e=0/\kC N u:=by
 rw[Jcx]at h;by_cases l:Qx N=0
 ·rw[Xa (fun k=>k l)]at h;obtain⟨K,L,O,P,Q,n6⟩:=JdZ l;have S:TInv (hasN N.a) JF.a:=⟨fun i h=>absurd h (XH _),fun i n h=>by cases h⟩
  by_cases r:(Jr N.a JF).2=0
  ·rw[Xa (fun k=>k r)]at h;obtain⟨T,d2,U,d4,W,X⟩:=JdW N.a K L r S;generalize (Jr N.a JF).1=D at*;by_cases f:(addT N.b 400 D).2.2.1=0
   ·rw[Xa (fun k=>k f)]at h;have t:=JaE N.b (by decide) (by decide) O f T;obtain⟨Y,m,v,_⟩:=Yz N.b f;generalize addT N.b 400 D=M at*;obtain⟨g,o,me,ml⟩:=M;simp only at f t m v h;by_cases w:(Kb N.c {g with b:=o}).2=0
    ·rw[Xa (fun k=>k w)]at h;injection h with h Z;injection h with h;obtain⟨x,q,s3,y,z,J⟩:=JdY N.c (tb:={g with b:=o}) P Q w t;rw[h]at x q s3 y z J;have g1:Grown D {g with b:=o}:=⟨Y,by rw[m]⟩
     refine⟨Z.symm,l,x,fun p hp=> ?_,X,y,fun n hn=> ?_, ?_⟩
     ·obtain⟨j,k1,k2⟩:=U p hp;refine⟨j, ?_,q.A (g1.A k2)⟩;rw[<-k1];unfold defI
      grind
     ·rw[z n hn];show((g.d).find? _).map _=none;rw[m,W];rfl
     ·rw[J];exact q.A v
    grind
   grind
  grind
 grind
theorem JnC {e:Int}(h:newS N=(none,e)):e≠0:=by
 rw[Jcx]at h
 grind
theorem Jbr (n m:Str)(b:Bool):∀l:List (Str×Bool),gB m (sB n b l)=if m=n then b else gB m l
 |[]=>by rfl
 | (a,c)::r=>by
   rw[sB];by_cases e:n=a
   ·rw[Xe e,gB,gB]
    grind
   ·rw[Xa e,gB,gB,Jbr n m b r]
    grind
theorem Jfu (h:Qc p X 1=true)(k:X.A=9):p X.B=true:=by
 obtain⟨a,n,b,c⟩:=X;have k:a=9:=k;rw[Qc,Xa (by decide),Xe k]at h;exact h
def Rk (l:List (Str×Ty))(has:List (Str×Bool))(rk:Str->Nat):Prop:=∀p∈l,p.2.A=9->gB p.1 has=true->gB p.2.B has=true/\rk p.2.B<rk p.1
theorem Jfv (c:(t.map Prod.fst).Nodup){p q:Str×Ty}(b:p∈t)(d:q∈t)(h:p.1=q.1):p=q:=by
 induction t with
 |nil=>cases b
 | cons a r e=>
   grind
theorem JjF {l:List (Str×Ty)}(u:(l.map Prod.fst).Nodup):∀(r:List (Str×Ty)),(∀p∈r,p∈l)->∀(f:List (Str×Bool)) (i:Str->Nat),Rk l f i->∃g,Rk l (KX r f) g
 |[],_,f,i,h=>⟨i,by rw[KX];exact h⟩
 | (n,t)::r,v,f,i,h=>by
   rw[KX];have w:(n,t)∈l:=v _ (by simp)
   suffices ∃g,Rk l (sB n (gB n f||Qc (fun x=>gB x f) t 1) f) g by
    obtain⟨g,y⟩:=this;exact JjF u r (fun p j=>v p (Xi _ j)) _ g y
   by_cases c:gB n f=true
   ·refine⟨i,fun p j q m=> ?_⟩;have o:∀x,gB x (sB n (gB n f||Qc (fun x=>gB x f) t 1) f)=gB x f:=fun x=>by
     rw[Jbr,c,GJ]
     grind
    rw[o]at m⊢;exact h p j q m
   have z:gB n f=false:=by grind
   rw[z,ZQ];by_cases d:Qc (fun x=>gB x f) t 1=true
   ·rw[d];refine⟨fun x=>if x=n then i t.B+1 else i x,fun p j q m=> ?_⟩;by_cases e:p.1=n
    ·have J:=Jfv u j w e;subst J;have L:=Jfu d q;have s:¬t.B=n:=fun k=>by grind
     rw[Jbr,Xa s]
     grind
    ·rw[Jbr,Xa e]at m;obtain⟨a,b⟩:=h p j q m;have s:¬p.2.B=n:=fun k=>by grind
     rw[Jbr,Xa s]
     grind
   ·have K:Qc (fun x=>gB x f) t 1=false:=by grind
    rw[K];refine⟨i,fun p j q m=> ?_⟩;have o:∀x,gB x (sB n false f)=gB x f:=fun x=>by
     rw[Jbr]
     grind
    rw[o]at m⊢;exact h p j q m
theorem Jhd {l:List (Str×Ty)}(d:(l.map Prod.fst).Nodup):∀(k:Nat) (a:List (Str×Bool)) (c:Str->Nat),Rk l a c->∃b,Rk l (Km l k a) b
 |0,a,c,h=>⟨c,by rw[Km];exact h⟩
 | k+1,a,c,h=>by
   rw[Km];obtain⟨b,e⟩:=JjF d l (fun p f=>f) a c h;exact Jhd d k _ b e
theorem JmR (b:(t.map Prod.fst).Nodup){p:Str×Ty}(c:p∈t):defN t p.1=some p.2:=by
 unfold defN
 cases a:t.find? fun q=>q.1=p.1 with
 | none=>
   grind
 | some q=>
   have d:=List.mem_of_find?_eq_some a;have e:=List.find?_some a;rw[Jfv b d c (by grind)];rfl
theorem Jpx (h:finS t X=true):Qc (fun x=>gB x (Km t t.length [])) X 1=true:=by
 unfold finS at h
 grind
theorem JjG (d:(t.map Prod.fst).Nodup)(h:∀p∈t,finS t p.2=true):∃a:Str->Nat,∀p∈t,p.2.A=9->a p.2.B<a p.1:=by
 obtain⟨a,f⟩:=Jhd d t.length [] (fun _=>0) (fun p _ _ g=>by cases g);refine⟨fun x=>if gB x (Km t t.length [])then a x else a ((defN t x).getD QD).B+1,fun p b e=> ?_⟩;have i:=Jfu (Jpx (h p b)) e;simp[i];by_cases c:gB p.1 (Km t t.length [])=true
 ·rw[Xe c];exact(f p b e c).2
 ·rw[Xa c,JmR d b];simp
theorem Jdd {α:Type}{p q:α->Bool}(h:∀x,p x=true->q x=true){x:α}(d:q x=true)(e:p x=false):∀{l:List α},x∈l->(l.filter p).length<(l.filter q).length
 |[],c=>by cases c
 | a::r,c=>by
   have g:∀l:List α,(l.filter p).length<=(l.filter q).length:=fun l=>by
    induction l with
    |nil=>simp
    | cons b l f=>
      grind
   rcases Xq.1 c with rfl|c
   ·grind
   ·have f:=Jdd h d e c
    grind
theorem JmS {b:Tb}{l:List (Str×Ty)}{c:Str->Nat}(m:∀p∈l,p.2.A=9->c p.2.B<c p.1)
  (o:∀(i:Nat) (n:Nd),b.a[i]? =some n->n.a=9->∃T j,(n.d,T)∈l/\defI b n.d=some j/\Ki b.a T=some j):
  ∀(f r i:Nat) (e:i<b.a.length),(b.a[i].a=9->c b.a[i].d<r)->(b.a.filter fun n=>decide (n.a=9/\c n.d<r)).length<f->
   ∃j q,Ks b f i=(j,true)/\b.a[j]? =some q/\q.a≠9
 |0,r,i,e,h,s=>absurd s (XH _)
 | f+1,r,i,e,h,s=>by
   by_cases k:b.a[i].a=9
   ·obtain⟨T,j,K,u,v⟩:=o i _ (Xg e) k;rw[qf e k u];obtain⟨w,g,y⟩:=YQ v;have z:=(Xx.1 g).1;have J:=(Xx.1 g).2;refine JmS m o f (c b.a[i].d) j z (fun L=> ?_) ?_
    ·grind
    ·have:(b.a.filter fun n=>decide (n.a=9/\c n.d<c b.a[i].d)).length<(b.a.filter fun n=>decide (n.a=9/\c n.d<r)).length:=
      Jdd (x:=b.a[i]) (fun x t=>by
       grind) (Xp ⟨k,h k⟩) (Xv fun t=>Gi _ t.2) (Xh e)
     omega
   ·rw[qQ e k]
    grind
theorem kC.F {s:Sch}{i:Tb}(h:kC s i){X:Ty}(v:KO (hasN s.a) X=true)(t:(addT X 400 i).2.2.1=0):kC s (addT X 400 i).1/\Ki (addT X 400 i).1.a X=some (addT X 400 i).2.1:=by
 have w:=JaE X (left:=400) (tb:=i) (by decide) (by decide) v t h.c;obtain⟨x,k,y,N⟩:=Yz X t;have g:Grown i (addT X 400 i).1:=⟨x,by rw[k]⟩
 have z:(addT X 400 i).1.c=i.c:=by rw[k]
 have u:(addT X 400 i).1.d=i.d:=by rw[k]
 have J:(addT X 400 i).1.b=i.b:=by rw[k]
 refine⟨⟨h.d,w,fun p K=> ?_,h.l,fun f L=> ?_,fun n M=> ?_, ?_⟩,y⟩
 ·obtain⟨j,o,q⟩:=h.a p K;exact⟨j,by unfold defI;rw[z];exact o,g.A q⟩
 ·obtain⟨r,o,q⟩:=h.m f L;exact⟨r,by unfold sigI;rw[u];exact o,g.F q⟩
 ·unfold sigI;rw[u];exact h.b n M
 ·rw[J];exact g.A h.e
theorem Jcz {n:Str}(h:hasN t n=true):∃T,(n,T)∈t:=by
 obtain⟨p,a,e⟩:=List.any_eq_true.1 h
 grind
theorem kC.D (h:kC N u){i:Nat}(f:i<u.a.length):∃j o,Ks u (u.a.length+1) i=(j,true)/\u.a[j]? =some o/\o.a≠9:=by
 obtain⟨v,p,w,x,y,q⟩:=JdZ h.d;obtain⟨r,g⟩:=JjG p q;refine JmS g (fun i n f k=> ?_) _ (r u.a[i].d+1) i f (fun _=>XO _) (Nat.lt_succ_of_le (Z2 _ _));obtain⟨T,t⟩:=Jcz (h.c.a i n f k);obtain⟨j,z,J⟩:=h.a _ t
 grind
mutual
def fitT :Ty->Bool
 | .mk _ _ ns ks=>decide (ns.length<=8)&&decide (ks.length<=8)&&qu ks
def qu :List Ty->Bool
 |[]=>true
 |t::r=>fitT t&&qu r
end
theorem Jaa {k:Int}{n:Str}{a:List Ty}(h:fitT (.mk k n K a)=true):K.length<=8/\a.length<=8/\qu a=true:=by
 rw[fitT,Xk,Xk]at h
 grind
theorem qx :∀{ks:List Ty},qu ks=true->∀i (h:i<ks.length),fitT ks[i]=true
 |[],_,i,h=>absurd h (by simp)
 | t::r,a,i,h=>by
   rw[qu,Xk]at a
   cases i with
   |zero=>grind
   |succ i=>exact qx a.2 i (by grind)
mutual
theorem Jfx :∀(t:Ty) {left:Int} {b:Tb},(addT t left b).2.2.1=0->fitT t=true
 | .mk k n d f,left,b,h=>by
   rw[QS]at h;by_cases c:left-1<0\/8<f.length\/8<d.length
   ·rw[Xe c]at h;cases h
   rw[Xa c]at h
   cases j:JA f (left-1) b with
   |mk g x=>
   obtain⟨a,e,l⟩:=x;rw[j]at h;by_cases i:e=0
   ·have m:(JA f (left-1) b).2.2.1=0:=by rw[j];exact i
    rw[fitT,Jhe f m,Xp (by omega),Xp (by omega)];rfl
   ·have h:(if e≠0 then(g,0,e,l)else((layS g ⟨k,n,d,a⟩).1,(layS g ⟨k,n,d,a⟩).2.1,(layS g ⟨k,n,d,a⟩).2.2,l):Tb×Nat×Int×Int).2.2.1=0:=h;rw[Xe i]at h;exact absurd h i
theorem Jhe :∀(f:List Ty) {left:Int} {c:Tb},(JA f left c).2.2.1=0->qu f=true
 |[],_,_,_=>by rw[qu]
 | t::r,left,c,h=>by
   rw[Ku]at h
   cases g:addT t left c with
   |mk a x=>
   obtain⟨i,e,b⟩:=x;rw[g]at h;by_cases d:e=0
   ·have j:(addT t left c).2.2.1=0:=by rw[g];exact d
    subst d;have h:(JA r b a).2.2.1=0:=h;rw[qu,Jfx t j,Jhe r h];rfl
   ·have h:(if e≠0 then(a,[],e,b)else((JA r b a).1,i::(JA r b a).2.1,(JA r b a).2.2.1,(JA r b a).2.2.2):Tb×List Nat×Int×Int).2.2.1=0:=h;rw[Xe d]at h;exact absurd h d
end
theorem Able.A (h:Able X):fitT X=true:=by
 obtain⟨_,_,_,h⟩:=h;exact Jfx X h
theorem Qy {c:List Nd}{r:List Ty}{l:List Nat}(h:JS c (X::r)=some l):∃a b,l=a::b/\Ki c X=some a/\JS c r=some b:=by
 rw[JS]at h
 grind
mutual
theorem Jfy {a:List Nd}:∀{X Y:Ty} {i:Nat},Ki a X=some i->Ki a Y=some i->X=Y
 | .mk k n p q, .mk r s e f,i,h,t=>by
   obtain⟨g,u,j⟩:=YQ h;obtain⟨b,c,d⟩:=YQ t;rw[u]at c;injection c with c;injection c with l m o v;have j:JS a q=some g:=j;have d:JS a f=some b:=d;rw[<-v]at d;have:=Jhf j d;rw[this];have l:k=r:=l;have m:n=s:=m;have o:p=e:=o;rw[l,m,o]
theorem Jhf {c:List Nd}:∀{X Y:List Ty} {i:List Nat},JS c X=some i->JS c Y=some i->X=Y
 |[],[],i,h,d=>rfl
 | [],y::r,i,h,d=>by
   obtain⟨a,b,rfl,_,_⟩:=Qy d
   cases h
 | x::l,[],i,h,d=>by
   obtain⟨a,b,rfl,_,_⟩:=Qy h
   cases d
 | x::l,y::r,i,h,d=>by
   obtain⟨a,b,rfl,f,g⟩:=Qy h;obtain⟨o,p,e,j,k⟩:=Qy d;injection e with m n;rw[m]at f;rw[n]at g;rw[Jfy f j,Jhf g k]
end
theorem kC.A (h:kC N u){i:Nat}(f:Ki u.a X=some i):Able X:=by
 obtain⟨g,j,_⟩:=YQ f;obtain⟨Y,k,n⟩:=h.c.b i (Xx.1 j).1;rw[Jfy f k];exact n
theorem kC.G (h:kC N u){k:Int}(f:k≠9)(j:(layS u ⟨k,[],[],[]⟩).2.2=0):kC N (layS u ⟨k,[],[],[]⟩).1:=by
 have n:addT (.mk k [] [] []) 400 u=((layS u ⟨k,[],[],[]⟩).1,(layS u ⟨k,[],[],[]⟩).2.1,(layS u ⟨k,[],[],[]⟩).2.2,399):=rfl;have g:KO (hasN N.a) (.mk k [] [] [])=true:=by
  rw[KO,Kr,Xp f];rfl
 have i:(addT (.mk k [] [] []) 400 u).2.2.1=0:=by grind
 have:=(h.F g i).1
 grind
end Eva
namespace Eva
open Go Go.RowKit Go.ChangeShapes
variable {t:List (Str×Ty)}{k:Nat}{b:Pt->Prop}{d:List V}{i:List (List V)}{q M:St}{p:Str->Bool}{j:List Value}{a:V}{u:Tb}{T:Pt}{U:Value}{K:List Str}{N:Sch}{O:V->St->Prop}{X:Ty}{Y:St->List V->Prop}{Z:World}
abbrev Rws :=List (List V×Loc)
def rosA (A:Rws):St:=rosR (A.map Prod.fst).reverse
def locA (A:Rws)(i:Nat):Loc:=(A.getD i ([],⟨0,0,0⟩)).2
def gA (A:Rws):Locs:=rosG (A.map Prod.fst).reverse.length (locA A)
def jo (ρ:Nat->Value)(w:World)(A:Rws):Prop:=∀A',A<+:A'->∀i (h:i<A.length),Qu (gA A') ρ A[i].2 (.f A[i].1) w/\A[i].2.b<w.heap.size
theorem Jpy {A a:Rws}(h:A<+:a)(b:k<A.length):∃c:k<a.length,a[k]=A[k]:=by
 obtain⟨C,rfl⟩:=h
 grind
theorem JjH (A:Rws):(A.map Prod.fst).reverse.length=A.length:=by simp
theorem JmT {A a:Rws}(h:A<+:a)(b:k<A.length):(rosA a).A (Pt.G k)= .f A[k].1:=by
 obtain⟨c,e⟩:=Jpy h b;unfold rosA;rw[qb,Pt.B,JjH,Xe c]
 grind
theorem JsA {A a:Rws}(h:A<+:a)(c:k<A.length):gA a (Pt.G k)=some A[k].2:=by
 obtain⟨b,e⟩:=Jpy h c;unfold gA rosG locA;rw[JjH,Pt.B,Xe b,XA,Xg b,e];rfl
theorem jo.F (ρ:Nat->Value)(w:World):jo ρ w []:=fun _ _ i h=>absurd h (by simp)
theorem jo.D {ρ:Nat->Value}{A:Rws}(h:jo ρ Z A){a:Loc}(j:a.b<Z.heap.size)(k:∀e,A++[(d,a)]<+:e->Qu (gA e) ρ a (.f d) Z):jo ρ Z (A++[(d,a)]):=by
 intro e g i m;rcases Nat.lt_or_ge i A.length with c|c
 ·rw[Xw c];exact h e ((Gk _ _).trans g) i c
 grind
theorem JjI {P:Program}{ρ:Nat->Value}{t:BT}(c:t.A fun i e=>KM P ρ ⟨Z.heap.size,Z⟩ i e.b){A:Rws}(d:jo ρ Z A)
   {args:List V} (h:Does (tabT t) k args (rosA A) fun v _=>v= .h true) {xs:List Value} (g:RL (gA A) ρ args xs):
  Calls P k xs.toArray Z fun e j=>e= .returned (.bool true)/\Below Z.heap.size Z j:=by
 refine JkZ c (L:=(A.map Prod.fst).reverse) (locs:=locA A) (fun i n=> ?_) h g;have a:i<A.length:=by grind
 have l:locA A i=A[i].2:=by unfold locA;grind
 have m:(A.map Prod.fst).reverse.getD ((A.map Prod.fst).reverse.length-1-i) []=A[i].1:=by grind
 rw[l,m];exact d A (HU _) i a
def OpnC (ρ:Nat->Value)(w:World)(cs:List Value)(K:St->List V->Prop):Prop:=∀A,jo ρ w A->∃B e,jo ρ w (A++B)/\∀A',A++B<+:A'->RL (gA A') ρ e cs/\K (rosA A') e
def OpnV (ρ:Nat->Value)(w:World)(v:Value)(K:St->V->Prop):Prop:=∀A,jo ρ w A->∃B u,jo ρ w (A++B)/\∀A',A++B<+:A'->R (gA A') ρ u v/\K (rosA A') u
section
variable {ρ : Nat -> Value} {w : World}
theorem OpnC.F {a:St->List V->Prop}(h:OpnC ρ w j Y)(k:∀b e,Y b e->a b e):OpnC ρ w j a:=fun A g=>by
 obtain⟨B,e,i,c⟩:=h A g;exact⟨B,e,i,fun d f=>⟨(c d f).1,k _ _ (c d f).2⟩⟩
theorem OpnV.F {K a:St->V->Prop}(h:OpnV ρ w U K)(k:∀b e,K b e->a b e):OpnV ρ w U a:=fun A g=>by
 obtain⟨B,e,i,c⟩:=h A g;exact⟨B,e,i,fun d f=>⟨(c d f).1,k _ _ (c d f).2⟩⟩
theorem OpnC.L :OpnC ρ w [] fun _ e=>e=[]:=fun A a=>⟨[],[],by grind,fun b _=>⟨rfl,rfl⟩⟩
theorem OpnC.D {f c:List Value}{K g:St->List V->Prop}(h:OpnC ρ w f K)(k:OpnC ρ w c g):OpnC ρ w (f++c) fun i e=>∃a b,e=a++b/\K i a/\g i b:=fun A l=>by
 obtain⟨B,e,m,n⟩:=h A l;obtain⟨o,p,v,q⟩:=k _ m;refine⟨B++o,e++p,by grind,fun j d=> ?_⟩;rw[<-Za]at d;obtain⟨r,s⟩:=n j ((Gk _ _).trans d);obtain⟨t,u⟩:=q j d;exact⟨r.D t,_,_,rfl,s,u⟩
theorem OpnC.G {e:List V}(h:∀γ,RL γ ρ e j):OpnC ρ w j fun _ a=>a=e:=fun A b=>⟨[],e,by grind,fun c _=>⟨h _,rfl⟩⟩
theorem OpnV.D {K:St->V->Prop}(h:OpnV ρ w U K):OpnC ρ w [U] fun d e=>∃u,e=[u]/\K d u:=fun A f=>by
 obtain⟨B,u,g,a⟩:=h A f;exact⟨B,[u],g,fun b c=>⟨⟨_,_,rfl,(a b c).1,rfl⟩,_,rfl,(a b c).2⟩⟩
theorem OpnC.J (h:OpnC ρ w j Y):OpnV ρ w (.agg j.toArray) fun st u=>∃e,u= .j e/\Y st e:=fun A d=>by
 obtain⟨B,e,f,a⟩:=h A d;exact⟨B, .j e,f,fun b c=>⟨⟨_,rfl,(a b c).1⟩,_,rfl,(a b c).2⟩⟩
theorem OpnV.G {v:Value}{b:List Int}(h:IntsIn w v b)(j:0<w.heap.size):OpnV ρ w v fun st u=>Jay st u b:=fun A k=>by
 obtain⟨c,l,m,n⟩:=JoX h j;obtain⟨u,a,o⟩:=n (Pt.G A.length);refine⟨[(b.map (V.d .i64),c)],u,k.D l fun p _=>m _ _,fun p e=> ?_⟩;have f:A.length<(A++[(b.map (V.d .i64),c)]).length:=by simp
 have g:=JsA e f;have i:=JmT e f;simp at g i;refine⟨o _ _ g, ?_⟩;rcases a with a|a
 ·exact .inl a
 ·exact .inr ⟨_,a,i⟩
theorem JjJ {α:Type}{z:Nat}:∀{xs:List (List α)},(∀x∈xs,x.length=z)->∀k,k<xs.length*z->∃(h:k/z<xs.length),xs.flatten[k]? =(xs[k/z])[k%z]?
 |[],_,k,b=>by grind
 | x::r,d,k,b=>by
   have e:=d x (by simp);have f:0<z:=by grind
   rw[Zf];by_cases c:k<z
   ·rw[XG (by omega)];have g:k/z=0:=Nat.div_eq_of_lt c;have i:k%z=k:=Gv c
    grind
   ·have a:k-z<r.length*z:=by
     rw[XF,Zm]at b;omega
    obtain⟨m,j⟩:=JjJ (xs:=r) (fun y l=>d y (Xi _ l)) (k-z) a;rw[X3 (by omega),e,j];have g:k/z=(k-z)/z+1:=by
     have:=Nat.add_div_right (k-z) f
     grind
    have i:k%z=(k-z)%z:=by
     have:=Nat.add_mod_right (k-z) z
     grind
    grind
theorem OpnC.I {α:Type}{z:Nat}{K:List V->St->α->Prop}:∀{xs:List (List Value)},(∀cs∈xs,∃r,OpnC ρ w cs fun g e=>e.length=z/\K e g r)->∃f:List α,f.length=xs.length/\OpnC ρ w xs.flatten fun g e=>∃d:List (List V),e=d.flatten/\(∀x∈d,x.length=z)/\d.length=f.length/\∀i (h:i<d.length) (o:i<f.length),K d[i] g f[i]
 |[],_=>⟨[],rfl,OpnC.L.F fun g e h=>⟨[],h,by simp,rfl,fun i h=>absurd h (by simp)⟩⟩
 | cs::xs,j=>by
   obtain⟨r,k⟩:=j cs (by simp);obtain⟨f,l,h⟩:=OpnC.I (xs:=xs) fun c m=>j c (Xi _ m);refine⟨r::f,by simp[l], ?_⟩;rw[Zf];refine(k.D h).F fun g e ⟨a,b,p,⟨q,s⟩,d,t,u,n,v⟩=>⟨a::d,by grind, ?_,by simp[n], ?_⟩
   ·grind
   grind
end
theorem OpnV.I {α:Type}{z:Nat}(z0:0<z){ρ:Nat->Value}{w:World}(h0:0<w.heap.size){a:Addr}{c d:Nat}(hl:c<=d){xs:List (List Value)}(X:xs.length=c)(hz:∀x∈xs,x.length=z)(Y:∀k,k<c*z->w.cell? (a.add k)=xs.flatten[k]?)(j:0<d->∃v,w.cell? a=some v){K:List V->St->α->Prop}(Z:∀cs∈xs,∃r,OpnC ρ w cs fun M e=>e.length=z/\K e M r):
  ∃m:List α,m.length=c/\OpnV ρ w (.slice (some a) c d) fun M u=>∃l,SlAt (fun _=>True) M u z l/\l.length=m.length/\∀i (h:i<l.length) (h':i<m.length),K l[i] M m[i]:=by
 obtain⟨m,P,q⟩:=OpnC.I Z;refine⟨m,by omega,fun A hA=> ?_⟩;obtain⟨B,e,h1,N⟩:=q A hA;have aa:e.length=c*z:=by
  have:=(N _ (HU _)).1.A;rw[<-this,<-X];clear this N q Z Y X P
  induction xs with
  |nil=>simp
  | cons x r ih=>
    grind
 obtain⟨n,Q⟩:∃n:Loc,n=if d=0 then⟨0,0,0⟩else⟨a.block,a.off,d*z⟩:=⟨_,rfl⟩
 have t:0<d->a=⟨a.block,a.off,none⟩:=fun g=>by
  obtain⟨v,O⟩:=j g;have:=World.cell?_spot O;obtain⟨b,o,s⟩:=a
  grind
 have hb:n.b<w.heap.size:=by
  rw[Q]
  split
  ·exact h0
  ·rename_i g
   obtain⟨v,O⟩:=j (by omega);rw[t (by omega)]at O;obtain⟨S,y,fz,e1,_⟩:=kK O
   grind
 refine⟨B++[(e,n)], .w (Pt.G (A++B).length) 0 c z, ?_,fun T p=> ?_⟩
 ·rw[<-Za];refine h1.D hb fun T p i v hi=> ?_;obtain⟨x,U,ab⟩:=(N T ((Gk _ _).trans p)).1.H hi;have W:i<c*z:=by grind
  have g:d≠0:=fun e=>by grind
  have f:=Y i W;rw[U,t (by omega)]at f;have J:(⟨a.block,a.off,none⟩:Addr).add i=⟨a.block,a.off+i,none⟩:=by
   unfold Addr.add;simp
  rw[J]at f;obtain⟨S,y,fz,e1,e2⟩:=kK f
  grind
 ·rw[<-Za]at p;have L:(A++B).length<((A++B)++[(e,n)]).length:=by simp
  have g1:=JsA p L;have r1:=JmT p L;simp only[List.getElem_concat_length]at g1 r1;obtain⟨_,l,k1,k2,k3,k4⟩:=N T ((Gk _ _).trans p);have el:l.length=c:=by omega
  refine⟨⟨n,a,d,g1,rfl,hl,fun g=> ?_, ?_⟩,l,⟨k2, .inr ⟨_,0,trivial, .inl (by rw[el]),e, .inr r1,by grind, ?_⟩⟩,k3,k4⟩
  ·grind
  ·grind
  grind
theorem Jd0 :∀a:List Int,(JbO a).flatten=a.map (V.d .i64)
 |[]=>rfl
 | z::a=>by
   have:=Jd0 a;unfold JbO at this⊢
   grind
def QH (P:Pt->Prop)(st:St)(u:V)(rs:List Rw):Prop:=∃es,SlAt P st u 4 es/\es.length=rs.length/\rs.length<2^63/\∀i (h:i<es.length) (h':i<rs.length),RwC P st es[i] rs[i]
section
variable {H : Type} {enc : TypeId × Value -> H} {P : Program} {W : World} {ρ : Nat -> Value}
theorem Jrf {t e:TypeId}{x:DataW H×List MemPlace}(q:P.underlying t=some (.slice e))(r:P.underlying e=some (.int .i64))(s:P.cellsOf e=1)
  (u:DataW.trod enc P W 0 (fun _=>true) true k t j=some x):
  ∃(v:Value) (d:List Int),j=[v]/\IntsIn W v d/\(∀z∈d,In64 z)/\d.length<=maxLen:=by
 rcases open_ints q r s u with⟨m,_⟩|⟨n,a,c,d,m,_,O,Q,w,_,y,J⟩
 ·exact⟨_,[],m, .inl ⟨rfl,rfl⟩,by simp,XC _⟩
 ·have w:d.length=c:=by grind
  refine⟨_,d.take a,m, ?_,fun z K=> ?_,by grind⟩
  ·have L:(d.take a).length=a:=by grind
   by_cases M:c=0
   ·have:a=0:=by omega
    subst this;subst M;exact .inr (.inl ⟨n,rfl,by simp⟩)
   ·right;right;have o:=y 0 (by omega);have f:(n.add 0).spot=none:=World.cell?_spot o;obtain⟨b,g,h⟩:=n;have f:h=none:=by simpa[Addr.add]using f
    subst f;have l:∀i,(⟨b,g,none⟩:Addr).add i=⟨b,g+i,none⟩:=fun i=>by
     unfold Addr.add;simp
    refine⟨b,g,c,by rw[L],by omega, ?_,fun i S=> ?_⟩
    ·obtain⟨N,p,T,U,_⟩:=kK (by rw[l]at o;exact o)
     grind
    grind
  ·have:=J z (Zj K);have: -9223372036854775808<=z/\z<=9223372036854775807:=by simpa[Lit.wf,IntKind.min,IntKind.max,IntKind.bits,IntKind.signed]using this
   exact⟨this.1,by omega⟩
theorem Ja5 (h:k<=maxLen):k<2^63:=by
 have:maxLen=2^63-1:=rfl;omega
theorem Jde (a:Addr)(i j:Nat):(a.add i).add j=a.add (i+j):=by
 unfold Addr.add
 grind
structure JmU (P:Program) (t ti ts tk:TypeId):Prop where
 d:∃f0 f1 f2 f3:Field,P.underlying t=some (.struct #[f0,f1,f2,f3])/\(f0.type=ti/\f0.offset=0)/\(f1.type=ti/\f1.offset=1)/\(f2.type=ts/\f2.offset=2)/\(f3.type=tk/\f3.offset=3)
 b:P.underlying ti=some (.int .i64)
 c:P.underlying ts=some (.slice ti)
 a:P.underlying tk=some (.slice t)
 f:P.cellsOf t=4
 e:P.cellsOf ti=1
 h:P.cellsOf ts=1
 g:P.cellsOf tk=1
theorem Jic {t w:TypeId}{z:Nat}(N:0<z)(ht:P.underlying t=some (.slice w))(hz:P.cellsOf w=z)(h0:0<W.heap.size){α:Type}{K:List V->St->α->Prop}
  (hK:∀{j:List Value} {x:DataW H×List MemPlace},DataW.trod enc P W 0 (fun _=>true) true k w j=some x->j.length=z/\∃r,OpnC ρ W j fun g e=>e.length=z/\K e g r)
   {x:DataW H×List MemPlace} (h:DataW.trod enc P W 0 (fun _=>true) true (k+1) t j=some x):
  ∃(v:Value) (p:List α),j=[v]/\OpnV ρ W v fun g u=>∃q,SlAt (fun _=>True) g u z q/\q.length=p.length/\p.length<=maxLen/\∀i (h:i<q.length) (h':i<p.length),K q[i] g p[i]:=by
 rcases DataW.trod_slice ht h with⟨O,_⟩|⟨a,d,af,Q,aa,n,S,O,_,hb,hl,hm,ab,J,T,_⟩
 ·refine⟨_,[],O,fun A hA=>⟨[], .e,by grind,fun A' _=>⟨rfl,[],SlAt.K _ _ _,rfl,XC _,fun i h=>absurd h (by simp)⟩⟩⟩
 ·injection S with S;subst S;obtain⟨ag,hr⟩:=T rfl;rw[hz]at J hr;have ad:∀i,i<d->∃f,W.cells? 0 (a.add (i*z)) z=some f/\∃y,DataW.trod enc P W 0 (fun _=>true) true k w f=some y:=fun i L=>by
   have:=J i L;rw[Xg (by omega),ZE]at this
   grind
  have ex:∀i,∃f:List Value,i<d->W.cells? 0 (a.add (i*z)) z=some f/\∃y,DataW.trod enc P W 0 (fun _=>true) true k w f=some y:=fun i=>by
   by_cases L:i<d
   ·grind
   ·exact⟨[],fun h=>absurd h L⟩
  obtain⟨F,hF⟩:=Classical.axiomOfChoice ex;have l:∀j∈(List.range d).map F,j.length=z/\∃r,OpnC ρ W j fun g e=>e.length=z/\K e g r:=fun j m=>by
   obtain⟨i,L,rfl⟩:=Xz.1 m;obtain⟨s,y,M⟩:=hF i (Zh.1 L);exact hK M
  have U:=OpnV.I (ρ:=ρ) N (K:=K) h0 hl (a:=a) (xs:=(List.range d).map F) (by simp) (fun x X=>(l x X).1) ?Y ?ae fun j m=>(l j m).2
  ·obtain⟨p,ah,ho⟩:=U;refine⟨_,p,O,ho.F fun g u ⟨q,s,M,o⟩=>⟨q,s,M,by omega,o⟩⟩
  ·intro b hk;obtain⟨hq,e⟩:=JjJ (xs:=(List.range d).map F) (fun x X=>(l x X).1) b (by grind);rw[e];have Z:b/z<d:=by grind
   have:=(hF (b/z) Z).1;obtain⟨_,_,o⟩:=World.cells?_some this;have:=o (b%z) (Hg _ N);rw[Jde,show b/z*z+b%z=b by rw[Z7];exact Nat.div_add_mod b z]at this
   grind
  ·intro hc;by_cases c:0<d
   ·obtain⟨s,_⟩:=hF 0 c;obtain⟨_,M,o⟩:=World.cells?_some s;have:=o 0 N;rw[Jde]at this;simp at this;have e0:a.add 0=a:=by rfl
    grind
   ·have:=hr 0 (by omega);rw[Xg (by omega),ZE]at this;obtain⟨f,s,_⟩:=this;obtain⟨_,M,o⟩:=World.cells?_some s;have:=o 0 N;rw[Jde,show(d+0)*z+0=0 by grind]at this;have e0:a.add 0=a:=by rfl
    grind
theorem JmV {t ti ts tk:TypeId}(j:JmU P t ti ts tk)(h0:0<W.heap.size):∀(i:Nat),
  (∀{l:List Value} {x:DataW H×List MemPlace},DataW.trod enc P W 0 (fun _=>true) true i t l=some x->l.length=4/\∃r,OpnC ρ W l fun o e=>RwC (fun _=>True) o e r)/\
  (∀{l:List Value} {x:DataW H×List MemPlace},DataW.trod enc P W 0 (fun _=>true) true i tk l=some x->∃v p,l=[v]/\OpnV ρ W v fun o u=>QH (fun _=>True) o u p):=by
 intro i
 induction i with
 |zero=>exact⟨fun h=>by simp[DataW.trod]at h,fun h=>by simp[DataW.trod]at h⟩
 | succ i ih=>
   refine⟨fun{l x} h=> ?_,fun{l x} h=> ?_⟩
   ·obtain⟨g0,g1,g2,g3,q,⟨t0,o0⟩,⟨t1,o1⟩,⟨t2,o2⟩,⟨t3,y⟩⟩:=j.d;obtain⟨xs,n,J,_,L,M,w⟩:=DataW.trod_struct q h;injection J with J;subst J;rw[j.f]at L;refine⟨L, ?_⟩
    match l,L with
    | [c0,c1,c2,c3],_=>
      have N:xs.length=4:=M
      match xs,N with
      | [x0,x1,x2,x3],_=>
        have f0:=w 0 g0 rfl;have f1:=w 1 g1 rfl;have f2:=w 2 g2 rfl;have f3:=w 3 g3 rfl;rw[t0,o0,j.e]at f0;rw[t1,o1,j.e]at f1;rw[t2,o2,j.h]at f2;rw[t3,y,j.g]at f3;obtain⟨k,O,_,w0⟩:=DataW.trod_int j.b f0;obtain⟨m,Q,_,w1⟩:=DataW.trod_int j.b f1;obtain⟨v2,zs,S,i2,b2,l2⟩:=Jrf j.c j.b j.e f2;obtain⟨v3,p,T,o3⟩:=ih.2 f3;injection O with O;injection Q with Q;injection S with S;injection T with T;subst O;subst Q;subst S;subst T;have s:∀{z:Int},(Lit.int .i64 z).wf=true->In64 z:=fun{z} h=>by
         have: -9223372036854775808<=z/\z<=9223372036854775807:=by simpa[Lit.wf,IntKind.min,IntKind.max,IntKind.bits,IntKind.signed]using h
         exact⟨this.1,by omega⟩
        refine⟨.mk k m zs p, ?_⟩;have oc:OpnC ρ W [.int .i64 k, .int .i64 m] fun _ e=>e=[.d .i64 k, .d .i64 m]:=OpnC.G fun γ=>⟨_,_,rfl,rfl,_,_,rfl,rfl,rfl⟩
        refine((oc.D (OpnV.G i2 h0).D).D o3.D).F fun o e ⟨a,b,U,⟨a1,a2,X,h3,u2,h4,h5⟩,u3,h6,es,h7,h8,h9,Y⟩=> ?_;rw[U,X,h3,h4,h6];refine .mk (s w0) (s w1) b2 ?_ h7 h8 ⟨Ja5 l2,h9⟩ Y;rcases h5 with⟨rfl,rfl⟩|⟨r,rfl,hr⟩
        ·exact SlAt.K _ _ _
        ·refine⟨fun e he=> ?_, .inr ⟨r,0,trivial, .inl (by rw[Yg]),_, .inr hr,by rw[Yg];simp, ?_⟩⟩
         ·obtain⟨z,_,rfl⟩:=Xz.1 he;rfl
         ·rw[Yg,XP,Xt (by simp),Jd0]
   ·obtain⟨v,p,U,X⟩:=Jic (ρ:=ρ) (z:=4) (by decide) j.a j.f h0 (K:=fun e o r=>RwC (fun _=>True) o e r) (fun{l x} k=>by
     obtain⟨Z,r,k4⟩:=ih.1 k;exact⟨Z,r,k4.F fun o e h=>⟨h.G,h⟩⟩) h
    exact⟨v,p,U,X.F fun o u ⟨es,k1,k2,Z,k4⟩=>⟨es,k1,k2,Ja5 Z,k4⟩⟩
theorem Jtm {t g i l:TypeId}(f:JmU P t g i l)(m:0<W.heap.size){r:Reach}{d:DataW H}{p:List MemPlace}(a:Value.okWide P W r k t U)(h:DataW.Trod enc P W 0 (fun _=>true) true t U d p):
  ∃q:Rw,OpnV ρ W U fun n u=>∃e,u= .j e/\RwC (fun _=>True) n e q:=by
 obtain⟨_,_,_,_,b,_⟩:=f.d;obtain⟨o,rfl,_⟩:=WideShapes.okWide_struct b a;obtain⟨c,s⟩:=h;obtain⟨_,q,w⟩:=(JmV (ρ:=ρ) f m c).1 s;refine⟨q, ?_⟩;have:=w.J;simpa[Value.cells]using this
theorem Jrg {t n o g:TypeId}(m:JmU P t n o g)(q:0<W.heap.size){r:Reach}{d:DataW H}{p:List MemPlace}(b:Value.okWide P W r k g U)(h:DataW.Trod enc P W 0 (fun _=>true) true g U d p):
  ∃i:List Rw,OpnV ρ W U fun s u=>QH (fun _=>True) s u i:=by
 obtain⟨a,c,e,rfl⟩:=WideShapes.okWide_slice m.a b;obtain⟨f,w⟩:=h;obtain⟨x,i,j,y⟩:=(JmV (ρ:=ρ) m q f).2 w;have l:(Value.slice a c e).cells.toList=[.slice a c e]:=by rfl
 rw[l]at j;injection j with j;exact⟨i,by grind⟩
end
end Eva
namespace Eva
open Go Go.RowKit
variable {t:List (Str×Ty)}{k:Nat}{b:Pt->Prop}{d:List V}{i:List (List V)}{q M:St}{p:Str->Bool}{j:List Value}{a:V}{u:Tb}{T:Pt}{U:Value}{K:List Str}{N:Sch}{O:V->St->Prop}{X:Ty}{Y:St->List V->Prop}{Z:World}
theorem QH.G {Q:Pt->Prop}{st:St}{e:List Rw}(h:QH b st a e)(k:∀r,b r->st.A r≠ .none->Q r/\q.A r=st.A r):QH Q q a e:=by
 obtain⟨es,f,g,j,l⟩:=h;exact⟨es,f.D k,g,j,fun i c d=>(l i c d).D k⟩
theorem QH.F {c:List Rw}(h:QH b q a c)(g:Gr q M):QH b M a c:=h.G fun r p e=>⟨p,g.d r e⟩
theorem QH.A {P:Pt->Prop}{st:St}{v:V}{b:List Rw}(h:QH P st v b):J8 v=some (.d .i64 b.length, .a)/\v.B=true/\v.A=some [v]/\b.length<2^63:=by
 obtain⟨g,c,e,f,i⟩:=h;exact⟨by rw[c.G,e],c.B,c.A,f⟩
theorem QH.D {P:Pt->Prop}{c:St}{v:V}{b:List Rw}(h:QH P c v b){i:Nat}(m:i<b.length):
  ∃r o e k,Js 4 v (.d .i64 i)=some (.g r o, .a)/\c.A r≠ .none/\ldn (c.A r) o 4=some (.j [.d .i64 b[i].A, .d .i64 b[i].n,k,e], .a)/\RwC P c [.d .i64 b[i].A, .d .i64 b[i].n,k,e] b[i]/\ld1 (c.A r) (o+3)=some (e, .a)/\∃f,SlAt P c e 4 f/\f.length=b[i].D.length/\b[i].D.length<2^63/\∀j (h:j<f.length) (s:j<b[i].D.length),RwC P c f[j] b[i].D[j]:=by
 obtain⟨f,p,t,u,q⟩:=h;obtain⟨r,o,w,x,y,z,J⟩:=p.H (i:=i) (by omega);have l:=q i (by omega) m;have K:=l;obtain⟨k,e,L,M,N,O,Q,S,T,U,⟨W,X⟩,Y⟩:=l.A
 grind
def YG :List Str:=[[65],[66,101,101],[67,97,116],[68,111,103]]
def JsB :List Str:=[[102,97],[102,98],[102,99],[102,100]]
def typesOf (nms:List Str)(ts:List Rw):List (Str×Ty):=(nms.zip ts).map fun p=>(p.1,JJ nms 5 p.2)
def Jpz (nms:List Str)(r:Rw):List Ty:=(r.D.take 3).map (JJ nms 4)
def Jdf (nms:List Str)(ss:List Rw):List Sg:=(JsB.zip ss).map fun p=>⟨p.1,Jpz nms p.2,JJ nms 4 p.2⟩
def jH (m:Rw)(ts ss:List Rw):Sch:=⟨JJ (YG.take ts.length) 6 m,typesOf (YG.take ts.length) ts,Jdf (YG.take ts.length) ss⟩
theorem JjK (a:List Str)(b:List Rw)(h:a.length<=b.length):(typesOf a b).length=a.length:=by unfold typesOf;grind
theorem JjL (a:List Str)(b:List Rw)(i:Nat)(c:i<a.length)(d:i<b.length)(h:i<(typesOf a b).length):(typesOf a b)[i]=(a[i],JJ a 5 b[i]):=by simp[typesOf]
theorem Jld (a:List Str)(b:List Rw):(Jdf a b).length=min 4 b.length:=by unfold Jdf;simp[JsB]
structure LsF {α:Type} (C:(Pt->Prop)->St->List V->α->Prop) (st S1:St) (B:Pt->Prop) (z:Nat) (S:St) (v:V) (l:List α):Prop where
 g:Gr st S
 f:∀r,S1.A r≠ .none->¬B r->S.A r=S1.A r
 d:∀r,S1.A r≠ .none->S.A r≠ .none
 j:∀r,rowOf v=some r->S1.A r= .none
 m:∃es,SlF st S v z es/\es.length=l.length/\∀i (h:i<es.length) (h':i<l.length),C (fun r=>¬B r/\rowOf v≠some r) S es[i] l[i]
section
variable {α : Type} {C : (Pt -> Prop) -> St -> List V -> α -> Prop} {st S1 S S' : St} {B : Pt -> Prop} {z : Nat} {v : V} {l : List α}
theorem LsF.D (h:Gr st S1):LsF C st S1 B z S1 .e []:=⟨h,fun r _ _=>rfl,fun r e=>e,fun r e=>(by cases e),⟨[],SlF.I _ _ _,rfl,fun i h=>absurd h (by simp)⟩⟩
theorem LsF.F (hC:∀{P Q:Pt->Prop} {st c:St} {e:List V} {x:α},C P st e x->(∀r,P r->st.A r≠ .none->Q r/\c.A r=st.A r)->C Q c e x)(h:LsF C st S1 B z S v l)(g:Gr S S'):LsF C st S1 B z S' v l:=by
 obtain⟨k,o,q,s⟩:=h.m;exact⟨h.g.A g,fun r e n=>by rw[g.d r (h.d r e)];exact h.f r e n,fun r e=>by rw[g.d r (h.d r e)];exact h.d r e,h.j,k,o.G g,q,fun i a b=>hC (s i a b) fun r p e=>⟨p,g.d r e⟩⟩
theorem LsF.A (h:LsF C st S1 B z S v l){r:Pt}(a:rowOf v=some r):S.A r≠ .none:=by
 obtain⟨c,b,_⟩:=h.m;exact b.A a
theorem LsF.J (h:LsF C st S1 B z S v l):v.B=true/\v.A=some [v]:=by
 obtain⟨es,a,_⟩:=h.m;exact⟨a.D.B,a.D.A⟩
theorem LsF.I (hC:∀{P Q:Pt->Prop} {st s:St} {e:List V} {x:α},C P st e x->(∀r,P r->st.A r≠ .none->Q r/\s.A r=st.A r)->C Q s e x)(h:LsF C st S1 B z S v l){c:List V}{c':List V}(W:B T)(y:st.A T= .none)(K:S1.A T≠ .none)(e:S.A T= .a k c):LsF C st S1 B z (S.D T k fun u=> .a u c') v l:=by
 have w:∀r,¬B r->r≠T:=fun r n o=>n (by grind);obtain⟨L,M,N,O⟩:=h.m;refine⟨h.g.J y (Jb e) (by rw[e];rfl) (Jc _),fun r a n=>by rw[Jj _ _ _ (w r n)];exact h.f r a n,fun r a=> ?_,h.j,L,M.B fun r U=>Jj _ _ _ fun o=> ?_,N,fun i a b=>hC (O i a b) fun r q _=>⟨q,Jj _ _ _ (w r q.1)⟩⟩
 ·by_cases o:r=T
  ·rw[o,Jh];simp
  ·rw[Jj _ _ _ o];exact h.d r a
 ·exact K (by rw[<-o];exact h.j r U)
theorem JmW (hC:∀{b Q:Pt->Prop} {st w:St} {d:List V} {x:α},C b st d x->(∀r,b r->st.A r≠ .none->Q r/\w.A r=st.A r)->C Q w d x)(h:LsF C st S1 B z S v l){x:α}(N:SlAt b S a z [d])(O:Kc d=true)(Y:C (fun r=>¬B r/\rowOf v≠some r) S d x)(Z:∀r,B r->S1.A r≠ .none)(hn:l.length<1000){R:V->St->Prop}
  (k:∀S' u,LsF C st S1 B z S' u (l++[x])->(∀p,S.A p≠ .none->rowOf v≠some p->S'.A p=S.A p)->R u S'):wW (appV S z v a) S R:=by
 obtain⟨T,U,W,h3⟩:=h.m;refine Qj h.g U N (fun o ha=>by grind) (by simp) (by grind) fun S' u g s r J=>k S' u ?_ J;have M:=h.g.D;have L:∀r,S.A r≠ .none->rowOf v≠some r->rowOf u≠some r:=fun q o t c=>by
  rcases r with d|d
  ·grind
  ·rw[d]at c;injection c with c;rw[<-c]at o;exact o (J6 M)
 have X:∀{d:List V} {y:α},C (fun r=>¬B r/\rowOf v≠some r) S d y->C (fun r=>¬B r/\rowOf u≠some r) S' d y:=fun h=>hC h fun r p d=>⟨⟨p.1,L r d p.2⟩,J r d p.2⟩
 refine⟨g,fun r o n=> ?_,fun r o=> ?_,fun q K=> ?_,T++[d],s,by simp[W],fun i o t=> ?_⟩
 ·rw[J r (h.d r o) fun d=>o (h.j r d)];exact h.f r o n
 ·rw[J r (h.d r o) fun d=>o (h.j r d)];exact h.d r o
 ·rcases r with d|d
  ·exact h.j q (by grind)
  ·rw[d]at K;injection K with K;apply Xd;intro n;exact h.d q n (by rw[<-K];exact J6 M)
 grind
theorem Jrh (h:SlF q st v z i)(k:∀r,rowOf v=some r->b r):SlAt b st v z i:=by
 refine⟨h.1, ?_⟩;rcases h.2 with c|⟨r,t,c,d,a⟩
 ·grind
 ·have e:rowOf v=some r:=by rcases a with a|a<;>rw[a]<;>rfl
  refine .inr ⟨r,0,k r e, ?_,i.flatten, .inl ⟨t,d⟩,by rw[Jp h.1];omega,by rw[XP,<-Jp h.1,XE]⟩
  grind
theorem LsF.G (hC:∀{P Q:Pt->Prop} {st c:St} {e:List V} {x:α},C P st e x->(∀r,P r->st.A r≠ .none->Q r/\c.A r=st.A r)->C Q c e x)(h:LsF C st S1 B z S v l)(g:∀r,B r->S1.A r≠ .none):LstAt (C (fun r=>¬B r) S) (fun r=>¬B r) S v z l:=by
 obtain⟨es,k,n,o⟩:=h.m;exact⟨es,Jrh k fun r q b=>g r b (h.j r q),n,fun i a b=>hC (o i a b) fun r p _=>⟨p.1,rfl⟩⟩
end
def OwnS (st:St)(tv sv:V)(r:Pt):Prop:=st.A r= .none/\rowOf tv≠some r/\rowOf sv≠some r
def SgT (tv:V)(P:Pt->Prop)(st:St)(e:List V)(x:Sg):Prop:=SgC (fun r=>P r/\rowOf tv≠some r) st e x
theorem SgT.A {a:V}{P Q:Pt->Prop}{st st':St}{e:List V}{x:Sg}(h:SgT a P st e x)(k:∀r,P r->st.A r≠ .none->Q r/\st'.A r=st.A r):SgT a Q st' e x:=SgC.A h fun r p e=>⟨⟨(k r p.1 e).1,p.2⟩,(k r p.1 e).2⟩
structure SchF (st S:St) (c:List V) (tv sv:V) (s:Sch):Prop where
 f:TyC (OwnS st tv sv) S c s.b
 e:∃es,SlF st S tv 5 es/\es.length=s.a.length/\∀i (h:i<es.length) (h':i<s.a.length),NmC (OwnS st tv sv) S es[i] s.a[i]
 g:∃es,SlF st S sv 6 es/\es.length=s.c.length/\∀i (h:i<es.length) (h':i<s.c.length),SgC (OwnS st tv sv) S es[i] s.c[i]
 d:∀r,rowOf tv=some r->rowOf sv≠some r
theorem SchF.c {l S:St}{c:List V}{j k:V}{s:Sch}(h:SchF l S c j k s):SchC (fun r=>l.A r= .none) S (c++[j,k]) s:=by
 obtain⟨m,⟨n,o,q,t⟩,⟨u,v,w,x⟩,_⟩:=h;exact⟨c,j,k,rfl,m.A fun r p _=>⟨p.1,rfl⟩,⟨n,o.D,q,fun i a b=>(t i a b).A fun r p _=>⟨p.1,rfl⟩⟩,⟨u,v.D,w,fun i a b=>(x i a b).A fun r p _=>⟨p.1,rfl⟩⟩⟩
section
variable {H : Type} {enc : TypeId × Value -> H} {P : Program} {W : World} {ρ : Nat -> Value}
end
theorem JjM {R a:List V}(h:k+a.length<=d.length):Jw (d++R) k a=Jw d k a++R:=by
 rw[JK,JK,ZX (by omega),ZW h];simp only[Za]
theorem Jid {R a:List V}:Jw (d++R) (d.length+k) a=d++Jw R k a:=by
 rw[JK,JK,List.take_append,Z9,Xt (by omega),Xm (by omega)];rw[show d.length+k-d.length=k by omega,show d.length+k+a.length-d.length=k+a.length by omega];simp
theorem JjN {z:Nat}:∀{es:List (List V)},(∀e∈es,e.length=z)->∀{k:Nat} (b:k<es.length) {a:Nat} {c:List V},a+c.length<=z->Jw es.flatten (k*z+a) c=(es.set k (Jw es[k] a c)).flatten
 |[],_,k,b,_,_,_=>absurd b (by simp)
 | e::r,d,k,b,a,c,f=>by
   have g:=d e (by simp);rw[Zf]
   cases k with
   | zero=>
     rw[He,Zv,JjM (by omega)];rfl
   | succ k=>
     have h:=JjN (es:=r) (fun x i=>d x (Xi _ i)) (k:=k) (by simpa using b) f;rw[show(k+1)*z+a=e.length+(k*z+a) by rw[Zm,g];omega,Jid,h];rfl
theorem Jie {z:Nat}(h:SlF q M a z i)(c:k<i.length):
  ∃r t,rowOf a=some r/\q.A r= .none/\M.A r= .a t i.flatten/\Js z a (.d .i64 (k:Int))=some (.g r (k*z), .a)/\i[k].length=z/\
   ∀(l:St) (m b:Nat) (f:List V),b+f.length<=z->l.A r= .a m (Jw i.flatten (k*z+b) f)->SlF q l a z (i.set k (Jw i[k] b f)):=by
 have j:=h.1;rcases h.2 with⟨_,rfl⟩|⟨r,t,p,s,n⟩
 ·exact absurd c (by simp)
 refine⟨r,t, ?_,p,s, ?_,j _ (Xh c),fun l m b f u w=>⟨fun e o=> ?_, .inr ⟨r,m,p, ?_, ?_⟩⟩⟩
 ·rcases n with rfl|rfl<;>rfl
 ·rcases n with rfl|rfl
  ·rw[kX,Xe (by omega)];simp
  ·rw[jf,Xe (by omega)];simp
 ·rcases List.mem_or_eq_of_mem_set o with o|rfl
  ·exact j e o
  ·rw[JK];have:=j _ (Xh c);simp;omega
 ·rw[w,JjN j c u]
 ·rw[Hn];exact n
section
variable {st S S' : St} {c : List V} {tv sv : V} {s : Sch}
end
theorem Jgb (a:Fr)(p:List Nat×List Nat)(r:List (List Nat×List Nat)):JM a (p::r)=(JM a [p]&&JM a r):=by simp only[JM,ZG,Hk,Gz]
def Jif (W:Str)(i:Nat):Str:=(W.drop (i+1)).takeWhile (· !=32)
theorem JjO {W:Str}{N:Nat}(v:W.length<N)(o:∀i:Fin N,(W.drop i.1).head? =some 32->Jif W i.1=[]\/K.contains (Jif W i.1)=true)(x:∀w∈K,(Ko w&&Lib.contains W (32::(w++[32])))=true)(l:Str):(Ko l&&Lib.contains W (32::(l++[32])))=K.contains l:=by
 cases y:K.contains l with
 |true=>grind
 | false=>
   cases d:(Ko l&&Lib.contains W (32::(l++[32])))with
   |false=>rfl
   | true=>
     exfalso;simp at d;obtain⟨m,d⟩:=d;have p:l≠[]:=by intro e;subst e;cases m
     have q:∀c∈l,c≠32:=by
      intro c f e;subst e;have s:Yw l=true:=by
       cases l with
       |nil=>rfl
       |cons a r=>simp[Ko]at m;grind
      have:=Ze.1 s 32 f;exact absurd this (by decide)
     have g:∃i,Lib.occAt W (32::(l++[32])) i=true:=by
      apply Xd;intro z;have:Lib.index W (32::(l++[32]))= -1:=Lib.index_none fun j _=>by grind
      unfold Lib.contains at d
      grind
     obtain⟨i,n⟩:=g;have k:=Lib.occAt_room n;have b:i<N:=by grind
     have t:(32::(l++[32]))<+:W.drop i:=List.isPrefixOf_iff_prefix.1 n;obtain⟨r,u⟩:=t;have J:W.drop (i+1)=l++32::r:=by
      rw[<-List.tail_drop,<-u];simp
     have L:Jif W i=l:=by unfold Jif;simp_all
     rcases o ⟨i,b⟩ (by grind)with h|h
     ·grind
     grind
def Jfz :List Str:=[[66,111,111,108],[73,110,116],[84,101,120,116],[76,105,115,116],[77,97,112],[79,112,116],[85,110,105,111,110]]
def Jle :List Str:=[[108,101,110],[110,111,116],[97,110,100],[111,114],[101,113],[108,116],[97,100,100],[115,117,98],[109,117,108],[115,104,108],[115,104,114],[105,56],[105,49,54],[105,51,50],[117,56],[117,49,54],[117,51,50],[99,97,116],[116,101,120,116],[97,116],[103,101,116],[104,97,115],[111,114,101,108,115,101]]
theorem JpA (l:Str):(Ko l&&Lib.contains words (32::(l++[32])))=Jfz.contains l:=
 JjO (N:=100) (by decide) (by decide+kernel) (by decide+kernel) l
theorem JnD (l:Str):Ja3 l=Jle.contains l:=
 JjO (W:=Yx) (N:=100) (by decide) (by decide+kernel) (by decide+kernel) l
theorem Jri (n:Str):Yb n=(!Ko n||Jfz.contains n):=by
 have:=JpA n;unfold Yb
 grind
theorem JfA :∀a b:List UInt8,(Op.bytesLess a b||decide (a=b))= !Op.bytesLess b a
 |[],[]=>rfl
 |[],_::_=>rfl
 |_::_,[]=>rfl
 | a::x,b::y=>by
   have c:=JfA x y;simp[Op.bytesLess]
   grind
theorem Ja6 (a b:List UInt8):binV .leq (ofL a) (ofL b)=some (.h (!Op.bytesLess b a), .a):=by
 simp[binV,arith,ofL,Jaq,Jcj,JfA]
def ownS (has:Str->Bool)(t:Ty):Int:=
 if t.A<1\/9<t.A then 1 else
 if t.G.length≠KS t\/(t.B≠[]/\t.A≠9)\/(0<t.D.length/\¬(t.A=7\/t.A=8))then 12 else
 if t.A=9/\has t.B=false then 15 else KG t
theorem qy (a:Str->Bool)(k:Int)(n:Str)(f:List Str)(d:List Ty)(c b:Nat):mayS a (.mk k n f d) c b=
  if 400<b+1 then(3,b+1)else if 12<c then(13,b+1)else
  if ownS a (.mk k n f d)≠0 then(ownS a (.mk k n f d),b+1)else JE a d (c+1) (b+1):=by
 rw[qR];have e:ownS a (.mk k n f d)=if k<1\/9<k then 1 else if d.length≠KS (.mk k n f d)\/(n≠[]/\k≠9)\/(0<f.length/\¬(k=7\/k=8))then 12 else if k=9/\a n=false then 15 else KG (.mk k n f d):=rfl
 grind
theorem Jrj :∀x:Fin 256,okB x.1=true->(letB x.1= !digB x.1):=by decide+kernel
def letR (x:Nat):Bool:=(decide (97<=x)&&decide (x<=122))||((decide (65<=x)&&decide (x<=90))||decide (x=95))
theorem Jrk (a:k<256):letR k=letB k:=by
 have:∀k:Fin 256,letR k.1=letB k.1:=by decide+kernel
 exact this ⟨k,a⟩
theorem Jrl (c:UInt8)(r:List UInt8):Ko (c::r)=(decide ((c::r).length<=16)&&(letB c.toNat&&Yw (c::r))):=by
 have e:Ko (c::r)=(decide ((c::r).length<=16)&&(!digB c.toNat&&Yw (c::r))):=rfl;rw[e]
 cases a:Yw (c::r)with
 |false=>simp
 | true=>
   have b:okB c.toNat=true:=Ze.1 a c (by simp);rw[Jrj ⟨c.toNat,ZI _⟩ b]
mutual
def KH (has:Str->Bool):Ty->Bool
 | .mk k n ns ks=>if k=7 then Qq has ks else if k=8 then Qp has ks else if k=9 then has n else true
def Qp (has:Str->Bool):List Ty->Bool
 |[]=>false
 |t::r=>KH has t||Qp has r
def Qq (has:Str->Bool):List Ty->Bool
 |[]=>true
 |t::r=>KH has t&&Qq has r
end
def finR (l:List (Str×Ty)):Nat->List Str->List Str
 |0,has=>has
 |k+1,has=>finR l k ((l.filter fun p=>KH has.contains p.2).map Prod.fst)
theorem Jdg (l:List (Str×Ty))(k:Nat)(a:List Str):finR l (k+1) a=finR l k ((l.filter fun p=>KH a.contains p.2).map Prod.fst):=by rfl
theorem JfB (a:Str->Bool)(k:Int)(n:Str)(c:List Str)(b:List Ty):KH a (.mk k n c b)=if k=7 then Qq a b else if k=8 then Qp a b else if k=9 then a n else true:=by rfl
theorem JcA (a:Str->Bool):∀ks:List Ty,Qp a ks=ks.any fun t=>KH a t
 |[]=>by rfl
 |t::r=>by rw[Qp,JcA a r];rfl
theorem JcB (a:Str->Bool):∀ks:List Ty,Qq a ks=ks.all fun t=>KH a t
 |[]=>by rfl
 |t::r=>by rw[Qq,JcB a r];rfl
mutual
def YH (l:List (Str×Ty)):Ty->Bool
 | .mk k n ns ks=>(if k=6 then decide ((KL l (l.length+1) (ks.headD QD)).A=6)else false)||JaG l ks
def JaG (l:List (Str×Ty)):List Ty->Bool
 |[]=>false
 |t::r=>YH l t||JaG l r
end
theorem JjP (l:List (Str×Ty))(k:Int)(n:Str)(b:List Str)(a:List Ty):YH l (.mk k n b a)=((if k=6 then decide ((KL l (l.length+1) (a.headD QD)).A=6)else false)||JaG l a):=by rfl
theorem JfC (l:List (Str×Ty)):∀a:List Ty,JaG l a=a.any (YH l)
 |[]=>by rfl
 |t::r=>by rw[JaG,JfC l r];rfl
mutual
def okO :Ty->Bool
 | .mk k n ns ks=>(decide (k≠6)||decide (0<ks.length))&&okOs ks
def okOs :List Ty->Bool
 |[]=>true
 |t::r=>okO t&&okOs r
end
theorem JpB (k:Int)(n:Str)(b:List Str)(a:List Ty):okO (.mk k n b a)=((decide (k≠6)||decide (0<a.length))&&okOs a):=by rfl
theorem JfD :∀{c:List Ty},okOs c=true->∀t∈c,okO t=true
 |[],_,t,h=>by cases h
 | a::r,h,t,b=>by
   rw[okOs,Xk]at h;rcases Xq.1 b with rfl|b
   ·exact h.1
   ·exact JfD h.2 t b
mutual
theorem JfE (a:Str->Bool):∀(t:Ty) (f g:Nat),(mayS a t f g).1=0->okO t=true
 | .mk k n d b,f,g,h=>by
   rw[qy]at h
   split at h
   ·cases h
   split at h
   ·cases h
   split at h
   ·rename_i c;exact absurd h c
   rename_i c
   have c:ownS a (.mk k n d b)=0:=by simpa using c
   rw[JpB,Ja7 a b _ _ h,Gz];by_cases i:k=6
   ·have e:ownS a (.mk k n d b)=if k<1\/9<k then 1 else if b.length≠KS (.mk k n d b)\/(n≠[]/\k≠9)\/(0<d.length/\¬(k=7\/k=8))then 12 else if k=9/\a n=false then 15 else KG (.mk k n d b):=rfl;rw[e,Xa (by omega)]at c;by_cases j:b.length≠KS (.mk k n d b)\/(n≠[]/\k≠9)\/(0<d.length/\¬(k=7\/k=8))
    ·rw[Xe j]at c;cases c
    have:b.length=KS (.mk k n d b):=Xd fun h=>j (.inl h);have e:KS (.mk k n d b)=1:=by unfold KS;exact Xe (.inr (.inr i))
    rw[ZB];exact .inr (Xp (by omega))
   ·rw[ZB];exact .inl (Xp i)
theorem Ja7 (b:Str->Bool):∀(l:List Ty) (a d:Nat),(JE b l a d).1=0->okOs l=true
 |[],_,_,_=>by rw[okOs]
 | t::r,a,d,h=>by
   rw[Kg]at h
   split at h
   ·rename_i c;exact absurd h c
   rename_i c
   rw[okOs,JfE b t a d (by simpa using c),Ja7 b r _ _ h];rfl
end
def refS (s:Sch):Int:=
  if 12<s.a.length\/12<s.c.length then 3 else
  if Ka none (s.a.map Prod.fst)≠0 then Ka none (s.a.map Prod.fst)else
  if(JE (hasN s.a) (s.a.map Prod.snd) 1 0).1≠0 then(JE (hasN s.a) (s.a.map Prod.snd) 1 0).1 else
  if(mayS (hasN s.a) s.b 1 (JE (hasN s.a) (s.a.map Prod.snd) 1 0).2).1≠0 then(mayS (hasN s.a) s.b 1 (JE (hasN s.a) (s.a.map Prod.snd) 1 0).2).1 else
  if(Qv (hasN s.a) none s.c (mayS (hasN s.a) s.b 1 (JE (hasN s.a) (s.a.map Prod.snd) 1 0).2).2).1≠0 then(Qv (hasN s.a) none s.c (mayS (hasN s.a) s.b 1 (JE (hasN s.a) (s.a.map Prod.snd) 1 0).2).2).1 else
  if(finR s.a (s.a.length+1) []).length≠s.a.length then 14 else
  if(Qn s).any (YH s.a)then 17 else 0
theorem JcC {x:Row}{a b:Nat}{E:List V}(h:ldn x k (a+b)=some (.j E, .a)):ldn x (k+a) b=some (.j (E.drop a), .a):=by
 have d:∀l:List V,(if k+(a+b)<=l.length then some (V.j ((l.drop k).take (a+b)),Eff.a)else none)=some (.j E, .a)->(if k+a+b<=l.length then some (V.j ((l.drop (k+a)).take b),Eff.a)else none)=some (.j (E.drop a), .a):=fun l h=>by
  split at h
  ·rename_i c
   injection h with h;injection h with h _;injection h with h;rw[Xe (by omega),<-h,Gm,ZH];simp
  grind
 cases x with
 |a t l=>rw[Ym]at h⊢;grind
 |f l=>rw[JeX]at h⊢;grind
 |_=>cases h
theorem Jep {x:Row}{n j:Nat}{E:List V}(h:ldn x k n=some (.j E, .a))(c:j<n){v:V}(d:E[j]? =some v):ld1 x (k+j)=some (v, .a):=by
 have b:∀l:List V,(if k+n<=l.length then some (V.j ((l.drop k).take n),Eff.a)else none)=some (.j E, .a)->(l[k+j]?).map (fun v=>(v,Eff.a))=some (v, .a):=fun l h=>by grind
 cases x with
 |a t l=>rw[Ym]at h;rw[Ja1];grind
 |f l=>rw[JeX]at h;rw[JkX];grind
 |_=>cases h
theorem JpC (b:Str->Bool)(k:Int)(n:Str)(d:List Str)(c:List Ty)(a:Nat):Qc b (.mk k n d c) a=if 12<a then false else if k=9 then b n else if k=8 then kN b c (a+1)else if k=7 then kO b c (a+1)else true:=by rfl
mutual
theorem JfF (a h:Str->Bool):∀(t:Ty) (d m:Nat),(mayS h t d m).1=0->Qc a t d=KH a t
 | .mk k n o j,d,m,e=>by
   rw[qy]at e;by_cases l:400<m+1
   ·rw[Xe l]at e;cases e
   rw[Xa l]at e;by_cases b:12<d
   ·rw[Xe b]at e;cases e
   rw[Xa b]at e;by_cases c:ownS h (.mk k n o j)≠0
   ·rw[Xe c]at e;exact absurd e c
   rw[Xa c]at e;obtain⟨p,q⟩:=Jhg a h j (d+1) (m+1) e;rw[JpC,JfB,Xa b,p,q];by_cases f:k=9
   ·subst f;rfl
   by_cases g:k=8
   ·subst g;rfl
   by_cases i:k=7
   ·subst i;rfl
   rw[Xa f,Xa g,Xa i,Xa i,Xa g,Xa f]
theorem Jhg (a h:Str->Bool):∀(b:List Ty) (d m:Nat),(JE h b d m).1=0->kN a b d=Qp a b/\kO a b d=Qq a b
 |[],d,m,e=>⟨by rw[kN,Qp],by rw[kO,Qq]⟩
 | t::r,d,m,e=>by
   rw[Kg]at e
   split at e
   ·rename_i c;exact absurd e c
   rename_i c
   have c:(mayS h t d m).1=0:=by simpa using c
   obtain⟨f,g⟩:=Jhg a h r _ _ e;rw[kN,Qp,kO,Qq,JfF a h t d m c,f,g];exact⟨rfl,rfl⟩
end
theorem ja (h:Str->Bool):∀(f:List Ty) (d m:Nat),(JE h f d m).1=0->∀t∈f,∃g,(mayS h t d g).1=0
 |[],d,m,e,t,b=>by cases b
 | a::r,d,m,e,t,b=>by
   rw[Kg]at e
   split at e
   ·omega
   rename_i c
   have c:(mayS h a d m).1=0:=by omega
   rcases Xq.1 b with rfl|b
   ·grind
   ·exact ja h r _ _ e t b
mutual
theorem YR {p q:Str->Bool}(h:∀x,p x=true->q x=true):∀(t:Ty),KH p t=true->KH q t=true
 | .mk k n f a,e=>by
   rw[JfB]at e⊢;obtain⟨b,d⟩:=Jd1 h a
   split
   ·rename_i c;rw[Xe c]at e;exact d e
   rename_i c;rw[Xa c]at e
   split
   ·rename_i c;rw[Xe c]at e;exact b e
   rename_i c;rw[Xa c]at e
   split
   ·rename_i c;rw[Xe c]at e;exact h _ e
   ·rfl
theorem Jd1 {p q:Str->Bool}(h:∀x,p x=true->q x=true):∀(c:List Ty),(Qp p c=true->Qp q c=true)/\(Qq p c=true->Qq q c=true)
 |[]=>⟨fun e=>(by rw[Qp]at e;cases e),fun _=>(by rw[Qq])⟩
 | t::r=>by
   obtain⟨f,g⟩:=Jd1 h r;have d:=YR h t;rw[Qp,Qp,Qq,Qq,ZB,ZB,Xk,Xk];exact⟨fun e=>e.elim (fun a=> .inl (d a)) fun b=> .inr (f b),fun e=>⟨d e.1,g e.2⟩⟩
end
def Jbs (l:List (Str×Ty))(has:List Str):List Str:=(l.filter fun p=>KH has.contains p.2).map Prod.fst
theorem Qr (l:List (Str×Ty)):∀(k:Nat) (a:List Str),finR l (k+1) a=Jbs l (finR l k a)
 |0,a=>by rfl
 |k+1,a=>by rw[Jdg,Qr l k,Jdg]
theorem JcD {x:Str}:(Jbs t K).contains x=true<->∃p∈t,p.1=x/\KH K.contains p.2=true:=by
 unfold Jbs;rw[Gu,Xz];constructor
 ·grind
 ·rintro⟨p,a,b,c⟩
  grind
theorem JnE {b:List Str}(h:∀x,K.contains x=true->b.contains x=true):∀x,(Jbs t K).contains x=true->(Jbs t b).contains x=true:=fun x e=>by
 obtain⟨p,c,d,f⟩:=JcD.1 e;exact JcD.2 ⟨p,c,d,YR h _ f⟩
theorem JmX (l:List (Str×Ty)):∀(k:Nat) (x:Str),(finR l k []).contains x=true->(finR l (k+1) []).contains x=true
 |0,x,h=>by rw[finR]at h;cases h
 | k+1,x,h=>by
   rw[Qr]at h;rw[Qr];exact JnE (JmX l k) x h
theorem Jhh {α:Type}{p q:α->Bool}:∀{l:List α},(∀x∈l,q x=true->p x=true)->(l.filter q).length<=(l.filter p).length
 |[],_=>Xb _
 | a::r,h=>by
   have c:=Jhh (l:=r) fun x b=>h x (Xi _ b)
   grind
theorem JaH {α:Type}{p q:α->Bool}:∀{l:List α},(∀x∈l,q x=true->p x=true)->(l.filter p).length<=(l.filter q).length->l.filter p=l.filter q
 |[],_,_=>rfl
 | a::r,h,b=>by
   have e:∀x∈r,q x=true->p x=true:=fun x f=>h x (Xi _ f);by_cases c:q a=true
   ·have d:=h a (by simp) c;simp[List.filter,c,d]at b⊢;rw[JaH e (by omega)]
   ·have c:q a=false:=by grind
    by_cases d:p a=true
    ·simp[List.filter,c,d]at b;have:=Jhh e;omega
    ·have d:p a=false:=by grind
     simp[List.filter,c,d]at b⊢;exact JaH e b
theorem Jhi (l:List (Str×Ty)):∀k:Nat,k<=(finR l k []).length\/∃j,j<k/\finR l (j+1) []=finR l j []
 |0=> .inl (XC _)
 | k+1=>by
   rcases Jhi l k with h|⟨j,o,q⟩
   ·by_cases e:finR l (k+1) []=finR l k []
    ·grind
    ·left
     cases k with
     | zero=>
       cases c:finR l 1 []with
       |nil=>rw[c,finR]at e;grind
       |cons a r=>simp
     | succ k=>
       have up:=JmX l k;have d:=Qr l k [];have hC:=Qr l (k+1) [];obtain⟨A,f⟩:∃A,A=finR l k []:=⟨_,rfl⟩
       obtain⟨B,g⟩:∃B,B=finR l (k+1) []:=⟨_,rfl⟩
       rw[<-f]at up d;rw[<-g]at up d hC h e;rw[hC]at e⊢;refine Nat.lt_of_not_le fun i=>e ?_;have b:(Jbs l B).length<=B.length:=by omega
       rw[d]at b
       conv=>rhs;rw[d]
       rw[<-d]at b;unfold Jbs at b⊢;congr 1;refine JaH (fun x _ m=>YR up _ m) ?_;rw[Xr]at b;have n:B.length=(l.filter fun p=>KH A.contains p.2).length:=by rw[d];unfold Jbs;simp
       omega
   grind
theorem JpD (l:List (Str×Ty)):∀k:Nat,(finR l k []).length<=l.length
 |0=>by rw[finR];simp
 | k+1=>by
   rw[Qr];unfold Jbs
   grind
theorem Jdh {l:List (Str×Ty)}{j:Nat}(h:finR l (j+1) []=finR l j []):∀i,finR l (j+i) []=finR l j []
 |0=>rfl
 | i+1=>by
   rw[<-ZZ,Qr,Jdh h i,<-Qr,h]
theorem JjQ (l:List (Str×Ty)):finR l (l.length+1) []=finR l l.length []:=by
 rcases Jhi l (l.length+1)with h|⟨j,d,c⟩
 ·have:=JpD l (l.length+1);omega
 ·have a:=Jdh c (l.length-j);have b:=Jdh c (l.length+1-j)
  grind
theorem JjR :∀(r:List (Str×Ty)) (a:List (Str×Bool)) (x:Str),gB x a=true->gB x (KX r a)=true
 |[],a,x,h=>by rw[KX];exact h
 | (n,t)::r,a,x,h=>by
   rw[KX];refine JjR r _ x ?_;rw[Jbr]
   grind
theorem JjS :∀(r:List (Str×Ty)) (b a:List (Str×Bool)),(∀x,gB x a=true->gB x b=true)->(∀p∈r,∀f,Qc f p.2 1=KH f p.2)->∀p∈r,KH (fun x=>gB x a) p.2=true->gB p.1 (KX r b)=true
 |[],b,a,h,d,p,c,e=>by cases c
 | (n,t)::r,b,a,h,d,p,c,e=>by
   rw[KX];rcases Xq.1 c with rfl|c
   ·refine JjR r _ _ ?_;rw[Jbr,Xe rfl,d (n,t) (by simp),YR h _ e,Bool.or_true]
   ·refine JjS r _ a (fun x g=> ?_) (fun p c=>d p (Xi _ c)) p c e;rw[Jbr]
    grind
theorem JjT {l:List (Str×Ty)}{L:Str->Bool}(hL:∀p∈l,KH L p.2=true->L p.1=true):∀(r:List (Str×Ty)) (a:List (Str×Bool)),(∀p∈r,p∈l)->(∀p∈r,∀f,Qc f p.2 1=KH f p.2)->(∀x,gB x a=true->L x=true)->∀x,gB x (KX r a)=true->L x=true
 |[],a,d,g,h,x,c=>by rw[KX]at c;grind
 | (n,t)::r,a,d,g,h,x,c=>by
   rw[KX]at c;refine JjT hL r _ (fun p i=>d p (Xi _ i)) (fun p i=>g p (Xi _ i)) (fun y b=> ?_) x c;rw[Jbr]at b
   split at b
   ·rename_i e
    rw[ZB]at b;rcases b with b|b
    ·grind
    ·rw[g (n,t) (by simp)]at b;rw[e];exact hL (n,t) (d _ (by simp)) (YR h _ b)
   grind
theorem Jhj {l:List (Str×Ty)}{L:Str->Bool}(hL:∀p∈l,KH L p.2=true->L p.1=true)(c:∀p∈l,∀f,Qc f p.2 1=KH f p.2):∀(k:Nat) (a:List (Str×Bool)),(∀x,gB x a=true->L x=true)->∀x,gB x (Km l k a)=true->L x=true
 |0,a,h,x,b=>by rw[Km]at b;grind
 | k+1,a,h,x,b=>by
   rw[Km]at b;exact Jhj hL c k _ (JjT hL l a (fun p d=>d) c h) x b
theorem Jhk {l:List (Str×Ty)}(b:∀p∈l,∀f,Qc f p.2 1=KH f p.2):∀(k j:Nat) (a:List (Str×Bool)),(∀x,(finR l j []).contains x=true->gB x a=true)->∀x,(finR l (j+k) []).contains x=true->gB x (Km l k a)=true
 |0,j,a,h,x,d=>by rw[Km];grind
 | k+1,j,a,h,x,d=>by
   rw[Km];refine Jhk b k (j+1) _ (fun y c=> ?_) x (by grind);rw[Qr]at c;obtain⟨p,e,g,i⟩:=JcD.1 c;rw[<-g];exact JjS l a a (fun _ h=>h) b p e (YR h _ i)
theorem Jlf (c:∀p∈t,∀f,Qc f p.2 1=KH f p.2):(fun x=>gB x (Km t t.length []))=fun x=>(finR t (t.length+1) []).contains x:=by
 funext x;have a:=JjQ t;have g:gB x (Km t t.length [])=true->(finR t (t.length+1) []).contains x=true:=fun h=>by
  refine Jhj (L:=fun x=>(finR t (t.length+1) []).contains x) (fun p d e=> ?_) c t.length [] (fun y b=>by cases b) x h;rw[a]at e;show(finR t (t.length+1) []).contains p.1=true;rw[Qr];exact JcD.2 ⟨p,d,rfl,e⟩
 have i:(finR t (t.length+1) []).contains x=true->gB x (Km t t.length [])=true:=fun h=>by
  rw[a]at h;refine Jhk c t.length 0 [] (fun y b=>by rw[finR]at b;cases b) x ?_
  grind
 grind
theorem Jtn (a:(JE (hasN t) (t.map Prod.snd) 1 0).1=0)(b:(mayS (hasN t) X 1 0).1=0):finS t X=KH (fun x=>(finR t (t.length+1) []).contains x) X:=by
 unfold finS;rw[Xa (fun k=>k a),Xa (fun k=>k b),JfF _ _ X 1 0 b];rw[Jlf fun p c f=>by
  obtain⟨d,e⟩:=ja _ _ _ _ a p.2 (Xz.2 ⟨p,c,rfl⟩);exact JfF f _ p.2 1 d e]
end Eva
