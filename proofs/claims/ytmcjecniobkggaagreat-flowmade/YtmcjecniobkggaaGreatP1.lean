/- Functions by contracts that read memory. strings.Join, as a hook that reads memory. 'Su -/
import Derived.Test.YtmcjecniobkggaaGreatEvd9
import Derived.Lib.Join
import Derived.ChangeArms
set_option linter.constructorNameAsVariable false
set_option linter.unusedVariables false
set_option linter.unusedSimpArgs false
set_option linter.unusedSectionVars false
set_option maxRecDepth 100000
namespace Eva
open Go Go.RowKit
variable {t:List (Str×Ty)}{k:Nat}{b:Pt->Prop}{d:List V}{i:List (List V)}{q M:St}{p:Str->Bool}{j:List Value}{a:V}{u:Tb}{T:Pt}{U:Value}{K:List Str}{N:Sch}{O:V->St->Prop}{X:Ty}{Y:St->List V->Prop}{Z:World}
noncomputable def Jap (g:List V->St->Option V):E:={b:=fun _ args st=>match g args st with
 |some v=>some (v,st)
 |none=>none}
section
variable {P : Program} {ρ : Nat -> Value} {base : Bs}
theorem Jja {f : Nat} {fn : Func} (h1 : P.funcs[f]? = some fn) (h2 : fn.body.isSome = true) (h3 : fn.name ≠ "runtime.NumGoroutine") {g : List V -> St -> Option V}
  (hc:∀args st v,g args st=some v->∀γ c w xs,RL γ ρ args xs->Rel γ ρ base c w->Full γ c st->Calls P f xs.toArray w fun e w'=>∃y,e= .returned y/\R γ ρ v y/\Below w.heap.size w w'):
  KQ P ρ base f (Jap g).b:=by
 intro self _ args st v st' he hw;have he:(match g args st with
  |some v=>some (v,st)
  |none=>none)=some (v,st'):=he
 split at he
 ·rename_i u hg
  injection he with he;injection he with e1 e2;subst e1;subst e2;refine⟨Mono.B hw,⟨fn,h1,h2,h3⟩,fun γ c w xs hx hrel hfull _=> ?_⟩;refine(hc args st u hg γ c w xs hx hrel hfull).mono fun e w' ⟨y,e1,e2,e3⟩=> ?_;exact⟨y,γ,c,e1,e2,hrel.below e3,Ext.A _,fun _ k=> .inl k,fun _ _=>rfl,fun _ k=>absurd rfl k,e3.mono hrel.y⟩
 grind
theorem JgG {γ:Locs}{c:Pt->Row}(j:Rel γ ρ base c Z)(P:Full γ c q){m:Loc}(Q:γ T=some m){n:Nat}(h:Kw q n (.e T k)=some d):
  d.length=n/\∀i v,d[i]? =some v->∃x,Z.cell? ⟨m.b,m.o+k+i,none⟩=some x/\R γ ρ v x:=by
 unfold Kw at h;simp at h;have get:∀(l:List V),k+n<=l.length->∀i v,((l.drop k).take n)[i]? =some v->l[k+i]? =some v:=fun l y i v z=>by grind
 split at h
 ·rename_i t l y
  split at h
  ·rename_i p
   injection h with h;subst h;refine⟨by grind,fun i v z=> ?_⟩;have K:c T= .a t l:=by rw[P T (by grind) (by grind),y]
   obtain⟨W,g,s⟩:=j.f T (by grind);rw[Q]at g;injection g with g;subst g;rw[K]at s;obtain⟨L,u,X,M,S,U,Y,m5⟩:=s;obtain⟨x,N,O⟩:=Y _ _ (get l p i v z);refine⟨x, ?_,O⟩;rw[show m.o+k+i=m.o+(k+i) by omega];simp[World.cell?,M,N]
  grind
 ·rename_i l y
  split at h
  ·rename_i p
   injection h with h;subst h;refine⟨by grind,fun i v z=> ?_⟩;have K:c T= .f l:=by rw[P T (by grind) (by grind),y]
   obtain⟨W,g,s⟩:=j.f T (by grind);rw[Q]at g;injection g with g;subst g;rw[K]at s;obtain⟨L,u,X,x,M,S,U⟩:=s _ _ (get l p i v z);refine⟨x, ?_,U⟩;rw[show m.o+k+i=m.o+(k+i) by omega];simp[World.cell?,M,S]
  grind
 grind
end
def jg {α:Type}(p:α->Bool):List α->Option Nat
 |[]=>none
 | x::r=>match jg p r with
   |some i=>some (i+1)
   |none=>if p x then some 0 else none
theorem Y0 {α:Type}{p:α->Bool}:∀{l:List α} {i:Nat},jg p l=some i->∃h:i<l.length,p l[i]=true/\∀j (c:j<l.length),i<j->p l[j]=false
 |[],_,h=>by cases h
 | x::r,i,h=>by
   unfold jg at h
   cases b:jg p r with
   | some k=>
     rw[b]at h;injection h with h;subst h;obtain⟨e,f,g⟩:=Y0 b
     grind
   | none=>
     rw[b]at h;simp only[]at h
     split at h
     ·rename_i m
      injection h with h;subst h;refine⟨by simp,by grind,fun j c d=> ?_⟩
      cases j with
      |zero=>omega
      |succ j=>simpa using a b _ (Xh (by grind))
     grind
where a {α:Type} {p:α->Bool}:∀{l:List α},jg p l=none->∀x∈l,p x=false
 |[],_,x,hx=>by cases hx
 | y::r,h,x,hx=>by
   unfold jg at h
   cases hr:jg p r with
   |some k=>grind
   | none=>
     rw[hr]at h;simp only[]at h
     split at h
     ·cases h
     ·rename_i hp
      rcases Xw.1 hx with e|e
      ·grind
      ·exact a hr x e
def kJ :List V->Option (List (Nat×Nat×Int))
 |[]=>some []
 | .t n v:: .d .i64 t::r=>(kJ r).map fun l=>(n,v,t)::l
 |_=>none
theorem Je1 :∀{a:List V} {l:List (Nat×Nat×Int)},kJ a=some l->a.length=2*l.length/\∀i (h:i<l.length),a[2*i]? =some (.t l[i].1 l[i].2.1)/\a[2*i+1]? =some (.d .i64 l[i].2.2)
 |[],l,h=>by injection h with h;grind
 | .t n v:: .d .i64 t::r,l,h=>by
   simp only[kJ]at h
   cases b:kJ r with
   |none=>grind
   | some m=>
     rw[b]at h;injection h with h;subst h;obtain⟨c,e⟩:=Je1 b
     grind
def Je2 :List V->St->Option V
 | [.j [.d .i64 _,vars,nar], .t n v],st=>match slen nar with
   |none=>none
   | some _=>match slen vars with
     |none=>none
     | some k=>if 100000<k then none else if n=0 then some (.p [.d .i64 (-1), .h true])else match(JA st 2 k vars).bind kJ with
       |none=>none
       | some l=>match jg (fun p=>p.1==n&&p.2.1==v) l with
         |some i=>some (.p [.d .i64 i, .h true])
         |none=>some (.p [.d .i64 (-1), .h false])
 |_,_=>none
def Jbv (w:World)(a:Option Addr)(zs:List (ByteArray×Int)):Prop:=
 zs=[]\/∃b off,a=some ⟨b,off,none⟩/\b<w.heap.size/\∀j (h:j<zs.length),w.cell? ⟨b,off+2*j,none⟩=some (.string zs[j].1)/\w.cell? ⟨b,off+2*j+1,none⟩=some (.int .i64 zs[j].2)
theorem Jme {ρ:Nat->Value}{L:Bs}{γ:Locs}{c:Pt->Row}(u:Rel γ ρ L c Z)(hf:Full γ c q)(M:R γ ρ a U)(t:slen a=some k)(v:JA q 2 k a=some d)
  {l:List (Nat×Nat×Int)} (hl:kJ d=some l):l.length=k/\∃f g n,U= .slice f k g/\n.length=k/\Jbv Z f n/\∀i (h:i<l.length) (N:i<n.length),n[i].1.data.toList.length=l[i].1/\snum n[i].1.data.toList=l[i].2.1/\n[i].2=l[i].2.2:=by
 obtain⟨p1,p2⟩:=Je1 hl;have y:k=0->∀f g,U= .slice f k g->d.length=2*k->l.length=k/\∃f g n,U= .slice f k g/\n.length=k/\Jbv Z f n/\∀i (h:i<l.length) (N:i<n.length),n[i].1.data.toList.length=l[i].1/\snum n[i].1.data.toList=l[i].2.1/\n[i].2=l[i].2.2:=by
  intro T f g M P;exact⟨by omega,f,g,[],M,by simp[T], .inl rfl,fun i h N=>by omega⟩
 have W:∀r o K g p,γ r=some p->U= .slice (some K) k g->k<=g->(g≠0->K=⟨p.b,p.o+o,none⟩)->Kw q (k*2) (.e r o)=some d->l.length=k/\∃f g n,U= .slice f k g/\n.length=k/\Jbv Z f n/\∀i (h:i<l.length) (N:i<n.length),n[i].1.data.toList.length=l[i].1/\snum n[i].1.data.toList=l[i].2.1/\n[i].2=l[i].2.2:=by
  intro r o K g p X N h3 h4 h5;obtain⟨q1,Y⟩:=JgG u hf X h5;by_cases T:k=0
  ·grind
  have Q:l.length=k:=by omega
  have S:=h4 (by omega);refine⟨Q,some K,g, ?_⟩;have O:∀i,∃z:ByteArray×Int,∀h:i<l.length,Z.cell? ⟨p.b,p.o+o+2*i,none⟩=some (.string z.1)/\Z.cell? ⟨p.b,p.o+o+2*i+1,none⟩=some (.int .i64 z.2)/\z.1.data.toList.length=l[i].1/\snum z.1.data.toList=l[i].2.1/\z.2=l[i].2.2:=fun i=>by
   by_cases h:i<l.length
   ·obtain⟨r1,r2⟩:=p2 i h;obtain⟨x1,a1,s,a2,a3,a4⟩:=Y _ _ r1;obtain⟨x2,b1,b2⟩:=Y _ _ r2;have b2:x2= .int .i64 l[i].2.2:=b2;exact⟨(s,l[i].2.2),fun _=>⟨by grind,by grind,a3,a4,rfl⟩⟩
   ·exact⟨default,fun k=>absurd k h⟩
  refine⟨(List.range k).map fun i=>Classical.choose (O i),N,by simp, .inr ⟨p.b,p.o+o,by rw[S],(u.d r p X).2,fun j hj=> ?_⟩,fun i hi aa=> ?_⟩
  ·grind
  grind
 unfold slen at t
 split at t
 ·injection t with t;subst t;have P:d=[]:=by simpa[JA]using v.symm
  exact y rfl none 0 M (by grind)
 ·rename_i r o m z
  injection t with t;subst t;unfold JA at v;simp only[]at v
  split at v
  ·obtain⟨p,K,cp,k1,k2,k3,k4,_⟩:=M
   grind
  grind
 ·rename_i r o m z cp
  injection t with t;subst t;unfold JA at v;simp only[]at v
  split at v
  ·obtain⟨p,K,k1,k2,k3,k4,_⟩:=M
   grind
  grind
 grind
theorem qM {γ:Locs}{ρ:Nat->Value}(d:R γ ρ a U)(c:slen a=some k):∃b e,U= .slice b k e:=by
 unfold slen at c
 split at c
 ·injection c with c;subst c;exact⟨none,0,d⟩
 ·injection c with c;subst c;obtain⟨f,g,j,h,i,_⟩:=d
  grind
 ·injection c with c;subst c;obtain⟨f,g,h,i,_⟩:=d
  grind
 grind
def JgH (P:Program)(f:Nat):Prop:=∀(w:World) (d:Int) (a:Option Addr) (cap:Nat) (b:Option Addr) (m cap2:Nat) (s:ByteArray) (zs:List (ByteArray×Int)),zs.length<=100000->(s.size≠0->Jbv w a zs)->
 Calls P f #[.agg #[.int .i64 d, .slice a zs.length cap, .slice b m cap2], .string s] w fun e w'=>Below w.heap.size w w'/\
  ((s.size=0/\e= .returned (.tuple #[.int .i64 (-1), .bool true]))\/
   (s.size≠0/\∃k:Nat,∃h:k<zs.length,e= .returned (.tuple #[.int .i64 k, .bool true])/\zs[k].1=s/\∀j (hj:j<zs.length),k<j->zs[j].1≠s)\/
   (s.size≠0/\e= .returned (.tuple #[.int .i64 (-1), .bool false])/\∀j (hj:j<zs.length),zs[j].1≠s))
theorem JrS {a b:ByteArray}(c:a.data.toList.length=b.data.toList.length)(d:snum a.data.toList=snum b.data.toList):a=b:=by
 have:=kY c d
 cases a;simp_all
theorem Jjb {P : Program} {ρ : Nat -> Value} {base : Bs} {f : Nat} {fn : Func} (h1 : P.funcs[f]? = some fn) (h2 : fn.body.isSome = true) (h3 : fn.name ≠ "runtime.NumGoroutine") (hp : JgH P f) : KQ P ρ base f (Jap Je2).b :=
 Jja h1 h2 h3 fun args st v hv γ c w xs hx hrel hf=>by
  unfold Je2 at hv
  split at hv
  ·rename_i st d vars nar n u
   obtain⟨y,ys,e1,⟨fs,e2,d',fs1,e3,ed,sv,fs2,e4,hsv,nv,fs3,e5,hnv,e6⟩,y',ys',e7,⟨s,e8,e9,e10⟩,e11⟩:=hx;simp[RL]at e6 e11;have ed:d'= .int .i64 d:=ed;subst e11;subst e8;subst e7;subst e6;subst e5;subst e4;subst ed;subst e3;subst e2;subst e1;have hsz:s.size=n:=by simp_all
   split at hv
   ·cases hv
   rename_i m hm
   obtain⟨b,cap2,eb⟩:=qM hnv hm;subst eb
   split at hv
   ·cases hv
   rename_i k hk
   split at hv
   ·cases hv
   rename_i hle
   split at hv
   ·rename_i hn
    injection hv with hv;subst hv;obtain⟨a,cap,ea⟩:=qM hsv hk;subst ea;obtain⟨zs,hz⟩:∃zs:List (ByteArray×Int),zs.length=k:=⟨List.replicate k default,by simp⟩
    subst hz;have:=hp w d a cap b m cap2 s zs (by omega) (fun e=>absurd (by omega) e);refine this.mono fun e w' ⟨hb,h⟩=> ?_;rcases h with⟨_,e1⟩|⟨h,_⟩|⟨h,_⟩
    ·exact⟨_,e1,⟨[.int .i64 (-1), .bool true],rfl,_,_,rfl,rfl,_,_,rfl,rfl,rfl⟩,hb⟩
    ·omega
    omega
   ·rename_i hn
    split at hv
    ·cases hv
    rename_i l hl
    obtain⟨cs,hcs,hl⟩:=Zz.1 hl;obtain⟨hlk,a,cap,zs,ea,hz,hva,hzs⟩:=Jme hrel hf hsv hk hcs hl;subst ea;subst hz;refine(hp w d a cap b m cap2 s zs (by omega) (fun _=>hva)).mono fun e w' ⟨hb,h⟩=> ?_;have key:∀i (h:i<l.length) (h2:i<zs.length),(zs[i].1=s<->(l[i].1==n&&l[i].2.1==u)=true):=fun i h h2=>by
     obtain⟨q1,q2,_⟩:=hzs i h h2;simp[ZB];constructor
     ·grind
     ·rintro⟨a1,a2⟩;exact JrS (by omega) (by omega)
    split at hv
    ·rename_i i hi
     injection hv with hv;subst hv;obtain⟨i1,i2,i3⟩:=Y0 hi;have a1:=(key i i1 (by omega)).2 i2;rcases h with⟨h,_⟩|⟨_,j,hj,e1,e2,e3⟩|⟨_,e1,e2⟩
     ·omega
     ·have:i=j:=by grind
      subst this;exact⟨_,e1,⟨[_,_],rfl,_,_,rfl,rfl,_,_,rfl,rfl,rfl⟩,hb⟩
     grind
    ·rename_i hi
     injection hv with hv;subst hv;have no:=Y0.a hi;rcases h with⟨h,_⟩|⟨_,j,hj,e1,e2,e3⟩|⟨_,e1,e2⟩
     ·omega
     ·grind
     ·exact⟨_,e1,⟨[_,_],rfl,_,_,rfl,rfl,_,_,rfl,rfl,rfl⟩,hb⟩
  grind
def Jaq :List V->Option (List Int)
 |[]=>some []
 | .d .i64 v::p:: .d .i64 _::r=>if(slen p).isSome then(Jaq r).map fun l=>v::l else none
 |_=>none
theorem JgI :∀{a:List V} {l:List Int},Jaq a=some l->a.length=3*l.length/\∀i (h:i<l.length),a[3*i]? =some (.d .i64 l[i])/\(∃p k,a[3*i+1]? =some p/\slen p=some k)/\∃t,a[3*i+2]? =some (.d .i64 t)
 |[],l,h=>by injection h with h;grind
 | .d .i64 v::p:: .d .i64 t::r,l,h=>by
   simp only[Jaq]at h
   split at h
   ·rename_i c
    cases b:Jaq r with
    |none=>grind
    | some m=>
      rw[b]at h;injection h with h;subst h;obtain⟨e,f⟩:=JgI b;obtain⟨k,g⟩:=Zw.1 c;refine⟨by grind,fun i j=> ?_⟩
      cases i with
      |zero=>grind
      | succ i=>
        grind
   grind
abbrev Nar :=Int×(Option Addr×Nat×Nat)×Int
def qN (w:World)(a:Option Addr)(ns:List Nar):Prop:=
 ns=[]\/∃b off,a=some ⟨b,off,none⟩/\b<w.heap.size/\∀j (h:j<ns.length),w.cell? ⟨b,off+3*j,none⟩=some (.int .i64 ns[j].1)/\w.cell? ⟨b,off+3*j+1,none⟩=some (.slice ns[j].2.1.1 ns[j].2.1.2.1 ns[j].2.1.2.2)/\w.cell? ⟨b,off+3*j+2,none⟩=some (.int .i64 ns[j].2.2)
theorem Jqx {ρ:Nat->Value}{M:Bs}{γ:Locs}{c:Pt->Row}(v:Rel γ ρ M c Z)(hf:Full γ c q)(N:R γ ρ a U)(u:slen a=some k)(y:JA q 3 k a=some d)
  {l:List Int} (hl:Jaq d=some l):l.length=k/\∃f g s,U= .slice f k g/\s.length=k/\qN Z f s/\∀i (h:i<l.length) (O:i<s.length),s[i].1=l[i]:=by
 obtain⟨p1,p2⟩:=JgI hl;have K:k=0->∀f g,U= .slice f k g->d.length=3*k->l.length=k/\∃f g s,U= .slice f k g/\s.length=k/\qN Z f s/\∀i (h:i<l.length) (O:i<s.length),s[i].1=l[i]:=by
  intro X f g N Q;exact⟨by omega,f,g,[],N,by simp[X], .inl rfl,fun i h O=>by omega⟩
 have Y:∀r o L g n,γ r=some n->U= .slice (some L) k g->k<=g->(g≠0->L=⟨n.b,n.o+o,none⟩)->Kw q (k*3) (.e r o)=some d->l.length=k/\∃f g s,U= .slice f k g/\s.length=k/\qN Z f s/\∀i (h:i<l.length) (O:i<s.length),s[i].1=l[i]:=by
  intro r o L g n h1 O h3 h4 h5;obtain⟨q1,S⟩:=JgG v hf h1 h5;by_cases X:k=0
  ·grind
  have T:l.length=k:=by omega
  have W:=h4 (by omega);refine⟨T,some L,g, ?_⟩;have P:∀i,∃z:Nar,∀h:i<l.length,Z.cell? ⟨n.b,n.o+o+3*i,none⟩=some (.int .i64 z.1)/\Z.cell? ⟨n.b,n.o+o+3*i+1,none⟩=some (.slice z.2.1.1 z.2.1.2.1 z.2.1.2.2)/\Z.cell? ⟨n.b,n.o+o+3*i+2,none⟩=some (.int .i64 z.2.2)/\z.1=l[i]:=fun i=>by
   by_cases h:i<l.length
   ·obtain⟨r1,⟨p,m,r2,r3⟩,t,r4⟩:=p2 i h;obtain⟨x1,a1,a2⟩:=S _ _ r1;obtain⟨x2,b1,b2⟩:=S _ _ r2;obtain⟨x3,c1,c2⟩:=S _ _ r4;obtain⟨pa,pc,rfl⟩:=qM b2 r3;have a2:x1= .int .i64 l[i]:=a2;have c2:x3= .int .i64 t:=c2;exact⟨(l[i],(pa,m,pc),t),fun _=>⟨by grind,by omega,by grind,rfl⟩⟩
   ·exact⟨default,fun k=>absurd k h⟩
  refine⟨(List.range k).map fun i=>Classical.choose (P i),O,by simp, .inr ⟨n.b,n.o+o,by rw[W],(v.d r n h1).2,fun j hj=> ?_⟩,fun i hi aa=> ?_⟩
  ·grind
  grind
 unfold slen at u
 split at u
 ·injection u with u;subst u;have Q:d=[]:=by simpa[JA]using y.symm
  exact K rfl none 0 N (by grind)
 ·rename_i r o m z
  injection u with u;subst u;unfold JA at y;simp only[]at y
  split at y
  ·obtain⟨n,L,cp,k1,k2,k3,k4,_⟩:=N
   grind
  grind
 ·rename_i r o m z cp
  injection u with u;subst u;unfold JA at y;simp only[]at y
  split at y
  ·obtain⟨n,L,k1,k2,k3,k4,_⟩:=N
   grind
  grind
 grind
def setG :List V->St->Option V
 | [_, .j [.d .i64 _,vars,nar], .t n v, .d .i64 id],st=>match slen vars,slen nar with
   | some k,some m=>if 100000<k\/100000<m then none else match(JA st 2 k vars).bind kJ,(JA st 3 m nar).bind Jaq with
     | some l,some q=>some (.d .i64 (match jg (fun p=>p.1==n&&p.2.1==v) l with
       |none=>15
       |some i=>if(l.getD i default).2.2=id/\q.contains (i:Int)=false then 0 else 17))
     |_,_=>none
   |_,_=>none
 |_,_=>none
def Jmf (P:Program)(f:Nat):Prop:=∀(w:World) (pw:Value) (d:Int) (a:Option Addr) (cap:Nat) (b:Option Addr) (cap2:Nat) (s:ByteArray) (id:Int) (zs:List (ByteArray×Int)) (ns:List Nar),zs.length<=100000->ns.length<=100000->Jbv w a zs->qN w b ns->
 Calls P f #[pw, .agg #[.int .i64 d, .slice a zs.length cap, .slice b ns.length cap2], .string s, .int .i64 id] w fun e w'=>Below w.heap.size w w'/\
  ((∃k:Nat,∃h:k<zs.length,zs[k].1=s/\(∀j (hj:j<zs.length),k<j->zs[j].1≠s)/\
    (((zs[k].2≠id\/∃j,∃hj:j<ns.length,ns[j].1=(k:Int))/\e= .returned (.int .i64 17))\/((zs[k].2=id/\∀j (hj:j<ns.length),ns[j].1≠(k:Int))/\e= .returned (.int .i64 0))))\/
   (e= .returned (.int .i64 15)/\∀j (hj:j<zs.length),zs[j].1≠s))
theorem JoV {P : Program} {ρ : Nat -> Value} {base : Bs} {f : Nat} {fn : Func} (h1 : P.funcs[f]? = some fn) (h2 : fn.body.isSome = true) (h3 : fn.name ≠ "runtime.NumGoroutine") (hp : Jmf P f) : KQ P ρ base f (Jap setG).b :=
 Jja h1 h2 h3 fun args st v hv γ c w xs hx hrel hf=>by
  unfold setG at hv
  split at hv
  ·rename_i st pw d vars nar n u id
   obtain⟨y0,ys0,e0,hpw,y,ys,e1,⟨fs,e2,d',fs1,e3,ed,sv,fs2,e4,hsv,nv,fs3,e5,hnv,e6⟩,y',ys',e7,⟨s,e8,e9,e10⟩,y2,ys2,e12,eid,e11⟩:=hx;simp[RL]at e6 e11;have ed:d'= .int .i64 d:=ed;have eid:y2= .int .i64 id:=eid;subst e11;subst eid;subst e12;subst e8;subst e7;subst e6;subst e5;subst e4;subst ed;subst e3;subst e2;subst e1;subst e0
   split at hv
   ·rename_i k m hk hm
    split at hv
    ·cases hv
    rename_i hle
    split at hv
    ·rename_i l q hl hq
     obtain⟨cs,hcs,hl⟩:=Zz.1 hl;obtain⟨ds,hds,hq⟩:=Zz.1 hq;obtain⟨hlk,a,cap,zs,ea,hz,hva,hzs⟩:=Jme hrel hf hsv hk hcs hl;obtain⟨hqm,b,cap2,ns,eb,hn,hna,hns⟩:=Jqx hrel hf hnv hm hds hq;subst ea;subst eb;subst hz;subst hn;injection hv with hv;subst hv;refine(hp w y0 d a cap b cap2 s id zs ns (by omega) (by omega) hva hna).mono fun e w' ⟨hb,h⟩=> ?_;have key:∀i (h:i<l.length) (h2:i<zs.length),(zs[i].1=s<->(l[i].1==n&&l[i].2.1==u)=true):=fun i h h2=>by
      obtain⟨q1,q2,_⟩:=hzs i h h2;simp[ZB];constructor
      ·grind
      ·rintro⟨a1,a2⟩;exact JrS (by omega) (by omega)
     have kn:∀i:Int,q.contains i=true<->∃j,∃hj:j<ns.length,ns[j].1=i:=fun i=>by
      rw[ZW,ZM]
      grind
     split
     ·rename_i hi
      have no:=Y0.a hi;rcases h with⟨k,hk,e1,_⟩|⟨e1,_⟩
      ·grind
      ·exact⟨_,e1,rfl,hb⟩
     ·rename_i i hi
      obtain⟨i1,i2,i3⟩:=Y0 hi;have a1:=(key i i1 (by omega)).2 i2;rcases h with⟨k,hk,e1,e2,h⟩|⟨_,h⟩
      ·have:i=k:=by grind
       subst this;have ht:(l.getD i default).2.2=zs[i].2:=by grind
       rw[ht];rcases h with⟨h,e3⟩|⟨⟨h,h'⟩,e3⟩
       ·rw[Xa]
        ·exact⟨_,e3,rfl,hb⟩
        grind
       ·rw[Xd]
        ·exact⟨_,e3,rfl,hb⟩
        grind
      grind
    grind
   grind
  grind
theorem Jmg (g:List V->St->Option V):Jaa (Jap g).b:=by
 intro self e args c v a h d;have h:(match g args c with
  |some v=>some (v,c)
  |none=>none)=some (v,a):=h
 split at h
 ·injection h with h;injection h with _ h;subst h;exact Mon.A d
 ·cases h
section
variable {P : Program} {ρ : Nat -> Value} {γ : Locs}
end
theorem QG {S0:St}{y:V}{f:List (List V)}(j:Gr S0 q)(h:SlF S0 q a k i)(M:SlAt b q y k f)(S:okC f)(Z:f≠[])(hn:f.length<2^20)(aa:i.length+f.length<=2^24){R:V->St->Prop}
  (d:∀S' T,Gr S0 S'->SlF S0 S' T k (i++f)->rowOf T=some q.b->(∀p,q.A p≠ .none->rowOf a≠some p->S'.A p=q.A p)->R T S'):wW (appV q k a y) q R:=by
 have Z:¬f.length=0:=fun e=>Z (XB.1 e);have l:appV q k a y=JI q k f.length f.flatten a:=by
  unfold appV;rw[M.N];simp only[M.O];rw[Xd ⟨hn,S.A⟩]
 have U:∀e∈i++f,e.length=k:=fun e n=>by
  rcases Xy.1 n with n|n
  ·exact h.1 e n
  ·exact M.1 e n
 rw[l];have w:=j.D;rcases h.2 with⟨rfl,W⟩|⟨r,t,h2,h3,h4⟩
 ·have o:JI q k f.length f.flatten .g=some (.u q.b 0 f.length k, .b fun t=> .a t f.flatten):=by
   unfold JI
   grind
  rw[o];subst W;refine d (q.B fun t=> .a t f.flatten) _ (j.L (Jd _)) ⟨U, .inr ⟨q.b,q.t,j.K,by rw[JM];simp, .inl (by simp)⟩⟩ rfl fun p s _=>KC w _ s
 ·have ab:=Jt h.1;have ad:0+i.length*k<=i.flatten.length:=by omega
  have ae:(i.flatten.drop 0).take (i.length*k)=i.flatten:=by grind
  rcases h4 with rfl|rfl
  ·have o:JI q k f.length f.flatten (.u r 0 i.length k)=some (.u q.b 0 (i.length+f.length) k, .e r t fun u=> .a u (i.flatten++f.flatten)):=by
    unfold JI
    grind
   rw[o];refine d ((q.D r t .c).B fun u=> .a u (i.flatten++f.flatten)) _ (j.Q h2 (by grind) (by rw[h3];rfl) (Jd _)) ⟨U, .inr ⟨q.b,q.t+1,j.K, ?_, .inl (by simp)⟩⟩ rfl fun p s X=> ?_
   ·rw[XS];exact JM (q.D r t .c) _
   ·have x:p≠r:=fun e=>X (by rw[e];rfl);have Y:WF (q.D r t .c):=(Q9 w (by grind) (by rw[h3];rfl) fun u=>⟨rfl,fun e=>by cases e⟩).wf;rw[KC Y _ (by rw[Ji _ _ _ x];exact s),Ji _ _ _ x]
  ·have o:JI q k f.length f.flatten (.m r 0 i.length k i.length)=some (.u q.b 0 (i.length+f.length) k, .b fun u=> .a u (i.flatten++f.flatten)):=by
    unfold JI
    grind
   rw[o];refine d (q.B fun u=> .a u (i.flatten++f.flatten)) _ (j.L (Jd _)) ⟨U, .inr ⟨q.b,q.t,j.K, ?_, .inl (by simp)⟩⟩ rfl fun p s _=>KC w _ s;rw[XS];exact JM q _
def OwnF (S:St)(f:Nat->V):Prop:=(∀i r,rowOf (f i)=some r->S.A r≠ .none)/\∀i j r,i≠j->rowOf (f i)=some r->rowOf (f j)≠some r
def intW :List V:=[.d .i64 2,ofL [], .g, .g]
def kidW (wd:Bool)(f:Nat->V)(i:Nat):List V:=if wd=true then[.d .i64 6,ofL [], .g,f (8+i)]else intW
structure UI (S1:St) (wd:Bool) (o x y:Pt) (S:St) (f:Nat->V) (xs:List Str) (n:Nat) (ys:List Str) (m:Nat) (cx cy:List V):Prop where
 h:Gr S1 S
 b:OwnF S f
 c:f 4= .e o 0
 d:f 5= .e x 0
 e:f 6= .e y 0
 g:S1.A x= .none/\S1.A y= .none
 q:∃t,S.A o= .a t intW
 r:∃t,S.A x= .a t cx
 s:∃t,S.A y= .a t cy
 l:SlF S1 S (f 0) 1 (strs xs)
 j:SlF S1 S (f 1) 4 (List.replicate n intW)
 p:SlF S1 S (f 2) 1 (strs ys)
 k:SlF S1 S (f 3) 4 ((List.range m).map (kidW wd f))
 a:wd=true->∀i,i<m->SlF S1 S (f (8+i)) 4 [intW]
section
variable {S1 S S' : St} {wd : Bool} {o x y : Pt} {f : Nat -> V} {xs ys : List Str} {n m : Nat} {cx cy : List V}
theorem SlF.A {a st:St}{v:V}{z:Nat}{b:List (List V)}(h:SlF a st v z b){r:Pt}(c:rowOf v=some r):st.A r≠ .none:=by
 obtain⟨_,t,e⟩:=h.H c
 grind
section
variable {v' : V} (h : UI S1 wd o x y S f xs n ys m cx cy) (g : Gr S1 S') (hf : ∀ r, rowOf v' = some r -> S.A r = .none /\ S'.A r ≠ .none)
include h g hf
end
end
section
variable {S1 S S' : St} {wd : Bool} {o x y : Pt} {f : Nat -> V} {xs ys : List Str} {n m : Nat} {cx cy : List V}
end
theorem JhF (a:Fr)(p q:List Nat×List Nat):JP a [p,q]=(JP a [p]&&JP a [q]):=by simp[JP]
theorem JaM {a:Fr}{p q:List Nat×List Nat}(b:JP a [p]=true)(c:JP a [q]=true):JP a [p,q]=true:=by rw[JhF,b,c];rfl
theorem Jqy {x:Nat}(b:q.A T= .a k [.d .u8 x])(f:x<256):btsV q (.m T 0 1 1 1)=some (ofL [UInt8.ofNat x], .a):=by
 have c:(UInt8.ofNat x).toNat=x:=Z8 (by omega);have e:(0:Int)<=(x:Int)/\(x:Int)<256:=by omega
 simp[btsV,slen,JA,Kw,b];simp[Q0,e,ofL,snum,c]
inductive Rw where
 |mk (kind n:Int) (names:List Int) (kids:List Rw)
 deriving Inhabited
def Rw.A :Rw->Int| .mk k _ _ _=>k
def Rw.n :Rw->Int| .mk _ n _ _=>n
def Rw.F :Rw->List Int| .mk _ _ l _=>l
def Rw.D :Rw->List Rw| .mk _ _ _ l=>l
def In64 (z:Int):Prop:= -9223372036854775808<=z/\z<9223372036854775808
def Jbw (l:List Int):List (List V):=l.map fun z=>[V.d .i64 z]
theorem Yd (l:List Int):(Jbw l).length=l.length:=XU _
inductive RwC (P:Pt->Prop) (st:St):List V->Rw->Prop
 | mk {k n:Int} {zs:List Int} {ks:List Rw} {nv kv:V} {es:List (List V)} (hk:In64 k) (hn:In64 n) (hz:∀z∈zs,In64 z) (h1:SlAt P st nv 1 (Jbw zs)) (h2:SlAt P st kv 4 es) (h3:es.length=ks.length) (hl:zs.length<2^63/\ks.length<2^63) (h4:∀i (h:i<es.length) (h':i<ks.length),RwC P st es[i] ks[i]):
   RwC P st [.d .i64 k, .d .i64 n,nv,kv] (.mk k n zs ks)
section
variable {P Q : Pt -> Prop} {st st' : St} {e : List V} {r : Rw}
theorem RwC.D (h:RwC P st e r)(k:∀r,P r->st.A r≠ .none->Q r/\st'.A r=st.A r):RwC Q st' e r:=by
 induction h with
 |mk a b c d f g i l j=>exact .mk a b c (d.D k) (f.D k) g i j
theorem RwC.F (h:RwC P st e r)(g:Gr st st'):RwC P st' e r:=h.D fun r p e=>⟨p,g.d r e⟩
theorem RwC.A (h:RwC P st e r):∃b c a,e=[.d .i64 r.A, .d .i64 r.n,b,c]/\In64 r.A/\In64 r.n/\(∀z∈r.F,In64 z)/\SlAt P st b 1 (Jbw r.F)/\SlAt P st c 4 a/\a.length=r.D.length/\(r.F.length<2^63/\r.D.length<2^63)/\∀i (h:i<a.length) (q:i<r.D.length),RwC P st a[i] r.D[i]:=by
 cases h with
 |mk f g j k l m o p=>exact⟨_,_,_,rfl,f,g,j,k,l,m,o,p⟩
theorem RwC.G (h:RwC P st e r):e.length=4:=by cases h;rfl
end
def kidS (r:Rw)(i:Nat):Rw:=if r.D.length=0 then .mk (IntKind.i64.wrap (r.n+i)) r.A [] []else r.D.getD (i%r.D.length) default
def nms7 :List Str:=[[97],[98],[99],[110,97,109,101],[110],[73,110,116],[116,121,112,101]]
def Jjc (z:Int):Str:=nms7.getD (z%7).toNat []
def KR (n:Str):List Str->Nat
 |[]=>0
 |a::r=>if Op.bytesLess a n=true then KR n r+1 else 0
theorem JcO (n:Str):∀l,KR n l<=l.length
 |[]=>Xb _
 | a::r=>by
   rw[KR];have:=JcO n r
   grind
theorem JgJ (n:Str):∀(l:List Str) (i:Nat) (h:i<l.length),i<KR n l->Op.bytesLess l[i] n=true
 | a::r,i,h,b=>by
   rw[KR]at b
   split at b
   ·cases i with
    |zero=>grind
    |succ i=>exact JgJ n r i (by grind) (by omega)
   ·omega
theorem JgK (n:Str):∀(l:List Str) (h:KR n l<l.length),Op.bytesLess l[KR n l] n=false
 |[],h=>absurd h (by simp)
 | a::r,h=>by
   by_cases c:Op.bytesLess a n=true
   ·have e:KR n (a::r)=KR n r+1:=by rw[KR,Xd c]
    have:=JgK n r (by grind)
    grind
   ·have e:KR n (a::r)=0:=by rw[KR,Xa c]
    grind
def putS (t:Ty)(n:Str)(x:Ty):Ty:=
 if t.D[KR n t.D]? =some n then t else .mk t.A t.B (t.D.take (KR n t.D)++n::t.D.drop (KR n t.D)) (t.G.take (KR n t.D)++x::t.G.drop (KR n t.D))
def nameAt (r:Rw)(i:Nat):Str:=match r.F[i]? with
 |some z=>Jjc z
 |none=>[117]
def QW (nms:List Str)(deep:Nat)(r:Rw):Int:=if(1+r.A%9=9/\nms=[])\/(deep<=1/\4<=1+r.A%9/\1+r.A%9<=8)then 2 else 1+r.A%9
def Jbx (k:Int)(r:Rw):Nat:=max (min r.F.length 4) (if k=8 then 1 else 0)
def JK (nms:List Str):Nat->Rw->Ty
 |0,r=> .mk (QW nms 0 r) [] [] []
 | d+1,r=>
   let k:=QW nms (d+1) r
   if k=9 then .mk 9 (nms.getD (r.n%nms.length).toNat []) [] []
   else if k=4\/k=5\/k=6 then(if k=6/\(JK nms d (kidS r 0)).A=6 then JK nms d (kidS r 0)else .mk k [] [] [JK nms d (kidS r 0)])
   else if k=7\/k=8 then(List.range (Jbx k r)).foldl (fun t i=>putS t (nameAt r i) (JK nms d (kidS r i))) (.mk k [] [] [])
   else .mk k [] [] []
theorem Qw {S0:St}{n:V}{j:List (List V)}(t:Gr S0 q)(h:SlF S0 q a k i)(o:SlAt b q n k j)(r:okC j)(w:j.length<2^20)(s:i.length+j.length<=2^24){R:V->St->Prop}
  (e:∀S' l,Gr S0 S'->SlF S0 S' l k (i++j)->(rowOf l=rowOf a\/rowOf l=some q.b)->(∀p,q.A p≠ .none->rowOf a≠some p->S'.A p=q.A p)->R l S'):wW (appV q k a n) q R:=by
 by_cases u:j=[]
 ·subst u;have m:appV q k a n=JI q k 0 [] a:=by
   unfold appV;rw[o.N];simp only[o.O];rfl
  have x:JI q k 0 [] a=some (a, .a):=by
   have y:(slen a).isSome=true:=by rw[h.D.N];rfl
   unfold JI
   grind
  rw[m,x];exact e q a t (by grind) (.inl rfl) fun _ _ _=>rfl
 ·exact QG t h o r u w s fun S' l f g c d=>e S' l f g (.inr c) d
theorem Qm (h:SlF q M a k i)(c:q.A T≠ .none):rowOf a≠some T:=fun e=>c (h.H e).1
theorem JoW (a:Int){n:Int}(b:0<n):(¬a.tmod n<0/\a.tmod n=a%n)\/(a.tmod n<0/\a.tmod n+n=a%n):=by
 have c:=Zn a (show n≠0 by omega);have d:=Zc a b
 grind
theorem Jmh {n:Nd}{r:List Nd}:∀{l:List Nd} {i j:Nat},idx n l i=some j->idx n (l++r) i=some j
 |[],i,j,h=>by cases h
 | a::l,i,j,h=>by
   rw[X4,idx];rw[idx]at h;by_cases c:n=a
   ·grind
   ·rw[Xa c]at h⊢;exact Jmh h
theorem JhG {n:Nd}:∀{l:List Nd} {i:Nat},idx n l i=none->idx n (l++[n]) i=some (i+l.length)
 |[],i,_=>by rw[XT,idx,Xd rfl];rfl
 | a::l,i,h=>by
   rw[idx]at h;by_cases c:n=a
   ·grind
   ·rw[Xa c]at h;rw[X4,idx,Xa c,JhG h,XJ]
    grind
theorem jC {n:Nd}:∀{l:List Nd} {i j:Nat},idx n l i=some j->i<=j/\l[j-i]? =some n
 |[],i,j,h=>by cases h
 | a::l,i,j,h=>by
   rw[idx]at h;by_cases c:n=a
   ·grind
   ·rw[Xa c]at h;obtain⟨b,d⟩:=jC h
    grind
mutual
def Kh (nodes:List Nd):Ty->Option Nat
 | .mk k n ns ks=>match JT nodes ks with
   |none=>none
   |some ids=>idx ⟨k,n,ns,ids⟩ nodes 0
def JT (nodes:List Nd):List Ty->Option (List Nat)
 |[]=>some []
 | t::r=>match Kh nodes t,JT nodes r with
   |some i,some l=>some (i::l)
   |_,_=>none
end
mutual
def QO :Ty->Nat
 | .mk _ _ _ ks=>Qx ks+1
def Qx :List Ty->Nat
 |[]=>0
 |t::r=>QO t+Qx r
end
mutual
theorem Y1 {l r:List Nd}:∀(t:Ty) {i:Nat},Kh l t=some i->Kh (l++r) t=some i
 | .mk k n d a,i,h=>by
   rw[Kh]at h⊢
   cases c:JT l a with
   |none=>rw[c]at h;cases h
   | some b=>
     rw[c]at h;rw[kV a c];exact Jmh h
theorem kV {l r:List Nd}:∀(b:List Ty) {a:List Nat},JT l b=some a->JT (l++r) b=some a
 |[],a,h=>by rw[JT]at h⊢;exact h
 | t::b,a,h=>by
   rw[JT]at h⊢
   cases c:Kh l t with
   |none=>rw[c]at h;cases h
   | some i=>
     cases d:JT l b with
     |none=>rw[c,d]at h;cases h
     | some e=>
       rw[c,d]at h;rw[Y1 t c,kV b d];exact h
end
theorem Jb8 {n:Nd}(h:(layS u n).2.2=0):∃r,(layS u n).1={u with a:=u.a++r}/\idx n (layS u n).1.a 0=some (layS u n).2.1/\r.length<=1:=by
 unfold layS at h⊢
 cases c:idx n u.a 0 with
 |some i=>exact⟨[],by simp,by omega,by simp⟩
 | none=>
   rw[c]at h;by_cases b:120<=u.a.length
   ·grind
   ·simp only[Xa b];refine⟨[n],rfl, ?_,by simp⟩;have:=JhG c
    grind
mutual
theorem Yt :∀(t:Ty) {left:Int} {tb:Tb},(addT t left tb).2.2.1=0->∃r,(addT t left tb).1={tb with a:=tb.a++r}/\Kh (addT t left tb).1.a t=some (addT t left tb).2.1/\(addT t left tb).2.2.2=left-QO t
 | .mk k n j b,left,tb,h=>by
   rw[Qu]at h⊢;by_cases c:left-1<0\/8<b.length\/8<j.length
   ·rw[Xd c]at h;cases h
   rw[Xa c]at h⊢;have d:=qb b (left:=left-1) (tb:=tb);generalize JB b (left-1) tb=x at h d⊢;obtain⟨l,m,e,l1⟩:=x;simp only at h d⊢;by_cases f:e=0
   ·subst f;obtain⟨r,o,p,q⟩:=d rfl;simp only[GA,XH,X2]at h⊢;obtain⟨r2,g,i,s⟩:=Jb8 h;refine⟨r++r2,by rw[g,o];simp, ?_,by rw[q,QO];push_cast;omega⟩;rw[Kh,g];simp;rw[kV b p];rw[g]at i;exact i
   ·rw[Xd f]at h;exact absurd h f
theorem qb :∀(b:List Ty) {left:Int} {tb:Tb},(JB b left tb).2.2.1=0->∃r,(JB b left tb).1={tb with a:=tb.a++r}/\JT (JB b left tb).1.a b=some (JB b left tb).2.1/\(JB b left tb).2.2.2=left-Qx b
 | [],left,tb,h=>by
   rw[KU];exact⟨[],by simp,by rw[JT],by simp[Qx]⟩
 | t::b,left,tb,h=>by
   rw[Kr]at h⊢;have d:=Yt t (left:=left) (tb:=tb);generalize addT t left tb=x at h d⊢;obtain⟨c,i,e,l1⟩:=x;simp only at h d⊢;by_cases f:e=0
   ·subst f;obtain⟨r,l,m,n⟩:=d rfl;simp only[GA,XH,X2]at h⊢;have g:=qb b (left:=l1) (tb:=c);generalize JB b l1 c=y at h g⊢;obtain⟨j,q,s,l2⟩:=y;simp only at h g⊢;obtain⟨r2,k,o,p⟩:=g h;refine⟨r++r2,by rw[k,l];simp, ?_,by rw[p,n,Qx];push_cast;omega⟩;rw[JT,o];have:Kh j.a t=some i:=by rw[k];exact Y1 t m
    rw[this]
   ·rw[Xd f]at h;exact absurd h f
end
mutual
theorem Je3 :∀(t:Ty) {left l0:Int} {d tb0:Tb} {i:Nat},(addT t l0 tb0).2.2.1=0->Kh d.a t=some i->(QO t:Int)<=left->addT t left d=(d,i,0,left-QO t)
 | .mk k n o f,left,l0,d,tb0,i,b,h,g=>by
   rw[Qu]at b⊢;by_cases c:l0-1<0\/8<f.length\/8<o.length
   ·rw[Xd c]at b;cases b
   rw[Xa c]at b;rw[QO]at g⊢;rw[Xa (by push_cast at g;omega)];rw[Kh]at h
   cases j:JT d.a f with
   |none=>rw[j]at h;cases h
   | some p=>
     rw[j]at h;simp at h;have q:(JB f (l0-1) tb0).2.2.1=0:=by
      generalize JB f (l0-1) tb0=x at b⊢;obtain⟨r,m,e,l1⟩:=x;simp only at b⊢;by_cases l:e=0
      ·exact l
      ·rw[Xd l]at b;exact absurd b l
     rw[Jdv f q j (by push_cast at g;omega)];simp only[GA,XH,X2];unfold layS;rw[h];simp only;congr 3
     push_cast;omega
theorem Jdv :∀(b:List Ty) {left l0:Int} {d tb0:Tb} {g:List Nat},(JB b l0 tb0).2.2.1=0->JT d.a b=some g->(Qx b:Int)<=left->JB b left d=(d,g,0,left-Qx b)
 | [],left,l0,d,tb0,g,_,h,j=>by
   rw[JT]at h;injection h with h;rw[KU,<-h];simp[Qx]
 | t::b,left,l0,d,tb0,g,f,h,j=>by
   rw[Kr]at f⊢;rw[Qx]at j⊢;rw[JT]at h
   cases c:Kh d.a t with
   |none=>rw[c]at h;cases h
   | some i=>
     cases k:JT d.a b with
     |none=>rw[c,k]at h;cases h
     | some l=>
       rw[c,k]at h;injection h with h;have n:(addT t l0 tb0).2.2.1=0/\(JB b (addT t l0 tb0).2.2.2 (addT t l0 tb0).1).2.2.1=0:=by
        generalize addT t l0 tb0=x at f⊢;obtain⟨o,p,e,l1⟩:=x;simp only at f⊢;by_cases m:e=0
        ·subst m;simp only[GA,XH,X2]at f;exact⟨rfl,f⟩
        ·rw[Xd m]at f;exact absurd f m
       rw[Je3 t n.1 c (by push_cast at j;omega)];simp only[GA,XH,X2];rw[Jdv b n.2 k (by push_cast at j;omega),<-h];simp only;congr 3
       push_cast;omega
end
theorem JoX (a:Tb)(n:Nd):(layS a n).2.2=0\/(layS a n).2.2=20:=by
 unfold layS
 split
 ·exact .inl rfl
 ·split
  ·exact .inr rfl
  ·exact .inl rfl
mutual
theorem Je4 :∀(t:Ty) (left:Int) (a:Tb),(addT t left a).2.2.1=0\/(addT t left a).2.2.1=20
 | .mk k n h c,left,a=>by
   rw[Qu]
   split
   ·exact .inr rfl
   ·have b:=JgL c (left-1) a;generalize JB c (left-1) a=x at b⊢;obtain⟨f,g,e,l1⟩:=x;simp only at b⊢;by_cases d:e=0
    ·rw[Xa (fun k=>k d)];exact JoX _ _
    ·rw[Xd d];exact b
theorem JgL :∀(b:List Ty) (left:Int) (a:Tb),(JB b left a).2.2.1=0\/(JB b left a).2.2.1=20
 |[],left,a=>by rw[KU];exact .inl rfl
 | t::b,left,a=>by
   rw[Kr];have d:=Je4 t left a;generalize addT t left a=x at d⊢;obtain⟨c,i,e,l1⟩:=x;simp only at d⊢;by_cases f:e=0
   ·rw[Xa (fun k=>k f)];have g:=JgL b l1 c;generalize JB b l1 c=y at g⊢;obtain⟨h,j,l,l2⟩:=y;exact g
   ·rw[Xd f];exact d
end
def Acy (tb:Tb):Prop:=∀(i:Nat) (nd:Nd),tb.a[i]? =some nd->nd.a≠9/\∀k∈nd.c,k<i
mutual
def JkE :Ty->Bool
 | .mk k _ _ ks=>decide (k≠9)&&JdX ks
def JdX :List Ty->Bool
 |[]=>true
 |t::r=>JkE t&&JdX r
end
theorem Jqz {n:Nd}(h:Acy u)(e:n.a≠9)(f:∀k∈n.c,k<u.a.length):Acy (layS u n).1:=by
 unfold layS
 split
 ·exact h
 ·split
  ·exact h
  ·intro i d b;have b:(u.a++[n])[i]? =some d:=b;rcases Nat.lt_or_ge i u.a.length with c|c
   ·rw[XP c]at b;exact h i d b
   grind
theorem JsA {n:Nd}(h:(layS u n).2.2=0):(layS u n).2.1<(layS u n).1.a.length:=by
 obtain⟨r,_,b,_⟩:=Jb8 h;have:=(jC b).2
 grind
mutual
theorem JoY :∀(t:Ty) {left:Int} {tb:Tb},JkE t=true->Acy tb->Acy (addT t left tb).1/\((addT t left tb).2.2.1=0->(addT t left tb).2.1<(addT t left tb).1.a.length)
 | .mk k n i d,left,tb,f,h=>by
   rw[JkE,Xj,Zl]at f;rw[Qu];by_cases c:left-1<0\/8<d.length\/8<i.length
   ·rw[Xd c];exact⟨h,fun e=>by cases e⟩
   rw[Xa c];have b:=JgM d (left:=left-1) (tb:=tb) f.2 h;generalize JB d (left-1) tb=x at b⊢;obtain⟨j,l,e,l1⟩:=x;simp only at b⊢;by_cases g:e=0
   ·subst g;simp only[GA,XH,X2];exact⟨Jqz b.1 f.1 (b.2 rfl),fun e=>JsA e⟩
   ·rw[Xd g];exact⟨b.1,fun e=>absurd e g⟩
theorem JgM :∀(b:List Ty) {left:Int} {tb:Tb},JdX b=true->Acy tb->Acy (JB b left tb).1/\((JB b left tb).2.2.1=0->∀i∈(JB b left tb).2.1,i<(JB b left tb).1.a.length)
 |[],left,tb,f,h=>by rw[KU];exact⟨h,fun _ i m=>by cases m⟩
 | t::b,left,tb,f,h=>by
   rw[JdX,Xj]at f;rw[Kr];have d:=JoY t (left:=left) (tb:=tb) f.1 h;generalize addT t left tb=x at d⊢;obtain⟨c,i,e,l1⟩:=x;simp only at d⊢;by_cases j:e=0
   ·subst j;simp only[GA,XH,X2];have g:=JgM b (left:=l1) (tb:=c) f.2 d.1;have k:=qb b (left:=l1) (tb:=c);generalize JB b l1 c=y at g k⊢;obtain⟨n,p,s,l2⟩:=y;simp only at g k⊢;refine⟨g.1,fun e q l=> ?_⟩;rcases Xw.1 l with rfl|l
    ·obtain⟨r,o,_⟩:=k e;have:=d.2 rfl;rw[o];simp only[X7];omega
    ·exact g.2 e q l
   ·rw[Xd j];exact⟨d.1,fun e=>absurd e j⟩
end
def TabX (S:St)(W:Pt->Prop)(rt:Pt)(tb:Tb):Prop:=WF S/\∃F,Tab W F S rt tb
def Kept (S:St)(W:Pt->Prop)(S':St)(W':Pt->Prop):Prop:=∀r,S.A r≠ .none->¬W r->S'.A r=S.A r/\¬W' r
section
variable {S S' S'' : St} {W W' W'' : Pt -> Prop} {rt : Pt} {tb : Tb}
theorem Kept.A (h:Kept S W S' W')(k:Kept S' W' S'' W''):Kept S W S'' W'':=fun r e n=>by
 obtain⟨b,a⟩:=h r e n;obtain⟨c,d⟩:=k r (by grind) a
 grind
theorem Kept.I (g:Gr S S')(W:Pt->Prop):Kept S W S' W:=fun r e n=>⟨g.d r e,n⟩
theorem Kept.F (c:Ch W S S')(h:∀r,W' r->W r\/S.A r= .none):Kept S W S' W':=fun r e n=>⟨c.d r e n,fun w=>by grind⟩
theorem Kept.D (h:Kept S W S' W')(e:S.A T= .a k d)(n:¬W T):S'.A T= .a k d:=by rw[(h T (by grind) n).1,e]
theorem Kept.J (h:Kept S W S' W'){z:Nat}{es:List (List V)}(k:SlAt (fun r=>¬W r) S a z es):SlAt (fun r=>¬W' r) S' a z es:=k.D fun r n e=>⟨(h r e n).2,(h r e n).1⟩
theorem TabX.A (h:TabX S W rt tb){r:Pt}(e:S.A r= .none):¬W r:=by
 obtain⟨_,F,_,_,_,_,_,_,h⟩:=h;exact fun w=>h.u r w e
end
theorem JsB (r:Pt)(o:Nat):eqV (.a .p) false (.e r o) .s=some (.h false, .a):=Xe (Xk _)
theorem JsC :eqV (.a .p) false .s .s=some (.h true, .a):=Xe (Xk _)
theorem YK {b:List Nd}(h:Kh b X=some k):∃d,b[k]? =some ⟨X.A,X.B,X.D,d⟩/\JT b X.G=some d:=by
 obtain⟨a,n,f,e⟩:=X;rw[Kh]at h
 cases c:JT b e with
 |none=>grind
 | some d=>
   rw[c]at h;have:=(jC h).2;rw[GZ]at this;exact⟨d,this,c⟩
def TysF (P:Pt->Prop)(S0 st:St)(v:V)(ts:List Ty):Prop:=∃es,SlF S0 st v 4 es/\es.length=ts.length/\∀i (h:i<es.length) (h':i<ts.length),TyC P S0 es[i] ts[i]
section
variable {P : Pt -> Prop} {S0 st st' : St} {v : V} {ts : List Ty}
theorem TysF.F (P:Pt->Prop)(S0 st:St):TysF P S0 st .g []:=⟨[],SlF.I _ _ _,rfl,fun i h=>absurd h (by simp)⟩
theorem TysF.A (h:TysF P S0 st v ts)(g:Gr st st'):TysF P S0 st' v ts:=by
 obtain⟨a,b,c,d⟩:=h;exact⟨a,b.G g,c,d⟩
theorem TysF.D (h:TysF P S0 st v ts)(g:Gr S0 st){Q:Pt->Prop}(c:∀r,P r->Q r)(f:∀r,S0.A r= .none->Q r):LstAt (TyC Q st) Q st v 4 ts:=by
 obtain⟨j,k,l,m⟩:=h;exact⟨j,k.D.D fun r p _=>⟨f r p,rfl⟩,l,fun i a b=>(m i a b).A fun r p e=>⟨c r p,g.d r e⟩⟩
theorem JdY (q:Gr S0 st)(h:TysF P S0 st v ts){ts':List Ty}(t:SlAt b st a 4 i)(o:i.length=ts'.length)(m:∀c (h:c<i.length) (L:c<ts'.length),TyC P S0 i[c] ts'[c])(M:ts'.length<2^20)(u:ts.length+ts'.length<=2^24){R:V->St->Prop}
  (k:∀S' l,Gr S0 S'->TysF P S0 S' l (ts++ts')->(rowOf l=rowOf v\/rowOf l=some st.b)->(∀p,st.A p≠ .none->rowOf v≠some p->S'.A p=st.A p)->R l S'):wW (appV st 4 v a) st R:=by
 obtain⟨w,x,N,O⟩:=h;have n:okC i:=fun e y=>by
  obtain⟨j,z,rfl⟩:=ZM.1 y;exact(m j z (by omega)).J
 refine Qw q x t n (by omega) (by omega) fun S' l g s r K=>k S' l g ⟨w++i,s,by grind,fun c d f=> ?_⟩ r K
 grind
theorem JhH {st:St}(f:st.b=T)(c:d.length=4):SlAt (fun r=>r=T) (st.B fun t=> .a t d) (.m T 0 1 4 1) 4 [d]:=by
 have:=Ql (st:=st) (z:=4) c
 grind
end
theorem qO :∀{a b c:List UInt8},Op.bytesLess a b=true->Op.bytesLess b c=true->Op.bytesLess a c=true
 |_,[],_,h,_=>by simp[Op.bytesLess]at h
 |_,_::_,[],_,h=>by simp[Op.bytesLess]at h
 |[],_::_,_::_,_,_=>by rfl
 | a::x,b::y,c::z,h,k=>by
   simp[Op.bytesLess,Zl,ZB]at h k⊢;rcases h with h|⟨rfl,h⟩
   ·grind
   ·rcases k with k|⟨rfl,k⟩
    ·grind
    ·exact .inr ⟨rfl,qO h k⟩
theorem Jar :∀a:List UInt8,Op.bytesLess a a=false
 |[]=>rfl
 | a::x=>by
   simp only[Op.bytesLess,Jar x,Bool.and_false,GP,decide_eq_false_iff_not];simp
theorem Jbb :∀(p:Option Str) (l:List Str),Kb p l=0->l.Pairwise (fun a b=>Op.bytesLess a b=true)/\∀a∈l,∀q,p=some q->Op.bytesLess q a=true
 |p,[],_=>⟨List.Pairwise.nil,fun a h=>by cases h⟩
 | p,n::r,h=>by
   rw[Kb]at h
   split at h
   ·cases h
   split at h
   ·cases h
   rename_i _ e
   obtain⟨g,f⟩:=Jbb (some n) r h;have i:∀q,p=some q->Op.bytesLess q n=true:=fun q d=>by
    rw[d]at e;simpa[Ky]using e
   refine⟨Hq.2 ⟨fun a c=>f a c n rfl,g⟩,fun a c q d=> ?_⟩;rcases Xw.1 c with rfl|c
   ·grind
   ·exact qO (i q d) (f a c n rfl)
theorem qP (h:Kb none K=0):K.Nodup:=
 (Jbb none K h).1.imp fun{a b} h e=>by rw[e,Jar]at h;cases h
theorem Y2 (e:Str->Bool)(p:Option Str)(f:Sg)(r:List Sg)(d:Nat):Qs e p (f::r) d=if(!Ks f.c||JaL f.c)=true then(15,d)else if Ky p f.c=true then(6,d)else if 4<f.a.length then(18,d)else
  if(JD e (f.a++[f.b]) 1 d).1≠0 then JD e (f.a++[f.b]) 1 d else Qs e (some f.c) r (JD e (f.a++[f.b]) 1 d).2:=by rfl
theorem Jb9 (e:Str->Bool):∀(p:Option Str) (i:List Sg) (d:Nat),d<=400->(Qs e p i d).1=0->(∀f∈i,f.a.length<=4)/\(∀f∈i,j8 (f.a++[f.b])<=400)/\(Qs e p i d).2<=400
 |p,[],d,j,h=>by rw[Qs];grind
 | p,f::r,d,j,h=>by
   rw[Y2]at h⊢
   split at h
   ·cases h
   rename_i k
   split at h
   ·cases h
   rename_i l
   split at h
   ·cases h
   rename_i m
   split at h
   ·omega
   rename_i n
   have g:(JD e (f.a++[f.b]) 1 d).1=0:=by omega
   rw[Xa k,Xa l,Xa m,Xa n];have o:=(YJ e (f.a++[f.b]) 1 d j).2 g;have q:=kQ e (f.a++[f.b]) 1 d g;obtain⟨s,t,u⟩:=Jb9 e (some f.c) r _ o h
   grind
def qd (l:List Sg):List Ty:=(l.map fun f=>f.a++[f.b]).flatten
theorem JgN (s:Sch):Qk s=s.a.map Prod.snd++[s.b]++qd s.c:=rfl
theorem Jmi :∀{a:List Ty} {t:Ty},t∈a->cntT t<=j8 a:=fun{a t} h=>by
 obtain⟨i,b,rfl⟩:=ZM.1 h;exact jB b
theorem qe (s:Sch):Qv s=
  if 12<s.a.length\/12<s.c.length then 3 else
  if Kb none (s.a.map Prod.fst)≠0 then Kb none (s.a.map Prod.fst)else
  if(JD (hasN s.a) (s.a.map Prod.snd) 1 0).1≠0 then(JD (hasN s.a) (s.a.map Prod.snd) 1 0).1 else
  if(mayS (hasN s.a) s.b 1 (JD (hasN s.a) (s.a.map Prod.snd) 1 0).2).1≠0 then(mayS (hasN s.a) s.b 1 (JD (hasN s.a) (s.a.map Prod.snd) 1 0).2).1 else
  if(Qs (hasN s.a) none s.c (mayS (hasN s.a) s.b 1 (JD (hasN s.a) (s.a.map Prod.snd) 1 0).2).2).1≠0 then(Qs (hasN s.a) none s.c (mayS (hasN s.a) s.b 1 (JD (hasN s.a) (s.a.map Prod.snd) 1 0).2).2).1 else
  if s.a.any (fun p=> !finS s.a p.2)then 14 else
  if jd s.a (Qk s)then 17 else 0:=rfl
theorem JaN (h:Qv N=0):N.a.length<=12/\N.c.length<=12/\Kb none (N.a.map Prod.fst)=0/\(JD (hasN N.a) (N.a.map Prod.snd) 1 0).1=0/\(mayS (hasN N.a) N.b 1 (JD (hasN N.a) (N.a.map Prod.snd) 1 0).2).1=0/\(∀f∈N.c,f.a.length<=4):=by
 rw[qe]at h
 split at h
 ·cases h
 rename_i j
 split at h
 ·omega
 rename_i k
 split at h
 ·omega
 rename_i d
 split at h
 ·omega
 rename_i e
 split at h
 ·omega
 rename_i l
 have d:(JD (hasN N.a) (N.a.map Prod.snd) 1 0).1=0:=by omega
 have e:(mayS (hasN N.a) N.b 1 (JD (hasN N.a) (N.a.map Prod.snd) 1 0).2).1=0:=by omega
 have g:=(YJ (hasN N.a) (N.a.map Prod.snd) 1 0 (by decide)).2 d;have i:=(QN (hasN N.a) N.b 1 _ g).2 e;have:=Jb9 (hasN N.a) none N.c _ i (by omega)
 grind
theorem Je5 (n:Str)(id:Nat):∀l:List (Str×Nat),Ja0 n (V.d .i64 (id:Int)) (l.map fun p=>(p.1,V.d .i64 (p.2:Int)))=(setI n id l).map fun p=>(p.1,V.d .i64 (p.2:Int))
 |[]=>rfl
 | (a,c)::r=>by
   have b:=Je5 n id r;rw[XV,Ja0,setI]
   grind
section
variable {S : St} {W : Pt -> Prop} {rt : Pt} {tb : Tb}
theorem Kept.G {f:Nat->Row}(a:W T):Kept S W (S.D T k f) W:=fun r e n=>⟨Ji _ _ _ fun h=>n (by grind),n⟩
end
theorem Jca (n:Str)(t:Ty)(r:List (Str×Ty))(a:Tb):Jq ((n,t)::r) a=if(addT t 400 a).2.2.1≠0 then((addT t 400 a).1,(addT t 400 a).2.2.1)else Jq r {(addT t 400 a).1 with c:=setI n (addT t 400 a).2.1 (addT t 400 a).1.c}:=by rfl
theorem JhI (t:Ty)(r:List Ty)(a:Tb):JN (t::r) a=if(addT t 400 a).2.2.1≠0 then((addT t 400 a).1,[],(addT t 400 a).2.2.1)else((JN r (addT t 400 a).1).1,(addT t 400 a).2.1::(JN r (addT t 400 a).1).2.1,(JN r (addT t 400 a).1).2.2):=by rfl
theorem JhJ (f:Sg)(r:List Sg)(e:Tb):Kc (f::r) e=if(JN (f.a++[f.b]) e).2.2≠0 then((JN (f.a++[f.b]) e).1,(JN (f.a++[f.b]) e).2.2)else Kc r {(JN (f.a++[f.b]) e).1 with d:=setI f.c (JN (f.a++[f.b]) e).2.1 (JN (f.a++[f.b]) e).1.d}:=by rfl
theorem Jcb (s:Sch):newS s=if Qv s≠0 then(none,Qv s)else
  if(Jq s.a JE).2≠0 then(none,(Jq s.a JE).2)else
  if(addT s.b 400 (Jq s.a JE).1).2.2.1≠0 then(none,(addT s.b 400 (Jq s.a JE).1).2.2.1)else
  if(Kc s.c {(addT s.b 400 (Jq s.a JE).1).1 with b:=(addT s.b 400 (Jq s.a JE).1).2.1}).2≠0 then(none,(Kc s.c {(addT s.b 400 (Jq s.a JE).1).1 with b:=(addT s.b 400 (Jq s.a JE).1).2.1}).2)else
  (some (Kc s.c {(addT s.b 400 (Jq s.a JE).1).1 with b:=(addT s.b 400 (Jq s.a JE).1).2.1}).1,0):=rfl
theorem Jdw (h:LstAt (NmC b q) b q a 5 t)(y:∀r,q.A r≠ .none->M.A r=q.A r)(z:k<t.length):
  ∃r f g m,Jo 5 a (.d .i64 k)=some (.e r f, .a)/\M.A r≠ .none/\ldn (M.A r) f 5=some (.j [ofL t[k].1, .d .i64 t[k].2.A,ofL t[k].2.B,g,m], .a)/\TyC b q [.d .i64 t[k].2.A,ofL t[k].2.B,g,m] t[k].2/\(g.A=some [g]/\g.B=true/\m.A=some [m]/\m.B=true):=by
 obtain⟨r,f,e,K,Q,L,s,⟨c,N,u⟩,T,U⟩:=h.A z;have n:=u;obtain⟨o,p,O,rfl,w,x,W,X⟩:=u.B;subst N;rw[<-y r L]at s;exact⟨r,f,o,p,K,by grind,s,n,w.A,w.B,x.A,x.B⟩
def TabZ (S:St)(W Z:Pt->Prop)(rt:Pt)(tb:Tb):Prop:=WF S/\∃F,Tab W F S rt tb/\∀r,F r->¬Z r
theorem TabZ.x {Z:Pt->Prop}(h:TabZ q b Z T u):TabX q b T u:=by
 obtain⟨a,F,h,_⟩:=h;exact⟨a,F,h⟩
theorem TabZ.D {S a:St}{W Z:Pt->Prop}{b:Pt}{c:Tb}(h:TabZ S W Z b c)(g:Gr S a):TabZ a W Z b c:=by
 obtain⟨d,F,h,k⟩:=h;exact⟨g.D,F,h.G g,k⟩
mutual
def KS (has:Str->Bool):Ty->Bool
 | .mk k n _ ks=>(decide (k≠9)||has n)&&Kv has ks
def Kv (has:Str->Bool):List Ty->Bool
 |[]=>true
 |t::r=>KS has t&&Kv has r
end
mutual
theorem JcP (a:Str->Bool):∀(t:Ty) (b d:Nat),(mayS a t b d).1=0->KS a t=true
 | .mk k n i f,b,d,h=>by
   rw[qI]at h
   split at h
   ·cases h
   split at h
   ·cases h
   split at h
   ·cases h
   split at h
   ·cases h
   split at h
   ·cases h
   rename_i c
   split at h
   ·rename_i c;exact absurd h c
   rw[KS,Xj,jh a f _ _ h];refine⟨?_,rfl⟩;by_cases e:k=9
   ·cases g:a n with
    |true=>simp
    |false=>exact absurd ⟨e,g⟩ c
   ·simp[e]
theorem jh (b:Str->Bool):∀(e:List Ty) (a d:Nat),(JD b e a d).1=0->Kv b e=true
 |[],_,_,_=>by rw[Kv]
 | t::r,a,d,h=>by
   rw[Kg]at h
   split at h
   ·rename_i c;exact absurd h c
   rename_i c
   rw[Kv,JcP b t a d (by simpa using c),jh b r _ _ h];rfl
end
theorem qQ {b:Str->Bool}:∀{c:List Ty},Kv b c=true->∀t∈c,KS b t=true
 |[],_,t,h=>by cases h
 | a::r,d,t,h=>by
   rw[Kv,Xj]at d;rcases Xw.1 h with rfl|h
   ·grind
   ·exact qQ d.2 t h
theorem Je6 (d:Str->Bool):∀(p:Option Str) (j:List Sg) (e:Nat),(Qs d p j e).1=0->(∀f∈j,Kv d (f.a++[f.b])=true)/\(j.map Sg.c).Pairwise (fun a b=>Op.bytesLess a b=true)/\∀f∈j,∀q,p=some q->Op.bytesLess q f.c=true
 |p,[],e,_=>⟨fun f h=>(by cases h),List.Pairwise.nil,fun f h=>(by cases h)⟩
 | p,f::r,e,h=>by
   rw[Y2]at h
   split at h
   ·cases h
   split at h
   ·cases h
   rename_i l
   split at h
   ·cases h
   split at h
   ·omega
   rename_i c
   obtain⟨o,s,m⟩:=Je6 d _ r _ h;have n:∀q,p=some q->Op.bytesLess q f.c=true:=fun q k=>by
    rw[k]at l;simpa[Ky]using l
   refine⟨fun g i=> ?_, ?_,fun g i q k=> ?_⟩
   ·rcases Xw.1 i with rfl|i
    ·exact jh d _ 1 e (by omega)
    grind
   ·simp_all
   ·rcases Xw.1 i with rfl|i
    ·grind
    ·exact qO (n q k) (m g i _ rfl)
theorem Jcc (h:K.Pairwise (fun a b=>Op.bytesLess a b=true)):K.Nodup:=h.imp fun{a b} h e=>by rw[e,Jar]at h;cases h
def Able (X:Ty):Prop:=QO X<=400/\∃l0 tb0,(addT X l0 tb0).2.2.1=0
structure TInv (has:Str->Bool) (nodes:List Nd):Prop where
 b:∀i,i<nodes.length->∃X,Kh nodes X=some i/\Able X
 a:∀(i:Nat) (n:Nd),nodes[i]? =some n->n.a=9->has n.d=true
theorem TInv.A {e:List Nd}{nd:Nd}(h:TInv p e)(l:nd.a=9->p nd.d=true)(m:Kh (e++[nd]) X=some e.length)(o:Able X):TInv p (e++[nd]):=by
 refine⟨fun i f=> ?_,fun i n f k=> ?_⟩
 ·by_cases c:i<e.length
  ·obtain⟨X,g,j⟩:=h.b i c;exact⟨X,Y1 X g,j⟩
  grind
 ·by_cases c:i<e.length
  ·rw[XP c]at f;exact h.a i n f k
  grind
mutual
theorem Jas {d:Str->Bool}:∀(t:Ty) {left:Int} {tb:Tb},0<=left->left<=400->KS d t=true->(addT t left tb).2.2.1=0->TInv d tb.a->TInv d (addT t left tb).1.a
 | .mk k n j f,left,tb,u,L,p,h,v=>by
   have l:Able (.mk k n j f):=⟨by
    have w:=(jZ (.mk k n j f) left tb u).2.2 h;obtain⟨_,_,_,y⟩:=Yt _ h;rw[y]at w;omega,left,tb,h⟩
   obtain⟨r0,M,b,_⟩:=Yt _ h;rw[KS,Xj]at p;rw[Qu]at h b⊢;by_cases c:left-1<0\/8<f.length\/8<j.length
   ·rw[Xd c]at h;cases h
   rw[Xa c]at h b⊢;have g:=JgO f (left:=left-1) (tb:=tb) (by omega) (by omega) p.2;have r:=qb f (left:=left-1) (tb:=tb);generalize JB f (left-1) tb=x at h b g r⊢;obtain⟨m,o,e,l1⟩:=x;simp only at h b g r⊢;by_cases q:e=0
   ·subst q;simp only[GA,XH,X2]at h b⊢;have g:=g rfl v;unfold layS at h b⊢
    cases z:idx ⟨k,n,j,o⟩ m.a 0 with
    |some i=>exact g
    | none=>
      rw[z]at h b;by_cases s:120<=m.a.length
      ·rw[Xd s]at h;cases h
      ·simp only[Xa s]at b⊢;refine g.A (nd:=⟨k,n,j,o⟩) (fun K=> ?_) b l;have:=p.1;rw[show k=9 from K]at this;simpa using this
   ·rw[Xd q]at h;exact absurd h q
theorem JgO {b:Str->Bool}:∀(c:List Ty) {left:Int} {tb:Tb},0<=left->left<=400->Kv b c=true->(JB c left tb).2.2.1=0->TInv b tb.a->TInv b (JB c left tb).1.a
 |[],left,tb,_,_,_,_,d=>by rw[KU];exact d
 | t::c,left,tb,k,l,f,h,d=>by
   rw[Kv,Xj]at f;rw[Kr]at h⊢;have g:=Jas t (left:=left) (tb:=tb) k l f.1;have l1:=jZ t left tb k;generalize addT t left tb=x at h g l1⊢;obtain⟨m,i,e,n⟩:=x;simp only at h g l1⊢;by_cases j:e=0
   ·subst j;simp only[GA,XH,X2]at h⊢;exact JgO c (l1.2.2 rfl) (by omega) f.2 h (g rfl d)
   ·rw[Xd j]at h;exact absurd h j
end
def sigI (tb:Tb)(n:Str):Option (List Nat):=(tb.d.find? fun p=>n=p.1).map (·.2)
theorem Jat {α:Type}(n m:Str)(x:α):∀l:List (Str×α),((setI n x l).find? fun p=>m=p.1).map (·.2)=if m=n then some x else(l.find? fun p=>m=p.1).map (·.2)
 | []=>by
   rw[setI];simp
 | (a,y)::r=>by
   rw[setI];by_cases c:n=a
   ·grind
   ·rw[Xa c];have b:=Jat n m x r
    grind
structure Grown (tb tb':Tb):Prop where
 d:∃r,tb'.a=tb.a++r
theorem Grown.A {b:Tb}(h:Grown u b){i:Nat}(k:Kh u.a X=some i):Kh b.a X=some i:=by
 obtain⟨r,e⟩:=h.d;rw[e];exact Y1 X k
theorem Grown.F {b:Tb}(h:Grown u b){X:List Ty}{i:List Nat}(k:JT u.a X=some i):JT b.a X=some i:=by
 obtain⟨r,e⟩:=h.d;rw[e];exact kV X k
theorem Grown.G (a:Tb):Grown a a:=⟨[],by simp⟩
theorem Grown.D {b c:Tb}(h:Grown u b)(k:Grown b c):Grown u c:=by
 obtain⟨r,e⟩:=h.d;obtain⟨q,f⟩:=k.d;exact⟨r++q,by grind⟩
theorem Jdx {b:Str->Bool}:∀(l:List (Str×Ty)) {tb:Tb},(∀p∈l,KS b p.2=true)->(l.map Prod.fst).Nodup->(Jq l tb).2=0->TInv b tb.a->
  TInv b (Jq l tb).1.a/\Grown tb (Jq l tb).1/\(∀p∈l,∃j,defI (Jq l tb).1 p.1=some j/\Kh (Jq l tb).1.a p.2=some j)/\(∀n,n∉l.map Prod.fst->defI (Jq l tb).1 n=defI tb n)/\(Jq l tb).1.d=tb.d/\∀p∈l,Able p.2
 |[],tb,_,_,_,f=>by rw[Jq];exact⟨f,Grown.G _,fun p h=>(by cases h),fun _ _=>rfl,rfl,fun p h=>(by cases h)⟩
 | (n,t)::r,tb,o,g,h,f=>by
   rw[XV,ZJ]at g;rw[Jca]at h⊢;by_cases c:(addT t 400 tb).2.2.1=0
   ·rw[Xa (fun k=>k c)]at h⊢;have v:=Jas t (left:=400) (tb:=tb) (by decide) (by decide) (o (n,t) (by simp)) c f;obtain⟨r0,q,w,x⟩:=Yt t c;have y:=(jZ t 400 tb (by decide)).2.2 c;rw[x]at y;obtain⟨z,s,L,u,M,N⟩:=Jdx r (tb:={(addT t 400 tb).1 with c:=setI n (addT t 400 tb).2.1 (addT t 400 tb).1.c}) (fun p e=>o p (Xl _ e)) g.2 h v;have K:Grown tb {(addT t 400 tb).1 with c:=setI n (addT t 400 tb).2.1 (addT t 400 tb).1.c}:=⟨r0,by rw[q]⟩
    refine⟨z,K.D s,fun p e=> ?_,fun m i=> ?_,by grind,fun p e=> ?_⟩
    ·rcases Xw.1 e with rfl|e
     ·refine⟨(addT t 400 tb).2.1, ?_,s.A w⟩;rw[u n g.1];show((setI n _ _).find? _).map _=_;rw[Jat,Xd rfl]
     grind
    ·rw[XV,Xw,GO]at i;rw[u m i.2];show((setI n _ _).find? _).map _=_;rw[Jat,Xa i.1,q];rfl
    ·rcases Xw.1 e with rfl|e
     ·exact⟨by grind,400,tb,c⟩
     grind
   grind
theorem Jdy {g:Str->Bool}:∀(f:List Ty) {e:Tb},Kv g f=true->(JN f e).2.2=0->TInv g e.a->
  TInv g (JN f e).1.a/\Grown e (JN f e).1/\JT (JN f e).1.a f=some (JN f e).2.1/\(JN f e).1.c=e.c/\(JN f e).1.d=e.d/\(JN f e).1.b=e.b
 |[],e,_,_,i=>by rw[JN];exact⟨i,Grown.G _,by rfl,rfl,rfl,rfl⟩
 | t::r,e,j,h,i=>by
   rw[Kv,Xj]at j;rw[JhI]at h⊢;by_cases c:(addT t 400 e).2.2.1=0
   ·rw[Xa (fun k=>k c)]at h⊢;have m:=Jas t (left:=400) (tb:=e) (by decide) (by decide) j.1 c i;obtain⟨r0,n,o,u⟩:=Yt t c;obtain⟨p,l,q,v,w,x⟩:=Jdy r j.2 h m;have s:Grown e (addT t 400 e).1:=⟨r0,by rw[n]⟩
    refine⟨p,s.D l, ?_,by grind,by grind,by grind⟩;rw[JT,l.A o,q]
   grind
theorem Jdz {g:Str->Bool}:∀(e:List Sg) {tb:Tb},(∀f∈e,Kv g (f.a++[f.b])=true)->(e.map Sg.c).Nodup->(Kc e tb).2=0->TInv g tb.a->
  TInv g (Kc e tb).1.a/\Grown tb (Kc e tb).1/\(Kc e tb).1.c=tb.c/\(∀f∈e,∃i,sigI (Kc e tb).1 f.c=some i/\JT (Kc e tb).1.a (f.a++[f.b])=some i)/\(∀n,n∉e.map Sg.c->sigI (Kc e tb).1 n=sigI tb n)/\(Kc e tb).1.b=tb.b
 |[],tb,_,_,_,l=>by rw[Kc];exact⟨l,Grown.G _,rfl,fun p h=>(by cases h),fun _ _=>rfl,rfl⟩
 | f::r,tb,s,o,h,l=>by
   rw[XV,ZJ]at o;rw[JhJ]at h⊢;by_cases c:(JN (f.a++[f.b]) tb).2.2=0
   ·rw[Xa (fun k=>k c)]at h⊢;obtain⟨v,w,x,L,y,M⟩:=Jdy (f.a++[f.b]) (s f (by simp)) c l;obtain⟨z,t,N,O,u,P⟩:=Jdz r (tb:={(JN (f.a++[f.b]) tb).1 with d:=setI f.c (JN (f.a++[f.b]) tb).2.1 (JN (f.a++[f.b]) tb).1.d}) (fun p j=>s p (Xl _ j)) o.2 h v;have K:Grown tb {(JN (f.a++[f.b]) tb).1 with d:=setI f.c (JN (f.a++[f.b]) tb).2.1 (JN (f.a++[f.b]) tb).1.d}:=⟨w.d⟩
    refine⟨z,K.D t,by grind,fun p j=> ?_,fun m q=> ?_,by grind⟩
    ·rcases Xw.1 j with rfl|j
     ·refine⟨(JN (p.a++[p.b]) tb).2.1, ?_,t.F x⟩;rw[u _ o.1];show((setI p.c _ _).find? _).map _=_;rw[Jat,Xd rfl]
     grind
    ·rw[XV,Xw,GO]at q;rw[u m q.2];show((setI f.c _ _).find? _).map _=_;rw[Jat,Xa q.1,y];rfl
   grind
structure kg (s:Sch) (tb:Tb):Prop where
 e:Qv s=0
 c:TInv (hasN s.a) tb.a
 b:∀p∈s.a,∃j,defI tb p.1=some j/\Kh tb.a p.2=some j
 l:∀p∈s.a,Able p.2
 m:∀f∈s.c,∃ids,sigI tb f.c=some ids/\JT tb.a (f.a++[f.b])=some ids
 a:∀n,n∉s.c.map Sg.c->sigI tb n=none
 d:Kh tb.a s.b=some tb.b
theorem JdA (h:Qv N=0):(∀p∈N.a,KS (hasN N.a) p.2=true)/\(N.a.map Prod.fst).Nodup/\KS (hasN N.a) N.b=true/\(∀f∈N.c,Kv (hasN N.a) (f.a++[f.b])=true)/\(N.c.map Sg.c).Nodup/\(∀p∈N.a,finS N.a p.2=true):=by
 rw[qe]at h
 split at h
 ·cases h
 split at h
 ·omega
 rename_i l
 split at h
 ·omega
 rename_i m
 split at h
 ·omega
 rename_i e
 split at h
 ·omega
 rename_i g
 split at h
 ·cases h
 rename_i n
 have i:=jh _ _ _ _ (show(JD (hasN N.a) (N.a.map Prod.snd) 1 0).1=0 by omega);obtain⟨j,k,_⟩:=Je6 _ _ _ _ (by simpa using g);refine⟨fun p d=>qQ i p.2 (XA.2 ⟨p,d,rfl⟩),qP (by omega),JcP _ _ _ _ (by simpa using e),j,Jcc k,fun p d=> ?_⟩
 grind
theorem JoZ {e:Int}(h:newS N=(some u,e)):e=0/\kg N u:=by
 rw[Jcb]at h;by_cases l:Qv N=0
 ·rw[Xa (fun k=>k l)]at h;obtain⟨L,O,P,Q,S,n6⟩:=JdA l;have t0:TInv (hasN N.a) JE.a:=⟨fun i h=>absurd h (XO _),fun i n h=>by cases h⟩
  by_cases r:(Jq N.a JE).2=0
  ·rw[Xa (fun k=>k r)]at h;obtain⟨T,d2,U,d4,W,X⟩:=Jdx N.a L O r t0;generalize (Jq N.a JE).1=D at*;by_cases f:(addT N.b 400 D).2.2.1=0
   ·rw[Xa (fun k=>k f)]at h;have t:=Jas N.b (by decide) (by decide) P f T;obtain⟨r0,m,v,_⟩:=Yt N.b f;generalize addT N.b 400 D=M at*;obtain⟨g,o,me,ml⟩:=M;simp only at f t m v h;by_cases w:(Kc N.c {g with b:=o}).2=0
    ·rw[Xa (fun k=>k w)]at h;injection h with h Y;injection h with h;obtain⟨x,q,Z,y,z,K⟩:=Jdz N.c (tb:={g with b:=o}) Q S w t;rw[h]at x q Z y z K;have g1:Grown D {g with b:=o}:=⟨r0,by rw[m]⟩
     refine⟨Y.symm,l,x,fun p hp=> ?_,X,y,fun n hn=> ?_, ?_⟩
     ·obtain⟨j,k1,k2⟩:=U p hp;refine⟨j, ?_,q.A (g1.A k2)⟩;rw[<-k1];unfold defI
      grind
     ·rw[z n hn];show((g.d).find? _).map _=none;rw[m,W];rfl
     ·rw[K];exact q.A v
    grind
   grind
  grind
 grind
theorem Jm7 {e:Int}(h:newS N=(none,e)):e≠0:=by
 rw[Jcb]at h
 grind
theorem Jbc (n m:Str)(b:Bool):∀l:List (Str×Bool),gB m (sB n b l)=if m=n then b else gB m l
 |[]=>by rfl
 | (a,c)::r=>by
   rw[sB];by_cases e:n=a
   ·rw[Xd e,gB,gB]
    grind
   ·rw[Xa e,gB,gB,Jbc n m b r]
    grind
theorem Je7 (h:Qd p X 1=true)(k:X.A=9):p X.B=true:=by
 obtain⟨a,n,b,c⟩:=X;have k:a=9:=k;rw[Qd,Xa (by decide),Xd k]at h;exact h
def Rk (l:List (Str×Ty))(has:List (Str×Bool))(rk:Str->Nat):Prop:=∀p∈l,p.2.A=9->gB p.1 has=true->gB p.2.B has=true/\rk p.2.B<rk p.1
theorem Je8 (c:(t.map Prod.fst).Nodup){p q:Str×Ty}(b:p∈t)(d:q∈t)(h:p.1=q.1):p=q:=by
 induction t with
 |nil=>cases b
 | cons a r e=>
   grind
theorem Jjd {l:List (Str×Ty)}(u:(l.map Prod.fst).Nodup):∀(r:List (Str×Ty)),(∀p∈r,p∈l)->∀(f:List (Str×Bool)) (i:Str->Nat),Rk l f i->∃g,Rk l (K8 r f) g
 |[],_,f,i,h=>⟨i,by rw[K8];exact h⟩
 | (n,t)::r,v,f,i,h=>by
   rw[K8];have w:(n,t)∈l:=v _ (by simp)
   suffices ∃g,Rk l (sB n (gB n f||Qd (fun x=>gB x f) t 1) f) g by
    obtain⟨g,y⟩:=this;exact Jjd u r (fun p j=>v p (Xl _ j)) _ g y
   by_cases c:gB n f=true
   ·refine⟨i,fun p j q m=> ?_⟩;have o:∀x,gB x (sB n (gB n f||Qd (fun x=>gB x f) t 1) f)=gB x f:=fun x=>by
     rw[Jbc,c,Gi]
     grind
    rw[o]at m⊢;exact h p j q m
   have z:gB n f=false:=by grind
   rw[z,ZF];by_cases d:Qd (fun x=>gB x f) t 1=true
   ·rw[d];refine⟨fun x=>if x=n then i t.B+1 else i x,fun p j q m=> ?_⟩;by_cases e:p.1=n
    ·have K:=Je8 u j w e;subst K;have M:=Je7 d q;have s:¬t.B=n:=fun k=>by grind
     rw[Jbc,Xa s]
     grind
    ·rw[Jbc,Xa e]at m;obtain⟨a,b⟩:=h p j q m;have s:¬p.2.B=n:=fun k=>by grind
     rw[Jbc,Xa s]
     grind
   ·have L:Qd (fun x=>gB x f) t 1=false:=by grind
    rw[L];refine⟨i,fun p j q m=> ?_⟩;have o:∀x,gB x (sB n false f)=gB x f:=fun x=>by
     rw[Jbc]
     grind
    rw[o]at m⊢;exact h p j q m
theorem JgP {l:List (Str×Ty)}(d:(l.map Prod.fst).Nodup):∀(k:Nat) (a:List (Str×Bool)) (c:Str->Nat),Rk l a c->∃b,Rk l (Ko l k a) b
 |0,a,c,h=>⟨c,by rw[Ko];exact h⟩
 | k+1,a,c,h=>by
   rw[Ko];obtain⟨b,e⟩:=Jjd d l (fun p f=>f) a c h;exact JgP d k _ b e
theorem Jmj (b:(t.map Prod.fst).Nodup){p:Str×Ty}(c:p∈t):defN t p.1=some p.2:=by
 unfold defN
 cases a:t.find? fun q=>q.1=p.1 with
 | none=>
   grind
 | some q=>
   have d:=List.mem_of_find?_eq_some a;have e:=List.find?_some a;rw[Je8 b d c (by grind)];rfl
theorem Jo0 (h:finS t X=true):Qd (fun x=>gB x (Ko t t.length [])) X 1=true:=by
 unfold finS at h
 grind
theorem Jje (d:(t.map Prod.fst).Nodup)(h:∀p∈t,finS t p.2=true):∃a:Str->Nat,∀p∈t,p.2.A=9->a p.2.B<a p.1:=by
 obtain⟨a,f⟩:=JgP d t.length [] (fun _=>0) (fun p _ _ g=>by cases g);refine⟨fun x=>if gB x (Ko t t.length [])then a x else a ((defN t x).getD QF).B+1,fun p b e=> ?_⟩;have i:=Je7 (Jo0 (h p b)) e;simp[i];by_cases c:gB p.1 (Ko t t.length [])=true
 ·rw[Xd c];exact(f p b e c).2
 ·rw[Xa c,Jmj d b];simp
theorem JcQ {α:Type}{p q:α->Bool}(h:∀x,p x=true->q x=true){x:α}(d:q x=true)(e:p x=false):∀{l:List α},x∈l->(l.filter p).length<(l.filter q).length
 |[],c=>by cases c
 | a::r,c=>by
   have g:∀l:List α,(l.filter p).length<=(l.filter q).length:=fun l=>by
    induction l with
    |nil=>simp
    | cons b l f=>
      grind
   rcases Xw.1 c with rfl|c
   ·grind
   ·have f:=JcQ h d e c
    grind
theorem Jmk {b:Tb}{l:List (Str×Ty)}{c:Str->Nat}(m:∀p∈l,p.2.A=9->c p.2.B<c p.1)
  (o:∀(i:Nat) (n:Nd),b.a[i]? =some n->n.a=9->∃T j,(n.d,T)∈l/\defI b n.d=some j/\Kh b.a T=some j):
  ∀(f r i:Nat) (e:i<b.a.length),(b.a[i].a=9->c b.a[i].d<r)->(b.a.filter fun n=>decide (n.a=9/\c n.d<r)).length<f->
   ∃j q,Ku b f i=(j,true)/\b.a[j]? =some q/\q.a≠9
 |0,r,i,e,h,s=>absurd s (XO _)
 | f+1,r,i,e,h,s=>by
   by_cases k:b.a[i].a=9
   ·obtain⟨T,j,L,u,v⟩:=o i _ (Xg e) k;rw[j7 e k u];obtain⟨w,g,y⟩:=YK v;have z:=(Xz.1 g).1;have K:=(Xz.1 g).2;refine Jmk m o f (c b.a[i].d) j z (fun M=> ?_) ?_
    ·grind
    ·have:(b.a.filter fun n=>decide (n.a=9/\c n.d<c b.a[i].d)).length<(b.a.filter fun n=>decide (n.a=9/\c n.d<r)).length:=
      JcQ (x:=b.a[i]) (fun x t=>by
       grind) (Xo ⟨k,h k⟩) (Xq fun t=>Z9 _ t.2) (Xh e)
     omega
   ·rw[qH e k]
    grind
theorem kg.F {s:Sch}{i:Tb}(h:kg s i){X:Ty}(v:KS (hasN s.a) X=true)(t:(addT X 400 i).2.2.1=0):kg s (addT X 400 i).1/\Kh (addT X 400 i).1.a X=some (addT X 400 i).2.1:=by
 have w:=Jas X (left:=400) (tb:=i) (by decide) (by decide) v t h.c;obtain⟨r0,k,x,N⟩:=Yt X t;have g:Grown i (addT X 400 i).1:=⟨r0,by rw[k]⟩
 have y:(addT X 400 i).1.c=i.c:=by rw[k]
 have u:(addT X 400 i).1.d=i.d:=by rw[k]
 have z:(addT X 400 i).1.b=i.b:=by rw[k]
 refine⟨⟨h.e,w,fun p K=> ?_,h.l,fun f L=> ?_,fun n M=> ?_, ?_⟩,x⟩
 ·obtain⟨j,o,q⟩:=h.b p K;exact⟨j,by unfold defI;rw[y];exact o,g.A q⟩
 ·obtain⟨r,o,q⟩:=h.m f L;exact⟨r,by unfold sigI;rw[u];exact o,g.F q⟩
 ·unfold sigI;rw[u];exact h.a n M
 ·rw[z];exact g.A h.d
theorem Jcd {n:Str}(h:hasN t n=true):∃T,(n,T)∈t:=by
 obtain⟨p,a,e⟩:=List.any_eq_true.1 h
 grind
theorem kg.D (h:kg N u){i:Nat}(f:i<u.a.length):∃j o,Ku u (u.a.length+1) i=(j,true)/\u.a[j]? =some o/\o.a≠9:=by
 obtain⟨v,p,w,x,y,q⟩:=JdA h.e;obtain⟨r,g⟩:=Jje p q;refine Jmk g (fun i n f k=> ?_) _ (r u.a[i].d+1) i f (fun _=>XK _) (Nat.lt_succ_of_le (ZX _ _));obtain⟨T,t⟩:=Jcd (h.c.a i n f k);obtain⟨j,z,K⟩:=h.b _ t
 grind
mutual
def fitT :Ty->Bool
 | .mk _ _ ns ks=>decide (ns.length<=8)&&decide (ks.length<=8)&&ji ks
def ji :List Ty->Bool
 |[]=>true
 |t::r=>fitT t&&ji r
end
theorem JaO {k:Int}{n:Str}{a:List Ty}(h:fitT (.mk k n K a)=true):K.length<=8/\a.length<=8/\ji a=true:=by
 rw[fitT,Xj,Xj]at h
 grind
theorem JaP :∀{ks:List Ty},ji ks=true->∀i (h:i<ks.length),fitT ks[i]=true
 |[],_,i,h=>absurd h (by simp)
 | t::r,a,i,h=>by
   rw[ji,Xj]at a
   cases i with
   |zero=>grind
   |succ i=>exact JaP a.2 i (by grind)
mutual
theorem Jfa :∀(t:Ty) {left:Int} {b:Tb},(addT t left b).2.2.1=0->fitT t=true
 | .mk k n d f,left,b,h=>by
   rw[Qu]at h;by_cases c:left-1<0\/8<f.length\/8<d.length
   ·rw[Xd c]at h;cases h
   rw[Xa c]at h
   cases i:JB f (left-1) b with
   |mk t1 x=>
   obtain⟨a,e,l1⟩:=x;rw[i]at h;by_cases g:e=0
   ·have j:(JB f (left-1) b).2.2.1=0:=by rw[i];exact g
    rw[fitT,JgQ f j,Xo (by omega),Xo (by omega)];rfl
   ·have h:(if e≠0 then(t1,0,e,l1)else((layS t1 ⟨k,n,d,a⟩).1,(layS t1 ⟨k,n,d,a⟩).2.1,(layS t1 ⟨k,n,d,a⟩).2.2,l1):Tb×Nat×Int×Int).2.2.1=0:=h;rw[Xd g]at h;exact absurd h g
theorem JgQ :∀(c:List Ty) {left:Int} {a:Tb},(JB c left a).2.2.1=0->ji c=true
 |[],_,_,_=>by rw[ji]
 | t::r,left,a,h=>by
   rw[Kr]at h
   cases d:addT t left a with
   |mk t1 x=>
   obtain⟨i,e,l1⟩:=x;rw[d]at h;by_cases b:e=0
   ·have f:(addT t left a).2.2.1=0:=by rw[d];exact b
    subst b;have h:(JB r l1 t1).2.2.1=0:=h;rw[ji,Jfa t f,JgQ r h];rfl
   ·have h:(if e≠0 then(t1,[],e,l1)else((JB r l1 t1).1,i::(JB r l1 t1).2.1,(JB r l1 t1).2.2.1,(JB r l1 t1).2.2.2):Tb×List Nat×Int×Int).2.2.1=0:=h;rw[Xd b]at h;exact absurd h b
end
theorem Able.A (h:Able X):fitT X=true:=by
 obtain⟨_,_,_,h⟩:=h;exact Jfa X h
theorem Qy {c:List Nd}{r:List Ty}{l:List Nat}(h:JT c (X::r)=some l):∃a b,l=a::b/\Kh c X=some a/\JT c r=some b:=by
 rw[JT]at h
 grind
mutual
theorem Jfb {a:List Nd}:∀{X Y:Ty} {i:Nat},Kh a X=some i->Kh a Y=some i->X=Y
 | .mk k n p q, .mk r s e f,i,h,t=>by
   obtain⟨g,u,j⟩:=YK h;obtain⟨b,c,d⟩:=YK t;rw[u]at c;injection c with c;injection c with l m o v;have j:JT a q=some g:=j;have d:JT a f=some b:=d;rw[<-v]at d;have:=JgR j d;rw[this];have l:k=r:=l;have m:n=s:=m;have o:p=e:=o;rw[l,m,o]
theorem JgR {c:List Nd}:∀{X Y:List Ty} {i:List Nat},JT c X=some i->JT c Y=some i->X=Y
 |[],[],i,h,d=>rfl
 | [],y::r,i,h,d=>by
   obtain⟨a,b,rfl,_,_⟩:=Qy d
   cases h
 | x::l,[],i,h,d=>by
   obtain⟨a,b,rfl,_,_⟩:=Qy h
   cases d
 | x::l,y::r,i,h,d=>by
   obtain⟨a,b,rfl,f,g⟩:=Qy h;obtain⟨o,p,e,j,k⟩:=Qy d;injection e with m n;rw[m]at f;rw[n]at g;rw[Jfb f j,JgR g k]
end
theorem kg.A (h:kg N u){i:Nat}(f:Kh u.a X=some i):Able X:=by
 obtain⟨g,j,_⟩:=YK f;obtain⟨Y,k,n⟩:=h.c.b i (Xz.1 j).1;rw[Jfb f k];exact n
theorem kg.G (h:kg N u){k:Int}(f:k≠9)(j:(layS u ⟨k,[],[],[]⟩).2.2=0):kg N (layS u ⟨k,[],[],[]⟩).1:=by
 have n:addT (.mk k [] [] []) 400 u=((layS u ⟨k,[],[],[]⟩).1,(layS u ⟨k,[],[],[]⟩).2.1,(layS u ⟨k,[],[],[]⟩).2.2,399):=rfl;have g:KS (hasN N.a) (.mk k [] [] [])=true:=by
  rw[KS,Kv,Xo f];rfl
 have i:(addT (.mk k [] [] []) 400 u).2.2.1=0:=by grind
 have:=(h.F g i).1
 grind
end Eva
namespace Eva
open Go Go.RowKit Go.ChangeShapes
variable {t:List (Str×Ty)}{k:Nat}{b:Pt->Prop}{d:List V}{i:List (List V)}{q M:St}{p:Str->Bool}{j:List Value}{a:V}{u:Tb}{T:Pt}{U:Value}{K:List Str}{N:Sch}{O:V->St->Prop}{X:Ty}{Y:St->List V->Prop}{Z:World}
abbrev Rws :=List (List V×Loc)
def rosA (A:Rws):St:=rosR (A.map Prod.fst).reverse
def locA (A:Rws)(i:Nat):Loc:=(A.getD i ([],⟨0,0,0⟩)).2
def gA (A:Rws):Locs:=rosG (A.map Prod.fst).reverse.length (locA A)
def jk (ρ:Nat->Value)(w:World)(A:Rws):Prop:=∀A',A<+:A'->∀i (h:i<A.length),Qr (gA A') ρ A[i].2 (.f A[i].1) w/\A[i].2.b<w.heap.size
theorem Jo1 {A a:Rws}(h:A<+:a)(b:k<A.length):∃c:k<a.length,a[k]=A[k]:=by
 obtain⟨C,rfl⟩:=h
 grind
theorem Jjf (A:Rws):(A.map Prod.fst).reverse.length=A.length:=by simp
theorem Jml {A a:Rws}(h:A<+:a)(b:k<A.length):(rosA a).A (Pt.G k)= .f A[k].1:=by
 obtain⟨c,e⟩:=Jo1 h b;unfold rosA;rw[jW,Pt.B,Jjf,Xd c]
 grind
theorem JrT {A a:Rws}(h:A<+:a)(c:k<A.length):gA a (Pt.G k)=some A[k].2:=by
 obtain⟨b,e⟩:=Jo1 h c;unfold gA rosG locA;rw[Jjf,Pt.B,Xd b,Xt,Xg b,e];rfl
theorem jk.F (ρ:Nat->Value)(w:World):jk ρ w []:=fun _ _ i h=>absurd h (by simp)
theorem jk.D {ρ:Nat->Value}{A:Rws}(h:jk ρ Z A){a:Loc}(j:a.b<Z.heap.size)(k:∀e,A++[(d,a)]<+:e->Qr (gA e) ρ a (.f d) Z):jk ρ Z (A++[(d,a)]):=by
 intro e g i m;rcases Nat.lt_or_ge i A.length with c|c
 ·rw[Xx c];exact h e ((Ge _ _).trans g) i c
 grind
theorem Jjg {P:Program}{ρ:Nat->Value}{t:BT}(c:t.A fun i e=>KQ P ρ ⟨Z.heap.size,Z⟩ i e.b){A:Rws}(d:jk ρ Z A)
   {args:List V} (h:Does (tabT t) k args (rosA A) fun v _=>v= .h true) {xs:List Value} (g:RL (gA A) ρ args xs):
  Calls P k xs.toArray Z fun e j=>e= .returned (.bool true)/\Below Z.heap.size Z j:=by
 refine Jkt c (L:=(A.map Prod.fst).reverse) (locs:=locA A) (fun i n=> ?_) h g;have a:i<A.length:=by grind
 have l:locA A i=A[i].2:=by unfold locA;grind
 have m:(A.map Prod.fst).reverse.getD ((A.map Prod.fst).reverse.length-1-i) []=A[i].1:=by grind
 rw[l,m];exact d A (HH _) i a
def OpnC (ρ:Nat->Value)(w:World)(cs:List Value)(K:St->List V->Prop):Prop:=∀A,jk ρ w A->∃B e,jk ρ w (A++B)/\∀A',A++B<+:A'->RL (gA A') ρ e cs/\K (rosA A') e
def OpnV (ρ:Nat->Value)(w:World)(v:Value)(K:St->V->Prop):Prop:=∀A,jk ρ w A->∃B u,jk ρ w (A++B)/\∀A',A++B<+:A'->R (gA A') ρ u v/\K (rosA A') u
section
variable {ρ : Nat -> Value} {w : World}
theorem OpnC.F {a:St->List V->Prop}(h:OpnC ρ w j Y)(k:∀b e,Y b e->a b e):OpnC ρ w j a:=fun A g=>by
 obtain⟨B,e,i,c⟩:=h A g;exact⟨B,e,i,fun d f=>⟨(c d f).1,k _ _ (c d f).2⟩⟩
theorem OpnV.F {K a:St->V->Prop}(h:OpnV ρ w U K)(k:∀b e,K b e->a b e):OpnV ρ w U a:=fun A g=>by
 obtain⟨B,e,i,c⟩:=h A g;exact⟨B,e,i,fun d f=>⟨(c d f).1,k _ _ (c d f).2⟩⟩
theorem OpnC.L :OpnC ρ w [] fun _ e=>e=[]:=fun A a=>⟨[],[],by grind,fun b _=>⟨rfl,rfl⟩⟩
theorem OpnC.D {f c:List Value}{K g:St->List V->Prop}(h:OpnC ρ w f K)(k:OpnC ρ w c g):OpnC ρ w (f++c) fun i e=>∃a b,e=a++b/\K i a/\g i b:=fun A l=>by
 obtain⟨B,e,m,n⟩:=h A l;obtain⟨o,p,v,q⟩:=k _ m;refine⟨B++o,e++p,by grind,fun j d=> ?_⟩;rw[<-Za]at d;obtain⟨r,s⟩:=n j ((Ge _ _).trans d);obtain⟨t,u⟩:=q j d;exact⟨r.D t,_,_,rfl,s,u⟩
theorem OpnC.G (h:∀γ,RL γ ρ d j):OpnC ρ w j fun _ a=>a=d:=fun A b=>⟨[],d,by grind,fun c _=>⟨h _,rfl⟩⟩
theorem OpnV.D {K:St->V->Prop}(h:OpnV ρ w U K):OpnC ρ w [U] fun d e=>∃u,e=[u]/\K d u:=fun A f=>by
 obtain⟨B,u,g,a⟩:=h A f;exact⟨B,[u],g,fun b c=>⟨⟨_,_,rfl,(a b c).1,rfl⟩,_,rfl,(a b c).2⟩⟩
theorem OpnC.J (h:OpnC ρ w j Y):OpnV ρ w (.agg j.toArray) fun st u=>∃e,u= .j e/\Y st e:=fun A d=>by
 obtain⟨B,e,f,a⟩:=h A d;exact⟨B, .j e,f,fun b c=>⟨⟨_,rfl,(a b c).1⟩,_,rfl,(a b c).2⟩⟩
theorem OpnV.G {v:Value}{b:List Int}(h:IntsIn w v b)(g:0<w.heap.size):OpnV ρ w v fun i u=>Jam i u b:=fun A j=>by
 obtain⟨lo,k,l,m⟩:=Jos h g;obtain⟨u,a,n⟩:=m (Pt.G A.length);refine⟨[(b.map (V.d .i64),lo)],u,j.D k fun o _=>l _ _,fun o c=> ?_⟩;have e:A.length<(A++[(b.map (V.d .i64),lo)]).length:=by simp
 have f:=JrT c e;have r1:=Jml c e;simp at f r1;refine⟨n _ _ f, ?_⟩;rcases a with a|a
 ·exact .inl a
 ·exact .inr ⟨_,a,r1⟩
theorem Jjh {α:Type}{z:Nat}:∀{xs:List (List α)},(∀x∈xs,x.length=z)->∀k,k<xs.length*z->∃(h:k/z<xs.length),xs.flatten[k]? =(xs[k/z])[k%z]?
 |[],_,k,b=>by grind
 | x::r,d,k,b=>by
   have e:=d x (by simp);have f:0<z:=by grind
   rw[Zy];by_cases c:k<z
   ·rw[XP (by omega)];have g:k/z=0:=Nat.div_eq_of_lt c;have i:k%z=k:=Gn c
    grind
   ·have a:k-z<r.length*z:=by
     rw[XJ,ZS]at b;omega
    obtain⟨m,j⟩:=Jjh (xs:=r) (fun y l=>d y (Xl _ l)) (k-z) a;rw[X9 (by omega),e,j];have g:k/z=(k-z)/z+1:=by
     have:=Nat.add_div_right (k-z) f
     grind
    have i:k%z=(k-z)%z:=by
     have:=Nat.add_mod_right (k-z) z
     grind
    grind
theorem OpnC.I {α:Type}{z:Nat}{K:List V->St->α->Prop}:∀{xs:List (List Value)},(∀cs∈xs,∃r,OpnC ρ w cs fun g e=>e.length=z/\K e g r)->∃f:List α,f.length=xs.length/\OpnC ρ w xs.flatten fun g e=>∃d:List (List V),e=d.flatten/\(∀x∈d,x.length=z)/\d.length=f.length/\∀i (h:i<d.length) (o:i<f.length),K d[i] g f[i]
 |[],_=>⟨[],rfl,OpnC.L.F fun g e h=>⟨[],h,by simp,rfl,fun i h=>absurd h (by simp)⟩⟩
 | cs::xs,j=>by
   obtain⟨r,k⟩:=j cs (by simp);obtain⟨f,l,h⟩:=OpnC.I (xs:=xs) fun c m=>j c (Xl _ m);refine⟨r::f,by simp[l], ?_⟩;rw[Zy];refine(k.D h).F fun g e ⟨a,b,p,⟨q,s⟩,d,t,u,n,v⟩=>⟨a::d,by grind, ?_,by simp[n], ?_⟩
   ·grind
   grind
end
theorem OpnV.I {α:Type}{z:Nat}(z0:0<z){ρ:Nat->Value}{w:World}(h0:0<w.heap.size){a:Addr}{c d:Nat}(hl:c<=d){xs:List (List Value)}(Y:xs.length=c)(hz:∀x∈xs,x.length=z)(Z:∀k,k<c*z->w.cell? (a.add k)=xs.flatten[k]?)(j:0<d->∃v,w.cell? a=some v){K:List V->St->α->Prop}(hK:∀cs∈xs,∃r,OpnC ρ w cs fun N e=>e.length=z/\K e N r):
  ∃m:List α,m.length=c/\OpnV ρ w (.slice (some a) c d) fun N u=>∃l,SlAt (fun _=>True) N u z l/\l.length=m.length/\∀i (h:i<l.length) (h':i<m.length),K l[i] N m[i]:=by
 obtain⟨m,Q,q⟩:=OpnC.I hK;refine⟨m,by omega,fun A hA=> ?_⟩;obtain⟨B,e,h1,O⟩:=q A hA;have aa:e.length=c*z:=by
  have:=(O _ (HH _)).1.A;rw[<-this,<-Y];clear this O q hK Z Y Q
  induction xs with
  |nil=>simp
  | cons x r ih=>
    grind
 obtain⟨n,S⟩:∃n:Loc,n=if d=0 then⟨0,0,0⟩else⟨a.block,a.off,d*z⟩:=⟨_,rfl⟩
 have t:0<d->a=⟨a.block,a.off,none⟩:=fun g=>by
  obtain⟨v,P⟩:=j g;have:=World.cell?_spot P;obtain⟨b,o,s⟩:=a
  grind
 have hb:n.b<w.heap.size:=by
  rw[S]
  split
  ·exact h0
  ·rename_i g
   obtain⟨v,P⟩:=j (by omega);rw[t (by omega)]at P;obtain⟨T,y,fz,e1,_⟩:=kF P
   grind
 refine⟨B++[(e,n)], .u (Pt.G (A++B).length) 0 c z, ?_,fun U p=> ?_⟩
 ·rw[<-Za];refine h1.D hb fun U p i v hi=> ?_;obtain⟨x,W,ab⟩:=(O U ((Ge _ _).trans p)).1.H hi;have X:i<c*z:=by grind
  have g:d≠0:=fun e=>by grind
  have f:=Z i X;rw[W,t (by omega)]at f;have L:(⟨a.block,a.off,none⟩:Addr).add i=⟨a.block,a.off+i,none⟩:=by
   unfold Addr.add;simp
  rw[L]at f;obtain⟨T,y,fz,e1,e2⟩:=kF f
  grind
 ·rw[<-Za]at p;have M:(A++B).length<((A++B)++[(e,n)]).length:=by simp
  have g1:=JrT p M;have r1:=Jml p M;simp only[List.getElem_concat_length]at g1 r1;obtain⟨_,l,k1,k2,k3,k4⟩:=O U ((Ge _ _).trans p);have el:l.length=c:=by omega
  refine⟨⟨n,a,d,g1,rfl,hl,fun g=> ?_, ?_⟩,l,⟨k2, .inr ⟨_,0,trivial, .inl (by rw[el]),e, .inr r1,by grind, ?_⟩⟩,k3,k4⟩
  ·grind
  ·grind
  grind
theorem JdB :∀a:List Int,(Jbw a).flatten=a.map (V.d .i64)
 |[]=>rfl
 | z::a=>by
   have:=JdB a;unfold Jbw at this⊢
   grind
def QH (P:Pt->Prop)(st:St)(u:V)(rs:List Rw):Prop:=∃es,SlAt P st u 4 es/\es.length=rs.length/\rs.length<2^63/\∀i (h:i<es.length) (h':i<rs.length),RwC P st es[i] rs[i]
section
variable {H : Type} {enc : TypeId × Value -> H} {P : Program} {W : World} {ρ : Nat -> Value}
theorem JqA {t e:TypeId}{x:DataW H×List MemPlace}(q:P.underlying t=some (.slice e))(r:P.underlying e=some (.int .i64))(s:P.cellsOf e=1)
  (u:DataW.trod enc P W 0 (fun _=>true) true k t j=some x):
  ∃(v:Value) (d:List Int),j=[v]/\IntsIn W v d/\(∀z∈d,In64 z)/\d.length<=maxLen:=by
 rcases open_ints q r s u with⟨m,_⟩|⟨n,a,c,d,m,_,Q,S,w,_,y,K⟩
 ·exact⟨_,[],m, .inl ⟨rfl,rfl⟩,by simp,XC _⟩
 ·have w:d.length=c:=by grind
  refine⟨_,d.take a,m, ?_,fun z L=> ?_,by grind⟩
  ·have M:(d.take a).length=a:=by grind
   by_cases N:c=0
   ·have:a=0:=by omega
    subst this;subst N;exact .inr (.inl ⟨n,rfl,by simp⟩)
   ·right;right;have o:=y 0 (by omega);have f:(n.add 0).spot=none:=World.cell?_spot o;obtain⟨b,g,h⟩:=n;have f:h=none:=by simpa[Addr.add]using f
    subst f;have l:∀i,(⟨b,g,none⟩:Addr).add i=⟨b,g+i,none⟩:=fun i=>by
     unfold Addr.add;simp
    refine⟨b,g,c,by rw[M],by omega, ?_,fun i T=> ?_⟩
    ·obtain⟨O,p,U,X,_⟩:=kF (by rw[l]at o;exact o)
     grind
    grind
  ·have:=K z (Zh L);have: -9223372036854775808<=z/\z<=9223372036854775807:=by simpa[Lit.wf,IntKind.min,IntKind.max,IntKind.bits,IntKind.signed]using this
   exact⟨this.1,by omega⟩
theorem JaQ (h:k<=maxLen):k<2^63:=by
 have:maxLen=2^63-1:=rfl;omega
theorem JcR (a:Addr)(i j:Nat):(a.add i).add j=a.add (i+j):=by
 unfold Addr.add
 grind
structure Jmm (P:Program) (t ti ts tk:TypeId):Prop where
 d:∃f0 f1 f2 f3:Field,P.underlying t=some (.struct #[f0,f1,f2,f3])/\(f0.type=ti/\f0.offset=0)/\(f1.type=ti/\f1.offset=1)/\(f2.type=ts/\f2.offset=2)/\(f3.type=tk/\f3.offset=3)
 b:P.underlying ti=some (.int .i64)
 c:P.underlying ts=some (.slice ti)
 a:P.underlying tk=some (.slice t)
 f:P.cellsOf t=4
 e:P.cellsOf ti=1
 h:P.cellsOf ts=1
 g:P.cellsOf tk=1
theorem JkF {t L:TypeId}{z:Nat}(Q:0<z)(ht:P.underlying t=some (.slice L))(hz:P.cellsOf L=z)(h0:0<W.heap.size){α:Type}{K:List V->St->α->Prop}
  (hK:∀{j:List Value} {x:DataW H×List MemPlace},DataW.trod enc P W 0 (fun _=>true) true k L j=some x->j.length=z/\∃r,OpnC ρ W j fun l e=>e.length=z/\K e l r)
   {x:DataW H×List MemPlace} (h:DataW.trod enc P W 0 (fun _=>true) true (k+1) t j=some x):
  ∃(v:Value) (q:List α),j=[v]/\OpnV ρ W v fun l u=>∃s,SlAt (fun _=>True) l u z s/\s.length=q.length/\q.length<=maxLen/\∀i (h:i<s.length) (h':i<q.length),K s[i] l q[i]:=by
 rcases DataW.trod_slice ht h with⟨S,_⟩|⟨a,d,ah,T,ad,n,U,S,_,hb,hl,hm,ae,M,X,_⟩
 ·refine⟨_,[],S,fun A hA=>⟨[], .g,by grind,fun A' _=>⟨rfl,[],SlAt.K _ _ _,rfl,XC _,fun i h=>absurd h (by simp)⟩⟩⟩
 ·injection U with U;subst U;obtain⟨ai,hr⟩:=X rfl;rw[hz]at M hr;have af:∀i,i<d->∃f,W.cells? 0 (a.add (i*z)) z=some f/\∃y,DataW.trod enc P W 0 (fun _=>true) true k L f=some y:=fun i N=>by
   have:=M i N;rw[Xg (by omega),Zz]at this
   grind
  have ex:∀i,∃f:List Value,i<d->W.cells? 0 (a.add (i*z)) z=some f/\∃y,DataW.trod enc P W 0 (fun _=>true) true k L f=some y:=fun i=>by
   by_cases N:i<d
   ·grind
   ·exact⟨[],fun h=>absurd h N⟩
  obtain⟨F,hF⟩:=Classical.axiomOfChoice ex;have m:∀j∈(List.range d).map F,j.length=z/\∃r,OpnC ρ W j fun l e=>e.length=z/\K e l r:=fun j o=>by
   obtain⟨i,N,rfl⟩:=XA.1 o;obtain⟨w,y,O⟩:=hF i (Zm.1 N);exact hK O
  have Y:=OpnV.I (ρ:=ρ) Q (K:=K) h0 hl (a:=a) (xs:=(List.range d).map F) (by simp) (fun x Z=>(m x Z).1) ?aa ?ag fun j o=>(m j o).2
  ·obtain⟨q,aj,ho⟩:=Y;refine⟨_,q,S,ho.F fun l u ⟨s,w,O,p⟩=>⟨s,w,O,by omega,p⟩⟩
  ·intro b hk;obtain⟨hq,e⟩:=Jjh (xs:=(List.range d).map F) (fun x Z=>(m x Z).1) b (by grind);rw[e];have ab:b/z<d:=by grind
   have:=(hF (b/z) ab).1;obtain⟨_,_,p⟩:=World.cells?_some this;have:=p (b%z) (Ha _ Q);rw[JcR,show b/z*z+b%z=b by rw[Z0];exact Nat.div_add_mod b z]at this
   grind
  ·intro hc;by_cases c:0<d
   ·obtain⟨w,_⟩:=hF 0 c;obtain⟨_,O,p⟩:=World.cells?_some w;have:=p 0 Q;rw[JcR]at this;simp at this;have e0:a.add 0=a:=by rfl
    grind
   ·have:=hr 0 (by omega);rw[Xg (by omega),Zz]at this;obtain⟨f,w,_⟩:=this;obtain⟨_,O,p⟩:=World.cells?_some w;have:=p 0 Q;rw[JcR,show(d+0)*z+0=0 by grind]at this;have e0:a.add 0=a:=by rfl
    grind
theorem Jmn {t ti ts tk:TypeId}(j:Jmm P t ti ts tk)(h0:0<W.heap.size):∀(i:Nat),
  (∀{l:List Value} {x:DataW H×List MemPlace},DataW.trod enc P W 0 (fun _=>true) true i t l=some x->l.length=4/\∃r,OpnC ρ W l fun o e=>RwC (fun _=>True) o e r)/\
  (∀{l:List Value} {x:DataW H×List MemPlace},DataW.trod enc P W 0 (fun _=>true) true i tk l=some x->∃v p,l=[v]/\OpnV ρ W v fun o u=>QH (fun _=>True) o u p):=by
 intro i
 induction i with
 |zero=>exact⟨fun h=>by simp[DataW.trod]at h,fun h=>by simp[DataW.trod]at h⟩
 | succ i ih=>
   refine⟨fun{l x} h=> ?_,fun{l x} h=> ?_⟩
   ·obtain⟨g0,g1,g2,g3,q,⟨t0,o0⟩,⟨t1,o1⟩,⟨t2,o2⟩,⟨t3,w⟩⟩:=j.d;obtain⟨xs,n,y,_,L,M,s⟩:=DataW.trod_struct q h;injection y with y;subst y;rw[j.f]at L;refine⟨L, ?_⟩
    match l,L with
    | [c0,c1,c2,c3],_=>
      have N:xs.length=4:=M
      match xs,N with
      | [x0,x1,x2,x3],_=>
        have f0:=s 0 g0 rfl;have f1:=s 1 g1 rfl;have f2:=s 2 g2 rfl;have f3:=s 3 g3 rfl;rw[t0,o0,j.e]at f0;rw[t1,o1,j.e]at f1;rw[t2,o2,j.h]at f2;rw[t3,w,j.g]at f3;obtain⟨k,O,_,w0⟩:=DataW.trod_int j.b f0;obtain⟨m,Q,_,w1⟩:=DataW.trod_int j.b f1;obtain⟨v2,zs,S,i2,b2,l2⟩:=JqA j.c j.b j.e f2;obtain⟨v3,p,T,o3⟩:=ih.2 f3;injection O with O;injection Q with Q;injection S with S;injection T with T;subst O;subst Q;subst S;subst T;have bnd:∀{z:Int},(Lit.int .i64 z).wf=true->In64 z:=fun{z} h=>by
         have: -9223372036854775808<=z/\z<=9223372036854775807:=by simpa[Lit.wf,IntKind.min,IntKind.max,IntKind.bits,IntKind.signed]using h
         exact⟨this.1,by omega⟩
        refine⟨.mk k m zs p, ?_⟩;have oc:OpnC ρ W [.int .i64 k, .int .i64 m] fun _ e=>e=[.d .i64 k, .d .i64 m]:=OpnC.G fun γ=>⟨_,_,rfl,rfl,_,_,rfl,rfl,rfl⟩
        refine((oc.D (OpnV.G i2 h0).D).D o3.D).F fun o e ⟨a,b,U,⟨a1,a2,X,h3,u2,h4,h5⟩,u3,h6,es,h7,h8,h9,Y⟩=> ?_;rw[U,X,h3,h4,h6];refine .mk (bnd w0) (bnd w1) b2 ?_ h7 h8 ⟨JaQ l2,h9⟩ Y;rcases h5 with⟨rfl,rfl⟩|⟨r,rfl,hr⟩
        ·exact SlAt.K _ _ _
        ·refine⟨fun e he=> ?_, .inr ⟨r,0,trivial, .inl (by rw[Yd]),_, .inr hr,by rw[Yd];simp, ?_⟩⟩
         ·obtain⟨z,_,rfl⟩:=XA.1 he;rfl
         ·rw[Yd,XQ,Xr (by simp),JdB]
   ·obtain⟨v,p,U,X⟩:=JkF (ρ:=ρ) (z:=4) (by decide) j.a j.f h0 (K:=fun e o r=>RwC (fun _=>True) o e r) (fun{l x} k=>by
     obtain⟨Z,r,k4⟩:=ih.1 k;exact⟨Z,r,k4.F fun o e h=>⟨h.G,h⟩⟩) h
    exact⟨v,p,U,X.F fun o u ⟨es,k1,k2,Z,k4⟩=>⟨es,k1,k2,JaQ Z,k4⟩⟩
theorem JsD {t g i l:TypeId}(f:Jmm P t g i l)(m:0<W.heap.size){r:Reach}{d:DataW H}{p:List MemPlace}(a:Value.okWide P W r k t U)(h:DataW.Trod enc P W 0 (fun _=>true) true t U d p):
  ∃q:Rw,OpnV ρ W U fun n u=>∃e,u= .j e/\RwC (fun _=>True) n e q:=by
 obtain⟨_,_,_,_,b,_⟩:=f.d;obtain⟨o,rfl,_⟩:=WideShapes.okWide_struct b a;obtain⟨c,s⟩:=h;obtain⟨_,q,w⟩:=(Jmn (ρ:=ρ) f m c).1 s;refine⟨q, ?_⟩;have:=w.J;simpa[Value.cells]using this
theorem JqB {t n o g:TypeId}(m:Jmm P t n o g)(q:0<W.heap.size){r:Reach}{d:DataW H}{p:List MemPlace}(b:Value.okWide P W r k g U)(h:DataW.Trod enc P W 0 (fun _=>true) true g U d p):
  ∃i:List Rw,OpnV ρ W U fun s u=>QH (fun _=>True) s u i:=by
 obtain⟨a,c,e,rfl⟩:=WideShapes.okWide_slice m.a b;obtain⟨f,w⟩:=h;obtain⟨x,i,j,y⟩:=(Jmn (ρ:=ρ) m q f).2 w;have l:(Value.slice a c e).cells.toList=[.slice a c e]:=by rfl
 rw[l]at j;injection j with j;exact⟨i,by grind⟩
end
end Eva
namespace Eva
open Go Go.RowKit
variable {t:List (Str×Ty)}{k:Nat}{b:Pt->Prop}{d:List V}{i:List (List V)}{q M:St}{p:Str->Bool}{j:List Value}{a:V}{u:Tb}{T:Pt}{U:Value}{K:List Str}{N:Sch}{O:V->St->Prop}{X:Ty}{Y:St->List V->Prop}{Z:World}
theorem QH.G {Q:Pt->Prop}{e:List Rw}(h:QH b q a e)(k:∀r,b r->q.A r≠ .none->Q r/\M.A r=q.A r):QH Q M a e:=by
 obtain⟨es,f,g,j,l⟩:=h;exact⟨es,f.D k,g,j,fun i c d=>(l i c d).D k⟩
theorem QH.F {c:List Rw}(h:QH b q a c)(g:Gr q M):QH b M a c:=h.G fun r p e=>⟨p,g.d r e⟩
theorem QH.A {P:Pt->Prop}{st:St}{v:V}{b:List Rw}(h:QH P st v b):JU v=some (.d .i64 b.length, .a)/\v.B=true/\v.A=some [v]/\b.length<2^63:=by
 obtain⟨g,c,e,f,i⟩:=h;exact⟨by rw[c.G,e],c.B,c.A,f⟩
theorem QH.D {P:Pt->Prop}{c:St}{v:V}{b:List Rw}(h:QH P c v b){i:Nat}(m:i<b.length):
  ∃r o f k,Jo 4 v (.d .i64 i)=some (.e r o, .a)/\c.A r≠ .none/\ldn (c.A r) o 4=some (.j [.d .i64 b[i].A, .d .i64 b[i].n,k,f], .a)/\RwC P c [.d .i64 b[i].A, .d .i64 b[i].n,k,f] b[i]/\ld1 (c.A r) (o+3)=some (f, .a)/\∃g,SlAt P c f 4 g/\g.length=b[i].D.length/\b[i].D.length<2^63/\∀j (h:j<g.length) (s:j<b[i].D.length),RwC P c g[j] b[i].D[j]:=by
 obtain⟨g,p,t,u,q⟩:=h;obtain⟨r,o,w,x,y,z,K⟩:=p.I (i:=i) (by omega);have l:=q i (by omega) m;have L:=l;obtain⟨k,f,M,N,O,Q,S,T,U,W,⟨X,Y⟩,Z⟩:=l.A
 grind
def YB :List Str:=[[65],[66,101,101],[67,97,116],[68,111,103]]
def JrU :List Str:=[[102,97],[102,98],[102,99],[102,100]]
def typesOf (nms:List Str)(ts:List Rw):List (Str×Ty):=(nms.zip ts).map fun p=>(p.1,JK nms 5 p.2)
def Jo2 (nms:List Str)(r:Rw):List Ty:=(r.D.take 3).map (JK nms 4)
def JcS (nms:List Str)(ss:List Rw):List Sg:=(JrU.zip ss).map fun p=>⟨p.1,Jo2 nms p.2,JK nms 4 p.2⟩
def jD (m:Rw)(ts ss:List Rw):Sch:=⟨JK (YB.take ts.length) 6 m,typesOf (YB.take ts.length) ts,JcS (YB.take ts.length) ss⟩
theorem Jji (a:List Str)(b:List Rw)(h:a.length<=b.length):(typesOf a b).length=a.length:=by unfold typesOf;grind
theorem Jjj (a:List Str)(b:List Rw)(i:Nat)(c:i<a.length)(d:i<b.length)(h:i<(typesOf a b).length):(typesOf a b)[i]=(a[i],JK a 5 b[i]):=by simp[typesOf]
theorem JkG (a:List Str)(b:List Rw):(JcS a b).length=min 4 b.length:=by unfold JcS;simp[JrU]
structure LsF {α:Type} (C:(Pt->Prop)->St->List V->α->Prop) (st S1:St) (B:Pt->Prop) (z:Nat) (S:St) (v:V) (l:List α):Prop where
 g:Gr st S
 f:∀r,S1.A r≠ .none->¬B r->S.A r=S1.A r
 d:∀r,S1.A r≠ .none->S.A r≠ .none
 j:∀r,rowOf v=some r->S1.A r= .none
 m:∃es,SlF st S v z es/\es.length=l.length/\∀i (h:i<es.length) (h':i<l.length),C (fun r=>¬B r/\rowOf v≠some r) S es[i] l[i]
section
variable {α : Type} {C : (Pt -> Prop) -> St -> List V -> α -> Prop} {st S1 S S' : St} {B : Pt -> Prop} {z : Nat} {v : V} {l : List α}
theorem LsF.D (h:Gr st S1):LsF C st S1 B z S1 .g []:=⟨h,fun r _ _=>rfl,fun r e=>e,fun r e=>(by cases e),⟨[],SlF.I _ _ _,rfl,fun i h=>absurd h (by simp)⟩⟩
theorem LsF.F (hC:∀{P Q:Pt->Prop} {st c:St} {e:List V} {x:α},C P st e x->(∀r,P r->st.A r≠ .none->Q r/\c.A r=st.A r)->C Q c e x)(h:LsF C st S1 B z S v l)(g:Gr S S'):LsF C st S1 B z S' v l:=by
 obtain⟨k,o,q,s⟩:=h.m;exact⟨h.g.B g,fun r e n=>by rw[g.d r (h.d r e)];exact h.f r e n,fun r e=>by rw[g.d r (h.d r e)];exact h.d r e,h.j,k,o.G g,q,fun i a b=>hC (s i a b) fun r p e=>⟨p,g.d r e⟩⟩
theorem LsF.A (h:LsF C st S1 B z S v l){r:Pt}(a:rowOf v=some r):S.A r≠ .none:=by
 obtain⟨c,b,_⟩:=h.m;exact b.A a
theorem LsF.J (h:LsF C st S1 B z S v l):v.B=true/\v.A=some [v]:=by
 obtain⟨es,a,_⟩:=h.m;exact⟨a.D.B,a.D.A⟩
theorem LsF.I (hC:∀{P Q:Pt->Prop} {st s:St} {e:List V} {x:α},C P st e x->(∀r,P r->st.A r≠ .none->Q r/\s.A r=st.A r)->C Q s e x)(h:LsF C st S1 B z S v l){c:List V}{c':List V}(W:B T)(y:st.A T= .none)(K:S1.A T≠ .none)(e:S.A T= .a k c):LsF C st S1 B z (S.D T k fun u=> .a u c') v l:=by
 have w:∀r,¬B r->r≠T:=fun r n o=>n (by grind);obtain⟨L,M,N,O⟩:=h.m;refine⟨h.g.J y (Jb e) (by rw[e];rfl) (Jd _),fun r a n=>by rw[Ji _ _ _ (w r n)];exact h.f r a n,fun r a=> ?_,h.j,L,M.B fun r U=>Ji _ _ _ fun o=> ?_,N,fun i a b=>hC (O i a b) fun r q _=>⟨q,Ji _ _ _ (w r q.1)⟩⟩
 ·by_cases o:r=T
  ·rw[o,Jk];simp
  ·rw[Ji _ _ _ o];exact h.d r a
 ·exact K (by rw[<-o];exact h.j r U)
theorem Jmo (hC:∀{b Q:Pt->Prop} {st w:St} {d:List V} {x:α},C b st d x->(∀r,b r->st.A r≠ .none->Q r/\w.A r=st.A r)->C Q w d x)(h:LsF C st S1 B z S v l){x:α}(O:SlAt b S a z [d])(T:Kk d=true)(Z:C (fun r=>¬B r/\rowOf v≠some r) S d x)(hB:∀r,B r->S1.A r≠ .none)(hn:l.length<1000){R:V->St->Prop}
  (k:∀S' u,LsF C st S1 B z S' u (l++[x])->(∀p,S.A p≠ .none->rowOf v≠some p->S'.A p=S.A p)->R u S'):wW (appV S z v a) S R:=by
 obtain⟨U,W,X,h3⟩:=h.m;refine Qw h.g W O (fun o ha=>by grind) (by simp) (by grind) fun S' u g s r K=>k S' u ?_ K;have N:=h.g.D;have M:∀r,S.A r≠ .none->rowOf v≠some r->rowOf u≠some r:=fun q o t c=>by
  rcases r with d|d
  ·grind
  ·rw[d]at c;injection c with c;rw[<-c]at o;exact o (J9 N)
 have Y:∀{d:List V} {y:α},C (fun r=>¬B r/\rowOf v≠some r) S d y->C (fun r=>¬B r/\rowOf u≠some r) S' d y:=fun h=>hC h fun r p d=>⟨⟨p.1,M r d p.2⟩,K r d p.2⟩
 refine⟨g,fun r o n=> ?_,fun r o=> ?_,fun q L=> ?_,U++[d],s,by simp[X],fun i o t=> ?_⟩
 ·rw[K r (h.d r o) fun d=>o (h.j r d)];exact h.f r o n
 ·rw[K r (h.d r o) fun d=>o (h.j r d)];exact h.d r o
 ·rcases r with d|d
  ·exact h.j q (by grind)
  ·rw[d]at L;injection L with L;apply Xf;intro n;exact h.d q n (by rw[<-L];exact J9 N)
 grind
theorem JqC (h:SlF q st v z i)(k:∀r,rowOf v=some r->b r):SlAt b st v z i:=by
 refine⟨h.1, ?_⟩;rcases h.2 with c|⟨r,t,c,d,a⟩
 ·grind
 ·have e:rowOf v=some r:=by rcases a with a|a<;>rw[a]<;>rfl
  refine .inr ⟨r,0,k r e, ?_,i.flatten, .inl ⟨t,d⟩,by rw[Jt h.1];omega,by rw[XQ,<-Jt h.1,Zf]⟩
  grind
theorem LsF.G (hC:∀{P Q:Pt->Prop} {st c:St} {e:List V} {x:α},C P st e x->(∀r,P r->st.A r≠ .none->Q r/\c.A r=st.A r)->C Q c e x)(h:LsF C st S1 B z S v l)(g:∀r,B r->S1.A r≠ .none):LstAt (C (fun r=>¬B r) S) (fun r=>¬B r) S v z l:=by
 obtain⟨es,k,n,o⟩:=h.m;exact⟨es,JqC k fun r q b=>g r b (h.j r q),n,fun i a b=>hC (o i a b) fun r p _=>⟨p.1,rfl⟩⟩
end
def OwnS (st:St)(tv sv:V)(r:Pt):Prop:=st.A r= .none/\rowOf tv≠some r/\rowOf sv≠some r
def SgT (tv:V)(P:Pt->Prop)(st:St)(e:List V)(x:Sg):Prop:=SgC (fun r=>P r/\rowOf tv≠some r) st e x
theorem SgT.A {a:V}{P Q:Pt->Prop}{st st':St}{e:List V}{x:Sg}(h:SgT a P st e x)(k:∀r,P r->st.A r≠ .none->Q r/\st'.A r=st.A r):SgT a Q st' e x:=SgC.A h fun r p e=>⟨⟨(k r p.1 e).1,p.2⟩,(k r p.1 e).2⟩
structure SchF (st S:St) (c:List V) (tv sv:V) (s:Sch):Prop where
 f:TyC (OwnS st tv sv) S c s.b
 e:∃es,SlF st S tv 5 es/\es.length=s.a.length/\∀i (h:i<es.length) (h':i<s.a.length),NmC (OwnS st tv sv) S es[i] s.a[i]
 g:∃es,SlF st S sv 6 es/\es.length=s.c.length/\∀i (h:i<es.length) (h':i<s.c.length),SgC (OwnS st tv sv) S es[i] s.c[i]
 d:∀r,rowOf tv=some r->rowOf sv≠some r
theorem SchF.c {l S:St}{c:List V}{j k:V}{s:Sch}(h:SchF l S c j k s):SchC (fun r=>l.A r= .none) S (c++[j,k]) s:=by
 obtain⟨m,⟨n,t1,t2,t3⟩,⟨o,q,t,u⟩,_⟩:=h;exact⟨c,j,k,rfl,m.A fun r p _=>⟨p.1,rfl⟩,⟨n,t1.D,t2,fun i a b=>(t3 i a b).A fun r p _=>⟨p.1,rfl⟩⟩,⟨o,q.D,t,fun i a b=>(u i a b).A fun r p _=>⟨p.1,rfl⟩⟩⟩
section
variable {H : Type} {enc : TypeId × Value -> H} {P : Program} {W : World} {ρ : Nat -> Value}
end
theorem Jjk {R a:List V}(h:k+a.length<=d.length):JF (d++R) k a=JF d k a++R:=by
 rw[JL,JL,ZR (by omega),Gw h];simp only[Za]
theorem JhK {R a:List V}:JF (d++R) (d.length+k) a=d++JF R k a:=by
 rw[JL,JL,List.take_append,Gp,Xr (by omega),Xm (by omega)];rw[show d.length+k-d.length=k by omega,show d.length+k+a.length-d.length=k+a.length by omega];simp
theorem Jjl {z:Nat}:∀{es:List (List V)},(∀e∈es,e.length=z)->∀{k:Nat} (b:k<es.length) {a:Nat} {c:List V},a+c.length<=z->JF es.flatten (k*z+a) c=(es.set k (JF es[k] a c)).flatten
 |[],_,k,b,_,_,_=>absurd b (by simp)
 | e::r,d,k,b,a,c,f=>by
   have g:=d e (by simp);rw[Zy]
   cases k with
   | zero=>
     rw[Hx,ZD,Jjk (by omega)];rfl
   | succ k=>
     have h:=Jjl (es:=r) (fun x i=>d x (Xl _ i)) (k:=k) (by simpa using b) f;rw[show(k+1)*z+a=e.length+(k*z+a) by rw[ZS,g];omega,JhK,h];rfl
theorem Jmp {z:Nat}(h:SlF q M a z i)(c:k<i.length):
  ∃r t,rowOf a=some r/\q.A r= .none/\M.A r= .a t i.flatten/\Jo z a (.d .i64 (k:Int))=some (.e r (k*z), .a)/\i[k].length=z/\
   ∀(S':St) (j b:Nat) (f:List V),b+f.length<=z->S'.A r= .a j (JF i.flatten (k*z+b) f)->SlF q S' a z (i.set k (JF i[k] b f)):=by
 have g:=h.1;rcases h.2 with⟨_,rfl⟩|⟨r,t,n,o,l⟩
 ·exact absurd c (by simp)
 refine⟨r,t, ?_,n,o, ?_,g _ (Xh c),fun S' j b f p s=>⟨fun e m=> ?_, .inr ⟨r,j,n, ?_, ?_⟩⟩⟩
 ·rcases l with rfl|rfl<;>rfl
 ·rcases l with rfl|rfl
  ·rw[jX,Xd (by omega)];simp
  ·rw[qD,Xd (by omega)];simp
 ·rcases List.mem_or_eq_of_mem_set m with m|rfl
  ·exact g e m
  ·rw[JL];have:=g _ (Xh c);simp;omega
 ·rw[s,Jjl g c p]
 ·rw[List.length_set];exact l
section
variable {st S S' : St} {c : List V} {tv sv : V} {s : Sch}
end
theorem JfQ (a:Fr)(p:List Nat×List Nat)(r:List (List Nat×List Nat)):JP a (p::r)=(JP a [p]&&JP a r):=by simp only[JP,ZE,Hd,Gt]
def JhL (W:Str)(i:Nat):Str:=(W.drop (i+1)).takeWhile (· !=32)
theorem Jjm {W:Str}{N:Nat}(v:W.length<N)(o:∀i:Fin N,(W.drop i.1).head? =some 32->JhL W i.1=[]\/K.contains (JhL W i.1)=true)(x:∀w∈K,(Ks w&&Lib.contains W (32::(w++[32])))=true)(l:Str):(Ks l&&Lib.contains W (32::(l++[32])))=K.contains l:=by
 cases y:K.contains l with
 |true=>grind
 | false=>
   cases d:(Ks l&&Lib.contains W (32::(l++[32])))with
   |false=>rfl
   | true=>
     exfalso;simp at d;obtain⟨m,d⟩:=d;have p:l≠[]:=by intro e;subst e;cases m
     have q:∀c∈l,c≠32:=by
      intro c f e;subst e;have s:Yq l=true:=by
       cases l with
       |nil=>rfl
       |cons a r=>simp[Ks]at m;grind
      have:=Ze.1 s 32 f;exact absurd this (by decide)
     have g:∃i,Lib.occAt W (32::(l++[32])) i=true:=by
      apply Xf;intro z;have:Lib.index W (32::(l++[32]))= -1:=Lib.index_none fun j _=>by grind
      unfold Lib.contains at d
      grind
     obtain⟨i,n⟩:=g;have k:=Lib.occAt_room n;have b:i<N:=by grind
     have t:(32::(l++[32]))<+:W.drop i:=List.isPrefixOf_iff_prefix.1 n;obtain⟨r,u⟩:=t;have L:W.drop (i+1)=l++32::r:=by
      rw[<-List.tail_drop,<-u];simp
     have M:JhL W i=l:=by unfold JhL;simp_all
     rcases o ⟨i,b⟩ (by grind)with h|h
     ·grind
     grind
def Jfc :List Str:=[[66,111,111,108],[73,110,116],[84,101,120,116],[76,105,115,116],[77,97,112],[79,112,116],[85,110,105,111,110]]
def jl :List Str:=[[108,101,110],[110,111,116],[97,110,100],[111,114],[101,113],[108,116],[97,100,100],[115,117,98],[109,117,108],[115,104,108],[115,104,114],[105,56],[105,49,54],[105,51,50],[117,56],[117,49,54],[117,51,50],[99,97,116],[116,101,120,116],[97,116],[103,101,116],[104,97,115],[111,114,101,108,115,101]]
theorem Jo3 (l:Str):(Ks l&&Lib.contains words (32::(l++[32])))=Jfc.contains l:=
 Jjm (N:=100) (by decide) (by decide+kernel) (by decide+kernel) l
theorem JgS (l:Str):JaL l=jl.contains l:=
 Jjm (W:=Yr) (N:=100) (by decide) (by decide+kernel) (by decide+kernel) l
theorem JqD (n:Str):Ya n=(!Ks n||Jfc.contains n):=by
 have:=Jo3 n;unfold Ya
 grind
theorem Jfd :∀a b:List UInt8,(Op.bytesLess a b||decide (a=b))= !Op.bytesLess b a
 |[],[]=>rfl
 |[],_::_=>rfl
 |_::_,[]=>rfl
 | a::x,b::y=>by
   have c:=Jfd x y;simp[Op.bytesLess]
   grind
theorem JaR (a b:List UInt8):binV .leq (ofL a) (ofL b)=some (.h (!Op.bytesLess b a), .a):=by
 simp[binV,arith,ofL,Jag,Jb1,Jfd]
def ownS (has:Str->Bool)(t:Ty):Int:=
 if t.A<1\/9<t.A then 1 else
 if t.G.length≠KX t\/(t.B≠[]/\t.A≠9)\/(0<t.D.length/\¬(t.A=7\/t.A=8))then 12 else
 if t.A=9/\has t.B=false then 15 else KH t
theorem qf (a:Str->Bool)(k:Int)(n:Str)(f:List Str)(d:List Ty)(c b:Nat):mayS a (.mk k n f d) c b=
  if 400<b+1 then(3,b+1)else if 12<c then(13,b+1)else
  if ownS a (.mk k n f d)≠0 then(ownS a (.mk k n f d),b+1)else JD a d (c+1) (b+1):=by
 rw[qI];have e:ownS a (.mk k n f d)=if k<1\/9<k then 1 else if d.length≠KX (.mk k n f d)\/(n≠[]/\k≠9)\/(0<f.length/\¬(k=7\/k=8))then 12 else if k=9/\a n=false then 15 else KH (.mk k n f d):=rfl
 grind
theorem JqE :∀x:Fin 256,okB x.1=true->(letB x.1= !digB x.1):=by decide+kernel
def letR (x:Nat):Bool:=(decide (97<=x)&&decide (x<=122))||((decide (65<=x)&&decide (x<=90))||decide (x=95))
theorem JqF {x:Nat}(a:x<256):letR x=letB x:=by
 have:∀x:Fin 256,letR x.1=letB x.1:=by decide+kernel
 exact this ⟨x,a⟩
theorem JqG (c:UInt8)(r:List UInt8):Ks (c::r)=(decide ((c::r).length<=16)&&(letB c.toNat&&Yq (c::r))):=by
 have e:Ks (c::r)=(decide ((c::r).length<=16)&&(!digB c.toNat&&Yq (c::r))):=rfl;rw[e]
 cases a:Yq (c::r)with
 |false=>simp
 | true=>
   have b:okB c.toNat=true:=Ze.1 a c (by simp);rw[JqE ⟨c.toNat,ZI _⟩ b]
mutual
def KI (has:Str->Bool):Ty->Bool
 | .mk k n ns ks=>if k=7 then Qo has ks else if k=8 then Qn has ks else if k=9 then has n else true
def Qn (has:Str->Bool):List Ty->Bool
 |[]=>false
 |t::r=>KI has t||Qn has r
def Qo (has:Str->Bool):List Ty->Bool
 |[]=>true
 |t::r=>KI has t&&Qo has r
end
def finR (l:List (Str×Ty)):Nat->List Str->List Str
 |0,has=>has
 |k+1,has=>finR l k ((l.filter fun p=>KI has.contains p.2).map Prod.fst)
theorem JcT (l:List (Str×Ty))(k:Nat)(a:List Str):finR l (k+1) a=finR l k ((l.filter fun p=>KI a.contains p.2).map Prod.fst):=by rfl
theorem Jfe (a:Str->Bool)(k:Int)(n:Str)(c:List Str)(b:List Ty):KI a (.mk k n c b)=if k=7 then Qo a b else if k=8 then Qn a b else if k=9 then a n else true:=by rfl
theorem Jce (a:Str->Bool):∀ks:List Ty,Qn a ks=ks.any fun t=>KI a t
 |[]=>by rfl
 |t::r=>by rw[Qn,Jce a r];rfl
theorem Jcf (a:Str->Bool):∀ks:List Ty,Qo a ks=ks.all fun t=>KI a t
 |[]=>by rfl
 |t::r=>by rw[Qo,Jcf a r];rfl
mutual
def YC (l:List (Str×Ty)):Ty->Bool
 | .mk k n ns ks=>(if k=6 then decide ((KP l (l.length+1) (ks.headD QF)).A=6)else false)||Jau l ks
def Jau (l:List (Str×Ty)):List Ty->Bool
 |[]=>false
 |t::r=>YC l t||Jau l r
end
theorem Jjn (l:List (Str×Ty))(k:Int)(n:Str)(b:List Str)(a:List Ty):YC l (.mk k n b a)=((if k=6 then decide ((KP l (l.length+1) (a.headD QF)).A=6)else false)||Jau l a):=by rfl
theorem Jff (l:List (Str×Ty)):∀a:List Ty,Jau l a=a.any (YC l)
 |[]=>by rfl
 |t::r=>by rw[Jau,Jff l r];rfl
mutual
def okO :Ty->Bool
 | .mk k n ns ks=>(decide (k≠6)||decide (0<ks.length))&&okOs ks
def okOs :List Ty->Bool
 |[]=>true
 |t::r=>okO t&&okOs r
end
theorem Jo4 (k:Int)(n:Str)(b:List Str)(a:List Ty):okO (.mk k n b a)=((decide (k≠6)||decide (0<a.length))&&okOs a):=by rfl
theorem Jfg :∀{c:List Ty},okOs c=true->∀t∈c,okO t=true
 |[],_,t,h=>by cases h
 | a::r,h,t,b=>by
   rw[okOs,Xj]at h;rcases Xw.1 b with rfl|b
   ·exact h.1
   ·exact Jfg h.2 t b
mutual
theorem Jfh (a:Str->Bool):∀(t:Ty) (f g:Nat),(mayS a t f g).1=0->okO t=true
 | .mk k n d b,f,g,h=>by
   rw[qf]at h
   split at h
   ·cases h
   split at h
   ·cases h
   split at h
   ·rename_i c;exact absurd h c
   rename_i c
   have c:ownS a (.mk k n d b)=0:=by simpa using c
   rw[Jo4,JaS a b _ _ h,Gt];by_cases i:k=6
   ·have e:ownS a (.mk k n d b)=if k<1\/9<k then 1 else if b.length≠KX (.mk k n d b)\/(n≠[]/\k≠9)\/(0<d.length/\¬(k=7\/k=8))then 12 else if k=9/\a n=false then 15 else KH (.mk k n d b):=rfl;rw[e,Xa (by omega)]at c;by_cases j:b.length≠KX (.mk k n d b)\/(n≠[]/\k≠9)\/(0<d.length/\¬(k=7\/k=8))
    ·rw[Xd j]at c;cases c
    have:b.length=KX (.mk k n d b):=Xf fun h=>j (.inl h);have e:KX (.mk k n d b)=1:=by unfold KX;exact Xd (.inr (.inr i))
    rw[Zt];exact .inr (Xo (by omega))
   ·rw[Zt];exact .inl (Xo i)
theorem JaS (b:Str->Bool):∀(l:List Ty) (a d:Nat),(JD b l a d).1=0->okOs l=true
 |[],_,_,_=>by rw[okOs]
 | t::r,a,d,h=>by
   rw[Kg]at h
   split at h
   ·rename_i c;exact absurd h c
   rename_i c
   rw[okOs,Jfh b t a d (by simpa using c),JaS b r _ _ h];rfl
end
def refS (s:Sch):Int:=
  if 12<s.a.length\/12<s.c.length then 3 else
  if Kb none (s.a.map Prod.fst)≠0 then Kb none (s.a.map Prod.fst)else
  if(JD (hasN s.a) (s.a.map Prod.snd) 1 0).1≠0 then(JD (hasN s.a) (s.a.map Prod.snd) 1 0).1 else
  if(mayS (hasN s.a) s.b 1 (JD (hasN s.a) (s.a.map Prod.snd) 1 0).2).1≠0 then(mayS (hasN s.a) s.b 1 (JD (hasN s.a) (s.a.map Prod.snd) 1 0).2).1 else
  if(Qs (hasN s.a) none s.c (mayS (hasN s.a) s.b 1 (JD (hasN s.a) (s.a.map Prod.snd) 1 0).2).2).1≠0 then(Qs (hasN s.a) none s.c (mayS (hasN s.a) s.b 1 (JD (hasN s.a) (s.a.map Prod.snd) 1 0).2).2).1 else
  if(finR s.a (s.a.length+1) []).length≠s.a.length then 14 else
  if(Qk s).any (YC s.a)then 17 else 0
theorem Jcg {x:Row}{a b:Nat}{E:List V}(h:ldn x k (a+b)=some (.j E, .a)):ldn x (k+a) b=some (.j (E.drop a), .a):=by
 have d:∀l:List V,(if k+(a+b)<=l.length then some (V.j ((l.drop k).take (a+b)),Eff.a)else none)=some (.j E, .a)->(if k+a+b<=l.length then some (V.j ((l.drop (k+a)).take b),Eff.a)else none)=some (.j (E.drop a), .a):=fun l h=>by
  split at h
  ·rename_i c
   injection h with h;injection h with h _;injection h with h;rw[Xd (by omega),<-h,Gg,ZH];simp
  grind
 cases x with
 |a t l=>rw[kO]at h⊢;grind
 |f l=>rw[Jez]at h⊢;grind
 |_=>cases h
theorem JdZ {x:Row}{n j:Nat}{E:List V}(h:ldn x k n=some (.j E, .a))(c:j<n){v:V}(d:E[j]? =some v):ld1 x (k+j)=some (v, .a):=by
 have b:∀l:List V,(if k+n<=l.length then some (V.j ((l.drop k).take n),Eff.a)else none)=some (.j E, .a)->(l[k+j]?).map (fun v=>(v,Eff.a))=some (v, .a):=fun l h=>by grind
 cases x with
 |a t l=>rw[kO]at h;rw[JcK];grind
 |f l=>rw[Jez]at h;rw[Jkr];grind
 |_=>cases h
theorem Jo5 (b:Str->Bool)(k:Int)(n:Str)(d:List Str)(c:List Ty)(a:Nat):Qd b (.mk k n d c) a=if 12<a then false else if k=9 then b n else if k=8 then kH b c (a+1)else if k=7 then kI b c (a+1)else true:=by rfl
mutual
theorem Jfi (a h:Str->Bool):∀(t:Ty) (d m:Nat),(mayS h t d m).1=0->Qd a t d=KI a t
 | .mk k n o j,d,m,e=>by
   rw[qf]at e;by_cases l:400<m+1
   ·rw[Xd l]at e;cases e
   rw[Xa l]at e;by_cases b:12<d
   ·rw[Xd b]at e;cases e
   rw[Xa b]at e;by_cases c:ownS h (.mk k n o j)≠0
   ·rw[Xd c]at e;exact absurd e c
   rw[Xa c]at e;obtain⟨p,q⟩:=JgT a h j (d+1) (m+1) e;rw[Jo5,Jfe,Xa b,p,q];by_cases f:k=9
   ·subst f;rfl
   by_cases g:k=8
   ·subst g;rfl
   by_cases i:k=7
   ·subst i;rfl
   rw[Xa f,Xa g,Xa i,Xa i,Xa g,Xa f]
theorem JgT (a h:Str->Bool):∀(b:List Ty) (d m:Nat),(JD h b d m).1=0->kH a b d=Qn a b/\kI a b d=Qo a b
 |[],d,m,e=>⟨by rw[kH,Qn],by rw[kI,Qo]⟩
 | t::r,d,m,e=>by
   rw[Kg]at e
   split at e
   ·rename_i c;exact absurd e c
   rename_i c
   have c:(mayS h t d m).1=0:=by simpa using c
   obtain⟨f,g⟩:=JgT a h r _ _ e;rw[kH,Qn,kI,Qo,Jfi a h t d m c,f,g];exact⟨rfl,rfl⟩
end
theorem kW (h:Str->Bool):∀(f:List Ty) (d m:Nat),(JD h f d m).1=0->∀t∈f,∃g,(mayS h t d g).1=0
 |[],d,m,e,t,b=>by cases b
 | a::r,d,m,e,t,b=>by
   rw[Kg]at e
   split at e
   ·omega
   rename_i c
   have c:(mayS h a d m).1=0:=by omega
   rcases Xw.1 b with rfl|b
   ·grind
   ·exact kW h r _ _ e t b
mutual
theorem YL {p q:Str->Bool}(h:∀x,p x=true->q x=true):∀(t:Ty),KI p t=true->KI q t=true
 | .mk k n f a,e=>by
   rw[Jfe]at e⊢;obtain⟨b,d⟩:=JdC h a
   split
   ·rename_i c;rw[Xd c]at e;exact d e
   rename_i c;rw[Xa c]at e
   split
   ·rename_i c;rw[Xd c]at e;exact b e
   rename_i c;rw[Xa c]at e
   split
   ·rename_i c;rw[Xd c]at e;exact h _ e
   ·rfl
theorem JdC {p q:Str->Bool}(h:∀x,p x=true->q x=true):∀(c:List Ty),(Qn p c=true->Qn q c=true)/\(Qo p c=true->Qo q c=true)
 |[]=>⟨fun e=>(by rw[Qn]at e;cases e),fun _=>(by rw[Qo])⟩
 | t::r=>by
   obtain⟨f,g⟩:=JdC h r;have d:=YL h t;rw[Qn,Qn,Qo,Qo,Zt,Zt,Xj,Xj];exact⟨fun e=>e.elim (fun a=> .inl (d a)) fun b=> .inr (f b),fun e=>⟨d e.1,g e.2⟩⟩
end
def Jbd (l:List (Str×Ty))(has:List Str):List Str:=(l.filter fun p=>KI has.contains p.2).map Prod.fst
theorem Qp (l:List (Str×Ty)):∀(k:Nat) (a:List Str),finR l (k+1) a=Jbd l (finR l k a)
 |0,a=>by rfl
 |k+1,a=>by rw[JcT,Qp l k,JcT]
theorem Jch {x:Str}:(Jbd t K).contains x=true<->∃p∈t,p.1=x/\KI K.contains p.2=true:=by
 unfold Jbd;rw[ZW,XA];constructor
 ·grind
 ·rintro⟨p,a,b,c⟩
  grind
theorem Jm8 {b:List Str}(h:∀x,K.contains x=true->b.contains x=true):∀x,(Jbd t K).contains x=true->(Jbd t b).contains x=true:=fun x e=>by
 obtain⟨p,c,d,f⟩:=Jch.1 e;exact Jch.2 ⟨p,c,d,YL h _ f⟩
theorem Jmq (l:List (Str×Ty)):∀(k:Nat) (x:Str),(finR l k []).contains x=true->(finR l (k+1) []).contains x=true
 |0,x,h=>by rw[finR]at h;cases h
 | k+1,x,h=>by
   rw[Qp]at h;rw[Qp];exact Jm8 (Jmq l k) x h
theorem JgU {α:Type}{p q:α->Bool}:∀{l:List α},(∀x∈l,q x=true->p x=true)->(l.filter q).length<=(l.filter p).length
 |[],_=>Xb _
 | a::r,h=>by
   have c:=JgU (l:=r) fun x b=>h x (Xl _ b)
   grind
theorem Jav {α:Type}{p q:α->Bool}:∀{l:List α},(∀x∈l,q x=true->p x=true)->(l.filter p).length<=(l.filter q).length->l.filter p=l.filter q
 |[],_,_=>rfl
 | a::r,h,b=>by
   have e:∀x∈r,q x=true->p x=true:=fun x f=>h x (Xl _ f);by_cases c:q a=true
   ·have d:=h a (by simp) c;simp[List.filter,c,d]at b⊢;rw[Jav e (by omega)]
   ·have c:q a=false:=by grind
    by_cases d:p a=true
    ·simp[List.filter,c,d]at b;have:=JgU e;omega
    ·have d:p a=false:=by grind
     simp[List.filter,c,d]at b⊢;exact Jav e b
theorem JgV (l:List (Str×Ty)):∀k:Nat,k<=(finR l k []).length\/∃j,j<k/\finR l (j+1) []=finR l j []
 |0=> .inl (XC _)
 | k+1=>by
   rcases JgV l k with h|⟨j,o,q⟩
   ·by_cases e:finR l (k+1) []=finR l k []
    ·grind
    ·left
     cases k with
     | zero=>
       cases c:finR l 1 []with
       |nil=>rw[c,finR]at e;grind
       |cons a r=>simp
     | succ k=>
       have up:=Jmq l k;have d:=Qp l k [];have hC:=Qp l (k+1) [];obtain⟨A,f⟩:∃A,A=finR l k []:=⟨_,rfl⟩
       obtain⟨B,g⟩:∃B,B=finR l (k+1) []:=⟨_,rfl⟩
       rw[<-f]at up d;rw[<-g]at up d hC h e;rw[hC]at e⊢;refine Nat.lt_of_not_le fun i=>e ?_;have b:(Jbd l B).length<=B.length:=by omega
       rw[d]at b
       conv=>rhs;rw[d]
       rw[<-d]at b;unfold Jbd at b⊢;congr 1;refine Jav (fun x _ m=>YL up _ m) ?_;rw[XU]at b;have n:B.length=(l.filter fun p=>KI A.contains p.2).length:=by rw[d];unfold Jbd;simp
       omega
   grind
theorem Jo6 (l:List (Str×Ty)):∀k:Nat,(finR l k []).length<=l.length
 |0=>by rw[finR];simp
 | k+1=>by
   rw[Qp];unfold Jbd
   grind
theorem JcU {l:List (Str×Ty)}{j:Nat}(h:finR l (j+1) []=finR l j []):∀i,finR l (j+i) []=finR l j []
 |0=>rfl
 | i+1=>by
   rw[<-ZU,Qp,JcU h i,<-Qp,h]
theorem Jjo (l:List (Str×Ty)):finR l (l.length+1) []=finR l l.length []:=by
 rcases JgV l (l.length+1)with h|⟨j,d,c⟩
 ·have:=Jo6 l (l.length+1);omega
 ·have a:=JcU c (l.length-j);have b:=JcU c (l.length+1-j)
  grind
theorem Jjp :∀(r:List (Str×Ty)) (a:List (Str×Bool)) (x:Str),gB x a=true->gB x (K8 r a)=true
 |[],a,x,h=>by rw[K8];exact h
 | (n,t)::r,a,x,h=>by
   rw[K8];refine Jjp r _ x ?_;rw[Jbc]
   grind
theorem Jjq :∀(r:List (Str×Ty)) (b a:List (Str×Bool)),(∀x,gB x a=true->gB x b=true)->(∀p∈r,∀f,Qd f p.2 1=KI f p.2)->∀p∈r,KI (fun x=>gB x a) p.2=true->gB p.1 (K8 r b)=true
 |[],b,a,h,d,p,c,e=>by cases c
 | (n,t)::r,b,a,h,d,p,c,e=>by
   rw[K8];rcases Xw.1 c with rfl|c
   ·refine Jjp r _ _ ?_;rw[Jbc,Xd rfl,d (n,t) (by simp),YL h _ e,Bool.or_true]
   ·refine Jjq r _ a (fun x g=> ?_) (fun p c=>d p (Xl _ c)) p c e;rw[Jbc]
    grind
theorem Jjr {l:List (Str×Ty)}{L:Str->Bool}(hL:∀p∈l,KI L p.2=true->L p.1=true):∀(r:List (Str×Ty)) (a:List (Str×Bool)),(∀p∈r,p∈l)->(∀p∈r,∀f,Qd f p.2 1=KI f p.2)->(∀x,gB x a=true->L x=true)->∀x,gB x (K8 r a)=true->L x=true
 |[],a,d,g,h,x,c=>by rw[K8]at c;grind
 | (n,t)::r,a,d,g,h,x,c=>by
   rw[K8]at c;refine Jjr hL r _ (fun p i=>d p (Xl _ i)) (fun p i=>g p (Xl _ i)) (fun y b=> ?_) x c;rw[Jbc]at b
   split at b
   ·rename_i e
    rw[Zt]at b;rcases b with b|b
    ·grind
    ·rw[g (n,t) (by simp)]at b;rw[e];exact hL (n,t) (d _ (by simp)) (YL h _ b)
   grind
theorem JgW {l:List (Str×Ty)}{L:Str->Bool}(hL:∀p∈l,KI L p.2=true->L p.1=true)(c:∀p∈l,∀f,Qd f p.2 1=KI f p.2):∀(k:Nat) (a:List (Str×Bool)),(∀x,gB x a=true->L x=true)->∀x,gB x (Ko l k a)=true->L x=true
 |0,a,h,x,b=>by rw[Ko]at b;grind
 | k+1,a,h,x,b=>by
   rw[Ko]at b;exact JgW hL c k _ (Jjr hL l a (fun p d=>d) c h) x b
theorem JgX {l:List (Str×Ty)}(b:∀p∈l,∀f,Qd f p.2 1=KI f p.2):∀(k j:Nat) (a:List (Str×Bool)),(∀x,(finR l j []).contains x=true->gB x a=true)->∀x,(finR l (j+k) []).contains x=true->gB x (Ko l k a)=true
 |0,j,a,h,x,d=>by rw[Ko];grind
 | k+1,j,a,h,x,d=>by
   rw[Ko];refine JgX b k (j+1) _ (fun y c=> ?_) x (by grind);rw[Qp]at c;obtain⟨p,e,g,i⟩:=Jch.1 c;rw[<-g];exact Jjq l a a (fun _ h=>h) b p e (YL h _ i)
theorem JkH (c:∀p∈t,∀f,Qd f p.2 1=KI f p.2):(fun x=>gB x (Ko t t.length []))=fun x=>(finR t (t.length+1) []).contains x:=by
 funext x;have a:=Jjo t;have g:gB x (Ko t t.length [])=true->(finR t (t.length+1) []).contains x=true:=fun h=>by
  refine JgW (L:=fun x=>(finR t (t.length+1) []).contains x) (fun p d e=> ?_) c t.length [] (fun y b=>by cases b) x h;rw[a]at e;show(finR t (t.length+1) []).contains p.1=true;rw[Qp];exact Jch.2 ⟨p,d,rfl,e⟩
 have i:(finR t (t.length+1) []).contains x=true->gB x (Ko t t.length [])=true:=fun h=>by
  rw[a]at h;refine JgX c t.length 0 [] (fun y b=>by rw[finR]at b;cases b) x ?_
  grind
 grind
theorem JsE (a:(JD (hasN t) (t.map Prod.snd) 1 0).1=0)(b:(mayS (hasN t) X 1 0).1=0):finS t X=KI (fun x=>(finR t (t.length+1) []).contains x) X:=by
 unfold finS;rw[Xa (fun k=>k a),Xa (fun k=>k b),Jfi _ _ X 1 0 b];rw[JkH fun p c f=>by
  obtain⟨d,e⟩:=kW _ _ _ _ a p.2 (XA.2 ⟨p,c,rfl⟩);exact Jfi f _ p.2 1 d e]
end Eva
