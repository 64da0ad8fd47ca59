/- An evaluator of the model's code, proved to tell what the model does. Operations on val -/
import Derived.Test.YtmcjecniobkggaaGreatEva5
import Derived.ProofKit
import Derived.OpenShut
import Derived.ChangeSame
import Derived.HandedShaped
set_option linter.constructorNameAsVariable false
set_option linter.unusedVariables false
set_option linter.unusedSimpArgs false
set_option linter.unusedSectionVars false
namespace Eva
open Go Go.RowKit
variable {s:World}
def boxV (st:St)(x:V):Option (V×Eff):=match x.A with
  |some vs=>if Kk vs then some (.e st.b 0,Eff.b fun t=> .a t vs)else none
  |none=>none
def JnP (_:St)(zs:List V)(ps:List (Nat×Nat×V)):Option (V×Eff):=(YU zs ps).map fun l=>(.j l, .a)
def bslV (st:St)(z n:Nat)(zs:List V)(ps:List (Nat×Nat×V)):Option (V×Eff):=match YU zs ps with
  |some l=>if Kk l/\l.length=n*z then some (.m st.b 0 n z n,Eff.b fun t=> .a t l)else none
  |none=>none
def JnQ (_:St)(k:IntKind)(x:V):Option (V×Eff):=match x with
  | .d _ n=>some (.d k (k.wrap n), .a)
  |_=>none
def btsV (st:St)(x:V):Option (V×Eff):=match slen x with
  | some n=>match JA st 1 n x with
    |some l=>(Q0 l).map fun v=>(.t n v, .a)
    |none=>none
  |none=>none
def Jlj (st:St)(z:Nat)(zs:List V)(n c:V):Option (V×Eff):=match QZ n,QZ c with
  |some n,some c=>if n<=c/\c<2^20/\zs.length=z then some (.m st.b 0 n z c,Eff.b fun t=> .a t (List.replicate c zs).flatten)else none
  |_,_=>none
def Jb0 (_:St)(x:V)(lo hi:Option V):Option (V×Eff):=match x with
  | .t n v=>match J7 0 lo,J7 n hi with
    |some l,some h=>if l<=h/\h<=n then some (.t (h-l) (scut v l h), .a)else none
    |_,_=>none
  |_=>none
def QV (_:St)(z:Nat)(x:V)(lo hi mx:Option V):Option (V×Eff):=(YV z x lo hi mx).map fun v=>(v, .a)
def Jrr (st:St)(n z:Nat)(x:V)(lo hi mx:Option V):Option (V×Eff):=match x with
  | .e r o=>match st.A r with
    | .a _ l=>if o+n*z<=l.length then(YV z (.m r o n z n) lo hi mx).map fun v=>(v, .a)else none
    |_=>none
  |_=>none
def jz (st:St)(e:EK)(z:V)(ok:Bool)(m k:V):Option (V×Eff):=match Jd8 st m with
  | some es=>if !e.A k then none else match Yz e k es 0 with
    |some (some (_,v))=>some (if ok then .p [v, .h true]else v, .a)
    |some none=>some (if ok then .p [z, .h false]else z, .a)
    |none=>none
  |none=>none
def Jf6 (st:St)(e:EK)(m k v:V):Option (V×Eff):=match m with
  | .q r=>match st.A r with
    | .b t es=>if !e.A k then none else match Yz e k es 0 with
      |some (some (i,_))=>some (Kj,Eff.d r t fun u=> .b u (es.modify i fun _=>(k,v)))
      |some none=>some (Kj,Eff.d r t fun u=> .b u (es++[(k,v)]))
      |none=>none
    |_=>none
  |_=>none
def Jrs (st:St)(x:V):Option (V×Eff):=match x with
  | .t n v=>some (.e st.b 0,Eff.b fun t=> .e t n v 0)
  |_=>none
def Jlk (st:St)(x:V):Option (V×Eff):=match x with
  | .w=>some (.e st.b 0,Eff.b fun t=> .d t none 0 0)
  | .q r=>match st.A r with
    | .b _ es=>some (.e st.b 0,Eff.b fun t=> .d t (some r) es.length 0)
    |_=>none
  |_=>none
def Jeq (st:St)(x:V):Option (V×Eff):=match x with
  | .e r 0=>match st.A r with
    | .e t n v pos=>
      if pos<n then
       (if Yg v pos<128 then some (.p [.h true, .d .i64 pos, .d .i32 (Yg v pos)],Eff.d r t fun u=> .e u n v (pos+1))else some (.p [.h true, .d .i64 pos, .d .i32 (Utf8.decode (jJ n v) pos).1],Eff.d r t fun u=> .e u n v (pos+(Utf8.decode (jJ n v) pos).2)))
      else some (.p [.h false], .a)
    |_=>none
  |_=>none
def Jer (st:St)(x:V):Option (V×Eff):=match x with
  | .e r 0=>match st.A r with
    | .d _ none _ _=>some (.p [.h false], .a)
    | .d t (some m) n0 cnt=>match st.A m with
      | .b _ es=>
        if es.length≠n0 then none
        else if cnt<n0 then some (.p [.h true, .y, .y],Eff.d r t fun u=> .d u (some m) n0 (cnt+1))
        else some (.p [.h false], .a)
      |_=>none
    |_=>none
  |_=>none
def appV (st:St)(z:Nat)(s x:V):Option (V×Eff):=match slen x with
  | some k=>match JA st z k x with
    |some new=>if k<2^20/\Kk new=true then JI st z k new s else none
    |none=>none
  |none=>none
def copyV (st:St)(z:Nat)(d x:V):Option (V×Eff):=match slen d,slenX x with
  | some n,some k=>match cellsX st z (Nat.min k n) x with
    | some vs=>if Nat.min k n=0 then some (.d .i64 0, .a)else
      match jQ d with
      |some p=>(JO st p vs).map fun e=>(.d .i64 (Nat.min k n),e)
      |none=>none
    |none=>none
  |_,_=>none
def Jhu (st:St)(z:Nat)(zs:List V)(x:V):Option (V×Eff):=match slen x with
  | some n=>if n=0 then some (Kj, .a)else
    match jQ x with
    |some p=>if zs.length=z then(JO st p (List.replicate n zs).flatten).map fun e=>(Kj,e)else none
    |none=>none
  |none=>none
structure E where
 b:Self->List V->St->Option (V×St)
def Jf7 :Self->List V->St->Option (V×St):=fun _ _ _=>none
inductive BT where
 |a (i:Nat) (e:E)
 |b (n:Nat) (l r:BT)
def selB :BT->Nat->(Self->List V->St->Option (V×St))
 | .a i e,f=>bif Nat.beq f i then e.b else Jf7
 | .b n l r,f=>bif Nat.ble f n then selB l f else selB r f
def BT.A (p:Nat->E->Prop):BT->Prop
 | .a i e=>p i e
 | .b _ l r=>l.A p/\r.A p
def tabT (t:BT):Table:=fun f=>some (selB t f)
theorem Jrt {P:Program}{ρ:Nat->Value}{c:Bs}{t:BT}(h:t.A fun i e=>KQ P ρ c i e.b):∀f,KQ P ρ c f (selB t f):=by
 induction t with
 | a i e=>
   intro f;show KQ P ρ c f (bif Nat.beq f i then e.b else Jf7)
   cases j:Nat.beq f i with
   |true=>rw[Nat.eq_of_beq_eq_true j];exact h
   |false=>exact fun _ _ _ _ _ _ k=>by cases k
 | b n l r d g=>
   intro f;show KQ P ρ c f (bif Nat.ble f n then selB l f else selB r f)
   cases Nat.ble f n with
   |true=>exact d h.1 f
   |false=>exact g h.2 f
noncomputable def Jdm (g:List V->Option V):E:={b:=fun _ args st=>match g args with
 |some v=>some (v,st)
 |none=>none}
def hasM (g:Nat)(w:World):Prop:=g<w.heap.size/\∃m:Int,w.cell? ⟨g,0,none⟩=some (.int .i64 m)
theorem Jhv {g:Nat}(h:∃m:Int,s.cell? ⟨g,0,none⟩=some (.int .i64 m)):hasM g s:=by
 refine⟨?_,h⟩;obtain⟨m,a⟩:=h;apply Xf;intro b;have:s.heap[g]? =none:=Array.getElem?_eq_none (by omega);simp[World.cell?,this]at a
theorem JnR {γ:Locs}{ρ:Nat->Value}{c:Pt->Row}{W:World}{g:Nat}(h:Rel γ ρ ⟨W.heap.size,W⟩ c s)(b:hasM g W):hasM g s:=by
 obtain⟨m,a⟩:=b.2;refine Jhv ⟨m, ?_⟩;rw[<-a];exact World.cell?_of_block (w:=W) (h.j g b.1)
def Jll :List V->Option V
 |[]=>some (.h true)
 |_=>none
theorem Jqm {P : Program} {ρ : Nat -> Value} {W : World} {f : Nat} {fn : Func} (h1 : P.funcs[f]? = some fn) (h2 : fn.body.isSome = true) (h3 : fn.name ≠ "runtime.NumGoroutine") {g : Nat} (hm : hasM g W)
  (hc:∀w,hasM g w->Calls P f #[] w fun e w'=>e= .returned (.bool true)/\Below w.heap.size w w'):KQ P ρ ⟨W.heap.size,W⟩ f (Jdm Jll).b:=
 Jlh h1 h2 h3 fun args v hv γ c w xs hx hrel=>by
  unfold Jll at hv
  split at hv
  ·injection hv with hv;subst hv;simp only[RL]at hx;subst hx;exact(hc w (JnR hrel hm)).mono fun e w' ⟨k1,k2⟩=>⟨_,k1,rfl,k2⟩
  ·cases hv
theorem Jdn {P : Program} {ρ : Nat -> Value} {W : World} {f : Nat} {fn : Func} (h1 : P.funcs[f]? = some fn) (h2 : fn.body.isSome = true) (h3 : fn.name ≠ "runtime.NumGoroutine") {g : Nat} (hm : hasM g W)
  (hc:∀(s sub:ByteArray) (m:Int) (w:World),s.size<4294967281->w.cell? ⟨g,0,none⟩=some (.int .i64 m)->Calls P f #[.string s, .string sub] w fun e w'=>e= .returned (.bool (Lib.contains s.data.toList sub.data.toList))/\w'=w):
  KQ P ρ ⟨W.heap.size,W⟩ f (Jdm kN).b:=by
 obtain⟨hg,m,hm⟩:=hm;exact Jij (base:=⟨W.heap.size,W⟩) h1 h2 h3 hg hm hc
section
variable {P : Program} {H : Type} {enc : TypeId × Value -> H}
open Go.ChangeShapes Go.WideShapes Go.ChangeAt
theorem JfP {f:Func}{a:ChangeSpec}{d n e o:Bool}{u:World}{args:Array Value}{v:Value}{w x:List (DataW H)}{c pa pv:List MemPlace}
  (K:DataW.Whole enc P f.params.toList a.vars d s args.toList w x c) (N:Below s.heap.size s u)
  (l:∀(b:Nat) (q:Nat->Bool) (Q:Bool),DataW.TrodAll enc P u b q Q f.resultTypes.toList (v.resultList f.resultTypes.size) (a.fn H (w++x)).results [])
  (g:∀q:Nat->Bool,(∀p∈c,q p.block=true)->DataW.TrodAll enc P u 0 q true f.params.toList args.toList (a.fn H (w++x)).args pa)
  (h:∀q:Nat->Bool,(∀p∈c,q p.block=true)->DataW.TrodVars enc P u q a.vars (a.fn H (w++x)).vars pv) (y:c=pa++pv)
  (L:∀(j:Nat) (t:TypeId) (r:Value),f.resultTypes[j]? =some t->(v.resultList f.resultTypes.size)[j]? =some r->Value.okWide P u .any 0 t r):
  a.post enc P f d n e o s args v u:=by
 have z:∀p∈c,p.block<s.heap.size:=fun p k=>K.lt p k;have m:∀p∈c,(fun b=>decide (b<s.heap.size)) p.block=true:=fun p k=>by simpa using z p k
 have i:∀p,p∈([]++pa)++pv->p∈c:=fun p k=>by rw[y];simpa using k
 refine⟨w,x,c,[],pa,pv,K,l _ _ _,g _ m,h _ m,N.frame _,fun _=> ?_⟩;obtain⟨_,_,_,_,_,S,T⟩:=K;refine⟨L,_,_,([]++pa)++pv,⟨[]++pa,pv,trodAll_append (g _ (fun _ _=>rfl)) (l _ _ _),h _ (fun _ _=>rfl),rfl, ?_, ?_⟩, ?_⟩
 ·intro b M k;rw[N.frozen (z _ (i _ k))];exact S b M (i _ k)
 ·intro U;have O:=T U;rw[y]at O;simpa using O
 ·intro p k _;exact i _ k
end
end Eva
