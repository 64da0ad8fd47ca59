/- An evaluator of the model's code, proved to tell what the model does. Operations on val -/
import Derived.Test.YtdajkeoobbonjaaGreatEva5
import Derived.ProofKit
import Derived.OpenShut
import Derived.ChangeSame
import Derived.HandedShaped
set_option linter.constructorNameAsVariable false
set_option linter.unusedVariables false
set_option linter.unusedSimpArgs false
set_option linter.unusedSectionVars false
namespace Eva
open Go Go.RowKit
variable {s:World}
def boxV (st:St)(x:V):Option (V×Eff):=match x.A with
  |some vs=>if Kc vs then some (.g st.b 0,Eff.b fun t=> .a t vs)else none
  |none=>none
def Jok (_:St)(zs:List V)(ps:List (Nat×Nat×V)):Option (V×Eff):=(YZ zs ps).map fun l=>(.j l, .a)
def bslV (st:St)(z n:Nat)(zs:List V)(ps:List (Nat×Nat×V)):Option (V×Eff):=match YZ zs ps with
  |some l=>if Kc l/\l.length=n*z then some (.m st.b 0 n z n,Eff.b fun t=> .a t l)else none
  |none=>none
def Jol (_:St)(k:IntKind)(x:V):Option (V×Eff):=match x with
  | .d _ n=>some (.d k (k.wrap n), .a)
  |_=>none
def btsV (st:St)(x:V):Option (V×Eff):=match slen x with
  | some n=>match Jz st 1 n x with
    |some l=>(QX l).map fun v=>(.t n v, .a)
    |none=>none
  |none=>none
def JlS (st:St)(z:Nat)(zs:List V)(n c:V):Option (V×Eff):=match QK n,QK c with
  |some n,some c=>if n<=c/\c<2^20/\zs.length=z then some (.m st.b 0 n z c,Eff.b fun t=> .a t (List.replicate c zs).flatten)else none
  |_,_=>none
def Jci (_:St)(x:V)(lo hi:Option V):Option (V×Eff):=match x with
  | .t n v=>match JZ 0 lo,JZ n hi with
    |some l,some h=>if l<=h/\h<=n then some (.t (h-l) (scut v l h), .a)else none
    |_,_=>none
  |_=>none
def QG (_:St)(z:Nat)(x:V)(lo hi mx:Option V):Option (V×Eff):=(Y0 z x lo hi mx).map fun v=>(v, .a)
def Jr8 (st:St)(n z:Nat)(x:V)(lo hi mx:Option V):Option (V×Eff):=match x with
  | .g r o=>match st.A r with
    | .a _ l=>if o+n*z<=l.length then(Y0 z (.m r o n z n) lo hi mx).map fun v=>(v, .a)else none
    |_=>none
  |_=>none
def Q9 (st:St)(e:EK)(z:V)(ok:Bool)(m k:V):Option (V×Eff):=match jO st m with
  | some es=>if !e.A k then none else match KJ e k es 0 with
    |some (some (_,v))=>some (if ok then .p [v, .h true]else v, .a)
    |some none=>some (if ok then .p [z, .h false]else z, .a)
    |none=>none
  |none=>none
def JdK (st:St)(e:EK)(m k v:V):Option (V×Eff):=match m with
  | .q r=>match st.A r with
    | .b t es=>if !e.A k then none else match KJ e k es 0 with
      |some (some (i,_))=>some (JY,Eff.d r t fun u=> .b u (es.modify i fun _=>(k,v)))
      |some none=>some (JY,Eff.d r t fun u=> .b u (es++[(k,v)]))
      |none=>none
    |_=>none
  |_=>none
def Jr9 (st:St)(x:V):Option (V×Eff):=match x with
  | .t n v=>some (.g st.b 0,Eff.b fun t=> .e t n v 0)
  |_=>none
def JlT (st:St)(x:V):Option (V×Eff):=match x with
  | .u=>some (.g st.b 0,Eff.b fun t=> .d t none 0 0)
  | .q r=>match st.A r with
    | .b _ es=>some (.g st.b 0,Eff.b fun t=> .d t (some r) es.length 0)
    |_=>none
  |_=>none
def JeO (st:St)(x:V):Option (V×Eff):=match x with
  | .g r 0=>match st.A r with
    | .e t n v pos=>
      if pos<n then
       (if Yi v pos<128 then some (.p [.h true, .d .i64 pos, .d .i32 (Yi v pos)],Eff.d r t fun u=> .e u n v (pos+1))else some (.p [.h true, .d .i64 pos, .d .i32 (Utf8.decode (jN n v) pos).1],Eff.d r t fun u=> .e u n v (pos+(Utf8.decode (jN n v) pos).2)))
      else some (.p [.h false], .a)
    |_=>none
  |_=>none
def JeP (st:St)(x:V):Option (V×Eff):=match x with
  | .g r 0=>match st.A r with
    | .d _ none _ _=>some (.p [.h false], .a)
    | .d t (some m) n0 cnt=>match st.A m with
      | .b _ es=>
        if es.length≠n0 then none
        else if cnt<n0 then some (.p [.h true, .y, .y],Eff.d r t fun u=> .d u (some m) n0 (cnt+1))
        else some (.p [.h false], .a)
      |_=>none
    |_=>none
  |_=>none
def appV (st:St)(z:Nat)(s x:V):Option (V×Eff):=match slen x with
  | some k=>match Jz st z k x with
    |some new=>if k<2^20/\Kc new=true then JG st z k new s else none
    |none=>none
  |none=>none
def copyV (st:St)(z:Nat)(d x:V):Option (V×Eff):=match slen d,slenX x with
  | some n,some k=>match cellsX st z (Nat.min k n) x with
    | some vs=>if Nat.min k n=0 then some (.d .i64 0, .a)else
      match jY d with
      |some p=>(JO st p vs).map fun e=>(.d .i64 (Nat.min k n),e)
      |none=>none
    |none=>none
  |_,_=>none
def JhY (st:St)(z:Nat)(zs:List V)(x:V):Option (V×Eff):=match slen x with
  | some n=>if n=0 then some (JY, .a)else
    match jY x with
    |some p=>if zs.length=z then(JO st p (List.replicate n zs).flatten).map fun e=>(JY,e)else none
    |none=>none
  |none=>none
def Jgt (st:St)(e:EK)(z:V)(m k:V):Option (V×Eff):=match m with
  | .q r=>match st.A r with
    | .b t es=>if !(e.A k&&e.D k)then none else match KJ e k es 0 with
      |some (some (i,v))=>some (.p [v, .d .i64 i],Eff.d r t fun u=> .b u (es.modify i fun e=>(k,e.2)))
      |some none=>some (.p [z, .d .i64 es.length],Eff.d r t fun u=> .b u (es++[(k,z)]))
      |none=>none
    |_=>none
  |_=>none
def Jgu (st:St)(m s v:V):Option (V×Eff):=match m,QK s with
  | .q r,some i=>match st.A r with
    | .b t es=>if i<es.length then some (JY,Eff.d r t fun u=> .b u (es.modify i fun e=>(e.1,v)))else none
    |_=>none
  |_,_=>none
structure E where
 b:Self->List V->St->Option (V×St)
def Jgv :Self->List V->St->Option (V×St):=fun _ _ _=>none
inductive BT where
 |a (i:Nat) (e:E)
 |b (n:Nat) (l r:BT)
def selB :BT->Nat->(Self->List V->St->Option (V×St))
 | .a i e,f=>bif Nat.beq f i then e.b else Jgv
 | .b n l r,f=>bif Nat.ble f n then selB l f else selB r f
def BT.A (p:Nat->E->Prop):BT->Prop
 | .a i e=>p i e
 | .b _ l r=>l.A p/\r.A p
def tabT (t:BT):Table:=fun f=>some (selB t f)
theorem Jsa {P:Program}{ρ:Nat->Value}{c:Bs}{t:BT}(h:t.A fun i e=>KM P ρ c i e.b):∀f,KM P ρ c f (selB t f):=by
 induction t with
 | a i e=>
   intro f;show KM P ρ c f (bif Nat.beq f i then e.b else Jgv)
   cases j:Nat.beq f i with
   |true=>rw[Nat.eq_of_beq_eq_true j];exact h
   |false=>exact fun _ _ _ _ _ _ k=>by cases k
 | b n l r d g=>
   intro f;show KM P ρ c f (bif Nat.ble f n then selB l f else selB r f)
   cases Nat.ble f n with
   |true=>exact d h.1 f
   |false=>exact g h.2 f
noncomputable def JdL (g:List V->Option V):E:={b:=fun _ args st=>match g args with
 |some v=>some (v,st)
 |none=>none}
def hasM (g:Nat)(w:World):Prop:=g<w.heap.size/\∃m:Int,w.cell? ⟨g,0,none⟩=some (.int .i64 m)
theorem JhZ {g:Nat}(h:∃m:Int,s.cell? ⟨g,0,none⟩=some (.int .i64 m)):hasM g s:=by
 refine⟨?_,h⟩;obtain⟨m,a⟩:=h;apply Xd;intro b;have:s.heap[g]? =none:=Array.getElem?_eq_none (by omega);simp[World.cell?,this]at a
theorem Jom {γ:Locs}{ρ:Nat->Value}{c:Pt->Row}{W:World}{g:Nat}(h:Rel γ ρ ⟨W.heap.size,W⟩ c s)(b:hasM g W):hasM g s:=by
 obtain⟨m,a⟩:=b.2;refine JhZ ⟨m, ?_⟩;rw[<-a];exact World.cell?_of_block (w:=W) (h.j g b.1)
def JlU :List V->Option V
 |[]=>some (.h true)
 |_=>none
theorem Jq0 {P : Program} {ρ : Nat -> Value} {W : World} {f : Nat} {fn : Func} (h1 : P.funcs[f]? = some fn) (h2 : fn.body.isSome = true) (h3 : fn.name ≠ "runtime.NumGoroutine") {g : Nat} (hm : hasM g W)
  (hc:∀w,hasM g w->Calls P f #[] w fun e w'=>e= .returned (.bool true)/\Below w.heap.size w w'):KM P ρ ⟨W.heap.size,W⟩ f (JdL JlU).b:=
 JlQ h1 h2 h3 fun args v hv γ c w xs hx hrel=>by
  unfold JlU at hv
  split at hv
  ·injection hv with hv;subst hv;simp only[RL]at hx;subst hx;exact(hc w (Jom hrel hm)).mono fun e w' ⟨k1,k2⟩=>⟨_,k1,rfl,k2⟩
  ·cases hv
theorem JdM {P : Program} {ρ : Nat -> Value} {W : World} {f : Nat} {fn : Func} (h1 : P.funcs[f]? = some fn) (h2 : fn.body.isSome = true) (h3 : fn.name ≠ "runtime.NumGoroutine") {g : Nat} (hm : hasM g W)
  (hc:∀(s sub:ByteArray) (m:Int) (w:World),s.size<4294967281->w.cell? ⟨g,0,none⟩=some (.int .i64 m)->Calls P f #[.string s, .string sub] w fun e w'=>e= .returned (.bool (Lib.contains s.data.toList sub.data.toList))/\w'=w):
  KM P ρ ⟨W.heap.size,W⟩ f (JdL kW).b:=by
 obtain⟨hg,m,hm⟩:=hm;exact JiN (base:=⟨W.heap.size,W⟩) h1 h2 h3 hg hm hc
section
variable {P : Program} {H : Type} {enc : TypeId × Value -> H}
open Go.ChangeShapes Go.WideShapes Go.ChangeAt
theorem Jga {f:Func}{a:ChangeSpec}{d n e o:Bool}{u:World}{args:Array Value}{v:Value}{w x:List (DataW H)}{c pa pv:List MemPlace}
  (J:DataW.Whole enc P f.params.toList a.vars d s args.toList w x c) (M:Below s.heap.size s u)
  (l:∀(b:Nat) (q:Nat->Bool) (O:Bool),DataW.TrodAll enc P u b q O f.resultTypes.toList (v.resultList f.resultTypes.size) (a.fn H (w++x)).results [])
  (g:∀q:Nat->Bool,(∀p∈c,q p.block=true)->DataW.TrodAll enc P u 0 q true f.params.toList args.toList (a.fn H (w++x)).args pa)
  (h:∀q:Nat->Bool,(∀p∈c,q p.block=true)->DataW.TrodVars enc P u q a.vars (a.fn H (w++x)).vars pv) (y:c=pa++pv)
  (K:∀(j:Nat) (t:TypeId) (r:Value),f.resultTypes[j]? =some t->(v.resultList f.resultTypes.size)[j]? =some r->Value.okWide P u .any 0 t r):
  a.post enc P f d n e o s args v u:=by
 have z:∀p∈c,p.block<s.heap.size:=fun p k=>J.lt p k;have m:∀p∈c,(fun b=>decide (b<s.heap.size)) p.block=true:=fun p k=>by simpa using z p k
 have i:∀p,p∈([]++pa)++pv->p∈c:=fun p k=>by rw[y];simpa using k
 refine⟨w,x,c,[],pa,pv,J,l _ _ _,g _ m,h _ m,M.frame _,fun _=> ?_⟩;obtain⟨_,_,_,_,_,Q,S⟩:=J;refine⟨K,_,_,([]++pa)++pv,⟨[]++pa,pv,trodAll_append (g _ (fun _ _=>rfl)) (l _ _ _),h _ (fun _ _=>rfl),rfl, ?_, ?_⟩, ?_⟩
 ·intro b L k;rw[M.frozen (z _ (i _ k))];exact Q b L (i _ k)
 ·intro T;have N:=S T;rw[y]at N;simpa using N
 ·intro p k _;exact i _ k
end
end Eva
