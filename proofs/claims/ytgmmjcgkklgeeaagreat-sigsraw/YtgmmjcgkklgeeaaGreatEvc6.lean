/- An evaluator of the model's code, proved to tell what the model does. The evaluator for -/
import Derived.Test.YtgmmjcgkklgeeaaGreatEva5
import Derived.ProofKit
import Derived.OpenShut
import Derived.ChangeSame
import Derived.HandedShaped
noncomputable section
set_option linter.unusedVariables false
set_option linter.unusedSimpArgs false
set_option linter.unusedSectionVars false
namespace Eva
open Go Go.RowKit
def asBool (x:V)(k:Bool->Bool):Bool:=V.rec (motive_1:=fun _=>(Bool->Bool)->Bool) (motive_2:=fun _=>Unit) (fun a0 k=>k a0) (fun _ _ _=>false) (fun _ _ _=>false) (fun _ _ _=>false) (fun _=>false) (fun _ _ _=>false) (fun _=>false) (fun _ _ _ _ _=>false) (fun _ _ _ _ _ _=>false) (fun _=>false) (fun _ _=>false) (fun _ _ _ _ _ _=>false) (fun _=>false) (fun _ _ _=>false) (fun _ _ _=>false) (fun _=>false) (fun _ _=>false) () (fun _ _ _ _=>()) x k
def asInt (x:V)(k:IntKind->Int->Bool):Bool:=V.rec (motive_1:=fun _=>(IntKind->Int->Bool)->Bool) (motive_2:=fun _=>Unit) (fun _ _=>false) (fun a0 a1 k=>k a0 a1) (fun _ _ _=>false) (fun _ _ _=>false) (fun _=>false) (fun _ _ _=>false) (fun _=>false) (fun _ _ _ _ _=>false) (fun _ _ _ _ _ _=>false) (fun _=>false) (fun _ _=>false) (fun _ _ _ _ _ _=>false) (fun _=>false) (fun _ _ _=>false) (fun _ _ _=>false) (fun _=>false) (fun _ _=>false) () (fun _ _ _ _=>()) x k
def Jp5 (x:V)(k:Nat->Nat->Bool):Bool:=V.rec (motive_1:=fun _=>(Nat->Nat->Bool)->Bool) (motive_2:=fun _=>Unit) (fun _ _=>false) (fun _ _ _=>false) (fun _ _ _=>false) (fun a0 a1 k=>k a0 a1) (fun _=>false) (fun _ _ _=>false) (fun _=>false) (fun _ _ _ _ _=>false) (fun _ _ _ _ _ _=>false) (fun _=>false) (fun _ _=>false) (fun _ _ _ _ _ _=>false) (fun _=>false) (fun _ _ _=>false) (fun _ _ _=>false) (fun _=>false) (fun _ _=>false) () (fun _ _ _ _=>()) x k
def asAgg (x:V)(k:List V->Bool):Bool:=V.rec (motive_1:=fun _=>(List V->Bool)->Bool) (motive_2:=fun _=>Unit) (fun _ _=>false) (fun _ _ _=>false) (fun _ _ _=>false) (fun _ _ _=>false) (fun _=>false) (fun _ _ _=>false) (fun _=>false) (fun _ _ _ _ _=>false) (fun _ _ _ _ _ _=>false) (fun _=>false) (fun _ _=>false) (fun _ _ _ _ _ _=>false) (fun _=>false) (fun a0 _ k=>k a0) (fun _ _ _=>false) (fun _=>false) (fun _ _=>false) () (fun _ _ _ _=>()) x k
def natK (n:Nat)(k:Nat->Bool):Bool:=Nat.rec (motive:=fun _=>(Nat->Bool)->Bool) (fun k=>k Nat.zero) (fun m _ k=>k (Nat.succ m)) n k
def JrV (b:Bool)(k:Bool->Bool):Bool:=Bool.rec (motive:=fun _=>(Bool->Bool)->Bool) (fun k=>k false) (fun k=>k true) b k
def intK (n:Int)(k:Int->Bool):Bool:=Int.rec (motive:=fun _=>(Int->Bool)->Bool) (fun m k=>natK m fun m=>k (Int.ofNat m)) (fun m k=>natK m fun m=>k (Int.negSucc m)) n k
def Jq7 (x:V)(k:V->Bool):Bool:=V.rec (motive_1:=fun _=>(V->Bool)->Bool) (motive_2:=fun _=>Unit) (fun a0 k=>JrV a0 fun a0=>k (V.bool a0)) (fun a0 a1 k=>intK a1 fun a1=>k (V.int a0 a1)) (fun a0 a1 k=>k (V.im a0 a1)) (fun a0 a1 k=>natK a0 fun a0=>natK a1 fun a1=>k (V.str a0 a1)) (fun k=>k (V.pnil)) (fun a0 a1 k=>natK a1 fun a1=>k (V.ptr a0 a1)) (fun k=>k (V.snil)) (fun a0 a1 a2 a3 k=>natK a1 fun a1=>natK a2 fun a2=>natK a3 fun a3=>k (V.sl a0 a1 a2 a3)) (fun a0 a1 a2 a3 a4 k=>natK a1 fun a1=>natK a2 fun a2=>natK a3 fun a3=>natK a4 fun a4=>k (V.slx a0 a1 a2 a3 a4)) (fun k=>k (V.mnil)) (fun a0 k=>k (V.map a0)) (fun a0 a1 a2 _ _ k=>k (V.fn a0 a1 a2)) (fun k=>k (V.fnil)) (fun a0 _ k=>k (V.agg a0)) (fun a0 _ k=>k (V.tup a0)) (fun k=>k (V.any)) (fun a0 k=>k (V.opq a0)) () (fun _ _ _ _=>()) x k
def JrW (l:List V)(k:V->Bool):Bool:=List.rec (motive:=fun _=>(V->Bool)->Bool) (fun _=>false) (fun x _ _ k=>k x) l k
def cellsOf (r:Row)(k:Nat->List V->Bool):Bool:=Row.rec (motive:=fun _=>(Nat->List V->Bool)->Bool) (fun _=>false) (fun t l k=>k t l) (fun _ _=>false) (fun _ _ _=>false) (fun _ _ _ _ _=>false) (fun _ _ _ _ _=>false) (fun _ _=>false) r k
def boxV (st:St)(x:V):Option (V×Eff):=match x.cells with
  |some vs=>if Km vs then some (.ptr st.nx 0,Eff.new fun t=> .cells t vs)else none
  |none=>none
def JmC (_:St)(zs:List V)(ps:List (Nat×Nat×V)):Option (V×Eff):=(QM zs ps).map fun l=>(.agg l, .no)
def bslV (st:St)(z n:Nat)(zs:List V)(ps:List (Nat×Nat×V)):Option (V×Eff):=match QM zs ps with
  |some l=>if Km l/\l.length=n*z then some (.slx st.nx 0 n z n,Eff.new fun t=> .cells t l)else none
  |none=>none
def JmD (_:St)(k:IntKind)(x:V):Option (V×Eff):=match x with
  | .int _ n=>some (.int k (k.wrap n), .no)
  |_=>none
def JmE (_:St)(x:V):Option (V×Eff):=match x with
  | .str n v=>some (.str n v, .no)
  |_=>none
def Jp6 (st:St)(z:Nat)(zs:List V)(n c:V):Option (V×Eff):=match KE n,KE c with
  |some n,some c=>if n<=c/\c<2^20/\zs.length=z then some (.slx st.nx 0 n z c,Eff.new fun t=> .cells t (List.replicate c zs).flatten)else none
  |_,_=>none
def Jbz (_:St)(x:V)(lo hi:Option V):Option (V×Eff):=match x with
  | .str n v=>match JP 0 lo,JP n hi with
    |some l,some h=>if l<=h/\h<=n then some (.str (h-l) (scut v l h), .no)else none
    |_,_=>none
  |_=>none
def jb (_:St)(z:Nat)(x:V)(lo hi mx:Option V):Option (V×Eff):=(Qz z x lo hi mx).map fun v=>(v, .no)
def Jp7 (st:St)(n z:Nat)(x:V)(lo hi mx:Option V):Option (V×Eff):=match x with
  | .ptr r o=>match st.row r with
    | .cells _ l=>if o+n*z<=l.length then(Qz z (.slx r o n z n) lo hi mx).map fun v=>(v, .no)else none
    |_=>none
  |_=>none
def Jgn (_:St)(n z:Nat)(x i:V):Option (V×Eff):=match KE i,x with
  |some i, .ptr r o=>if i<n then some (.ptr r (o+i*z), .no)else none
  |_,_=>none
def JrX (_:St)(n z:Nat)(g:Bool)(x i:V):Option (V×Eff):=match KE i,x with
  | some i, .agg l=>if i<n then
     (if g then(if(i*z)+z<=l.length then some (.agg ((l.drop (i*z)).take z), .no)else none)else(l[i*z]?).map fun v=>(v, .no))
    else none
  |_,_=>none
def QX (st:St)(e:EK)(z:V)(ok:Bool)(m k:V):Option (V×Eff):=match Yf st m with
  | some es=>if !e.fit k then none else match Ky e k es 0 with
    |some (some (_,v))=>some (if ok then .tup [v, .bool true]else v, .no)
    |some none=>some (if ok then .tup [z, .bool false]else z, .no)
    |none=>none
  |none=>none
def JbA (st:St)(e:EK)(m k v:V):Option (V×Eff):=match m with
  | .map r=>match st.row r with
    | .mob t es=>if !e.fit k then none else match Ky e k es 0 with
      |some (some (i,_))=>some (JR,Eff.wr r t fun u=> .mob u (es.modify i fun _=>(k,v)))
      |some none=>some (JR,Eff.wr r t fun u=> .mob u (es++[(k,v)]))
      |none=>none
    |_=>none
  |_=>none
def JdL (st:St)(e:EK)(z:V)(m k:V):Option (V×Eff):=match m with
  | .map r=>match st.row r with
    | .mob t es=>if !(e.fit k&&e.refl k)then none else match Ky e k es 0 with
      |some (some (i,v))=>some (.tup [v, .int .i64 i],Eff.wr r t fun u=> .mob u (es.modify i fun e=>(k,e.2)))
      |some none=>some (.tup [z, .int .i64 es.length],Eff.wr r t fun u=> .mob u (es++[(k,z)]))
      |none=>none
    |_=>none
  |_=>none
def JdM (st:St)(m s v:V):Option (V×Eff):=match m,KE s with
  | .map r,some i=>match st.row r with
    | .mob t es=>if i<es.length then some (JR,Eff.wr r t fun u=> .mob u (es.modify i fun e=>(e.1,v)))else none
    |_=>none
  |_,_=>none
def Jp8 (st:St)(x:V):Option (V×Eff):=match x with
  | .str n v=>some (.ptr st.nx 0,Eff.new fun t=> .sit t n v 0)
  |_=>none
def Jkd (st:St)(x:V):Option (V×Eff):=match x with
  | .mnil=>some (.ptr st.nx 0,Eff.new fun t=> .mit t none 0 0)
  | .map r=>match st.row r with
    | .mob _ es=>some (.ptr st.nx 0,Eff.new fun t=> .mit t (some r) es.length 0)
    |_=>none
  |_=>none
def JdN (st:St)(x:V):Option (V×Eff):=match x with
  | .ptr r 0=>match st.row r with
    | .sit t n v pos=>
      if pos<n then
       (if Q4 v pos<128 then some (.tup [.bool true, .int .i64 pos, .int .i32 (Q4 v pos)],Eff.wr r t fun u=> .sit u n v (pos+1))else some (.tup [.bool true, .int .i64 pos, .int .i32 (Utf8.decode (jm n v) pos).1],Eff.wr r t fun u=> .sit u n v (pos+(Utf8.decode (jm n v) pos).2)))
      else some (.tup [.bool false], .no)
    |_=>none
  |_=>none
def JdO (st:St)(x:V):Option (V×Eff):=match x with
  | .ptr r 0=>match st.row r with
    | .mit _ none _ _=>some (.tup [.bool false], .no)
    | .mit t (some m) n0 cnt=>match st.row m with
      | .mob _ es=>
        if es.length≠n0 then none
        else if cnt<n0 then some (.tup [.bool true, .any, .any],Eff.wr r t fun u=> .mit u (some m) n0 (cnt+1))
        else some (.tup [.bool false], .no)
      |_=>none
    |_=>none
  |_=>none
def JrY (st:St)(x:V):Option (V×Eff):=match x with
  | .mnil=>some (.int .i64 0, .no)
  | .map r=>match st.row r with
    | .mob _ es=>some (.int .i64 es.length, .no)
    |_=>none
  |_=>none
def appV (st:St)(z:Nat)(s x:V):Option (V×Eff):=match slen x with
  | some k=>match JL st z k x with
    |some new=>if k<2^20/\Km new=true then JE st z k new s else none
    |none=>none
  |none=>none
def copyV (st:St)(z:Nat)(d x:V):Option (V×Eff):=match slen d,slenX x with
  | some n,some k=>match cellsX st z (Nat.min k n) x with
    | some vs=>if Nat.min k n=0 then some (.int .i64 0, .no)else
      match qu d with
      |some p=>(JN st p vs).map fun e=>(.int .i64 (Nat.min k n),e)
      |none=>none
    |none=>none
  |_,_=>none
def minV (_:St)(x y:V):Option (V×Eff):=match x,y with
  | .int k a, .int k' b=>if k=k' then some (.int k (if b<a then b else a), .no)else none
  |_,_=>none
def maxV (_:St)(x y:V):Option (V×Eff):=match x,y with
  | .int k a, .int k' b=>if k=k' then some (.int k (if b>a then b else a), .no)else none
  |_,_=>none
inductive D where
 |d0
 |d1
 |d2
 |d3
 |d4
 |d5
 |d6
 |d7
 deriving DecidableEq,Inhabited
inductive L8 where
 |mk (v0 v1 v2 v3 v4 v5 v6 v7:V)
inductive N8 where
 |mk (c0 c1 c2 c3 c4 c5 c6 c7:L8)
inductive F32 where
 |mk (c0 c1 c2 c3 c4 c5 c6 c7:N8) (e:List V)
def D.num :D->Nat
 | .d0=>0
 | .d1=>1
 | .d2=>2
 | .d3=>3
 | .d4=>4
 | .d5=>5
 | .d6=>6
 | .d7=>7
def D.of :Nat->D
 |0=> .d0
 |1=> .d1
 |2=> .d2
 |3=> .d3
 |4=> .d4
 |5=> .d5
 |6=> .d6
 |_=> .d7
def L8.get :D->L8->V
 | .d0, .mk x _ _ _ _ _ _ _=>x
 | .d1, .mk _ x _ _ _ _ _ _=>x
 | .d2, .mk _ _ x _ _ _ _ _=>x
 | .d3, .mk _ _ _ x _ _ _ _=>x
 | .d4, .mk _ _ _ _ x _ _ _=>x
 | .d5, .mk _ _ _ _ _ x _ _=>x
 | .d6, .mk _ _ _ _ _ _ x _=>x
 | .d7, .mk _ _ _ _ _ _ _ x=>x
def L8.set :D->V->L8->L8
 | .d0,x, .mk _ v1 v2 v3 v4 v5 v6 v7=> .mk x v1 v2 v3 v4 v5 v6 v7
 | .d1,x, .mk v0 _ v2 v3 v4 v5 v6 v7=> .mk v0 x v2 v3 v4 v5 v6 v7
 | .d2,x, .mk v0 v1 _ v3 v4 v5 v6 v7=> .mk v0 v1 x v3 v4 v5 v6 v7
 | .d3,x, .mk v0 v1 v2 _ v4 v5 v6 v7=> .mk v0 v1 v2 x v4 v5 v6 v7
 | .d4,x, .mk v0 v1 v2 v3 _ v5 v6 v7=> .mk v0 v1 v2 v3 x v5 v6 v7
 | .d5,x, .mk v0 v1 v2 v3 v4 _ v6 v7=> .mk v0 v1 v2 v3 v4 x v6 v7
 | .d6,x, .mk v0 v1 v2 v3 v4 v5 _ v7=> .mk v0 v1 v2 v3 v4 v5 x v7
 | .d7,x, .mk v0 v1 v2 v3 v4 v5 v6 _=> .mk v0 v1 v2 v3 v4 v5 v6 x
def gL0 (l:L8)(k:V->Bool):Bool:=L8.rec (motive:=fun _=>(V->Bool)->Bool) (fun x _ _ _ _ _ _ _ k=>k x) l k
def gL1 (l:L8)(k:V->Bool):Bool:=L8.rec (motive:=fun _=>(V->Bool)->Bool) (fun _ x _ _ _ _ _ _ k=>k x) l k
def gL2 (l:L8)(k:V->Bool):Bool:=L8.rec (motive:=fun _=>(V->Bool)->Bool) (fun _ _ x _ _ _ _ _ k=>k x) l k
def gL3 (l:L8)(k:V->Bool):Bool:=L8.rec (motive:=fun _=>(V->Bool)->Bool) (fun _ _ _ x _ _ _ _ k=>k x) l k
def gL4 (l:L8)(k:V->Bool):Bool:=L8.rec (motive:=fun _=>(V->Bool)->Bool) (fun _ _ _ _ x _ _ _ k=>k x) l k
def gL5 (l:L8)(k:V->Bool):Bool:=L8.rec (motive:=fun _=>(V->Bool)->Bool) (fun _ _ _ _ _ x _ _ k=>k x) l k
def gL6 (l:L8)(k:V->Bool):Bool:=L8.rec (motive:=fun _=>(V->Bool)->Bool) (fun _ _ _ _ _ _ x _ k=>k x) l k
def gL7 (l:L8)(k:V->Bool):Bool:=L8.rec (motive:=fun _=>(V->Bool)->Bool) (fun _ _ _ _ _ _ _ x k=>k x) l k
def sL0 (x:V)(l:L8)(k:L8->Bool):Bool:=L8.rec (motive:=fun _=>V->(L8->Bool)->Bool) (fun _ v1 v2 v3 v4 v5 v6 v7 x k=>k (.mk x v1 v2 v3 v4 v5 v6 v7)) l x k
def sL1 (x:V)(l:L8)(k:L8->Bool):Bool:=L8.rec (motive:=fun _=>V->(L8->Bool)->Bool) (fun v0 _ v2 v3 v4 v5 v6 v7 x k=>k (.mk v0 x v2 v3 v4 v5 v6 v7)) l x k
def sL2 (x:V)(l:L8)(k:L8->Bool):Bool:=L8.rec (motive:=fun _=>V->(L8->Bool)->Bool) (fun v0 v1 _ v3 v4 v5 v6 v7 x k=>k (.mk v0 v1 x v3 v4 v5 v6 v7)) l x k
def sL3 (x:V)(l:L8)(k:L8->Bool):Bool:=L8.rec (motive:=fun _=>V->(L8->Bool)->Bool) (fun v0 v1 v2 _ v4 v5 v6 v7 x k=>k (.mk v0 v1 v2 x v4 v5 v6 v7)) l x k
def sL4 (x:V)(l:L8)(k:L8->Bool):Bool:=L8.rec (motive:=fun _=>V->(L8->Bool)->Bool) (fun v0 v1 v2 v3 _ v5 v6 v7 x k=>k (.mk v0 v1 v2 v3 x v5 v6 v7)) l x k
def sL5 (x:V)(l:L8)(k:L8->Bool):Bool:=L8.rec (motive:=fun _=>V->(L8->Bool)->Bool) (fun v0 v1 v2 v3 v4 _ v6 v7 x k=>k (.mk v0 v1 v2 v3 v4 x v6 v7)) l x k
def sL6 (x:V)(l:L8)(k:L8->Bool):Bool:=L8.rec (motive:=fun _=>V->(L8->Bool)->Bool) (fun v0 v1 v2 v3 v4 v5 _ v7 x k=>k (.mk v0 v1 v2 v3 v4 v5 x v7)) l x k
def sL7 (x:V)(l:L8)(k:L8->Bool):Bool:=L8.rec (motive:=fun _=>V->(L8->Bool)->Bool) (fun v0 v1 v2 v3 v4 v5 v6 _ x k=>k (.mk v0 v1 v2 v3 v4 v5 v6 x)) l x k
theorem L8.get_set_same (d:D)(x:V)(l:L8):(l.set d x).get d=x:=by cases l;cases d<;>rfl
theorem L8.get_set_ne {d e:D}(h:e≠d)(x:V)(l:L8):(l.set d x).get e=l.get e:=by
 cases l
 cases d<;>cases e<;>first|rfl|exact absurd rfl h
def N8.get :D->N8->L8
 | .d0, .mk x _ _ _ _ _ _ _=>x
 | .d1, .mk _ x _ _ _ _ _ _=>x
 | .d2, .mk _ _ x _ _ _ _ _=>x
 | .d3, .mk _ _ _ x _ _ _ _=>x
 | .d4, .mk _ _ _ _ x _ _ _=>x
 | .d5, .mk _ _ _ _ _ x _ _=>x
 | .d6, .mk _ _ _ _ _ _ x _=>x
 | .d7, .mk _ _ _ _ _ _ _ x=>x
def N8.set :D->L8->N8->N8
 | .d0,x, .mk _ v1 v2 v3 v4 v5 v6 v7=> .mk x v1 v2 v3 v4 v5 v6 v7
 | .d1,x, .mk v0 _ v2 v3 v4 v5 v6 v7=> .mk v0 x v2 v3 v4 v5 v6 v7
 | .d2,x, .mk v0 v1 _ v3 v4 v5 v6 v7=> .mk v0 v1 x v3 v4 v5 v6 v7
 | .d3,x, .mk v0 v1 v2 _ v4 v5 v6 v7=> .mk v0 v1 v2 x v4 v5 v6 v7
 | .d4,x, .mk v0 v1 v2 v3 _ v5 v6 v7=> .mk v0 v1 v2 v3 x v5 v6 v7
 | .d5,x, .mk v0 v1 v2 v3 v4 _ v6 v7=> .mk v0 v1 v2 v3 v4 x v6 v7
 | .d6,x, .mk v0 v1 v2 v3 v4 v5 _ v7=> .mk v0 v1 v2 v3 v4 v5 x v7
 | .d7,x, .mk v0 v1 v2 v3 v4 v5 v6 _=> .mk v0 v1 v2 v3 v4 v5 v6 x
def gN0 (l:N8)(k:L8->Bool):Bool:=N8.rec (motive:=fun _=>(L8->Bool)->Bool) (fun x _ _ _ _ _ _ _ k=>k x) l k
def gN1 (l:N8)(k:L8->Bool):Bool:=N8.rec (motive:=fun _=>(L8->Bool)->Bool) (fun _ x _ _ _ _ _ _ k=>k x) l k
def gN2 (l:N8)(k:L8->Bool):Bool:=N8.rec (motive:=fun _=>(L8->Bool)->Bool) (fun _ _ x _ _ _ _ _ k=>k x) l k
def gN3 (l:N8)(k:L8->Bool):Bool:=N8.rec (motive:=fun _=>(L8->Bool)->Bool) (fun _ _ _ x _ _ _ _ k=>k x) l k
def gN4 (l:N8)(k:L8->Bool):Bool:=N8.rec (motive:=fun _=>(L8->Bool)->Bool) (fun _ _ _ _ x _ _ _ k=>k x) l k
def gN5 (l:N8)(k:L8->Bool):Bool:=N8.rec (motive:=fun _=>(L8->Bool)->Bool) (fun _ _ _ _ _ x _ _ k=>k x) l k
def gN6 (l:N8)(k:L8->Bool):Bool:=N8.rec (motive:=fun _=>(L8->Bool)->Bool) (fun _ _ _ _ _ _ x _ k=>k x) l k
def gN7 (l:N8)(k:L8->Bool):Bool:=N8.rec (motive:=fun _=>(L8->Bool)->Bool) (fun _ _ _ _ _ _ _ x k=>k x) l k
theorem N8.get_set_same (d:D)(x:L8)(l:N8):(l.set d x).get d=x:=by cases l;cases d<;>rfl
theorem N8.get_set_ne {d e:D}(h:e≠d)(x:L8)(l:N8):(l.set d x).get e=l.get e:=by
 cases l
 cases d<;>cases e<;>first|rfl|exact absurd rfl h
def F32.get :D->F32->N8
 | .d0, .mk x _ _ _ _ _ _ _ _=>x
 | .d1, .mk _ x _ _ _ _ _ _ _=>x
 | .d2, .mk _ _ x _ _ _ _ _ _=>x
 | .d3, .mk _ _ _ x _ _ _ _ _=>x
 | .d4, .mk _ _ _ _ x _ _ _ _=>x
 | .d5, .mk _ _ _ _ _ x _ _ _=>x
 | .d6, .mk _ _ _ _ _ _ x _ _=>x
 | .d7, .mk _ _ _ _ _ _ _ x _=>x
def F32.set :D->N8->F32->F32
 | .d0,x, .mk _ v1 v2 v3 v4 v5 v6 v7 e=> .mk x v1 v2 v3 v4 v5 v6 v7 e
 | .d1,x, .mk v0 _ v2 v3 v4 v5 v6 v7 e=> .mk v0 x v2 v3 v4 v5 v6 v7 e
 | .d2,x, .mk v0 v1 _ v3 v4 v5 v6 v7 e=> .mk v0 v1 x v3 v4 v5 v6 v7 e
 | .d3,x, .mk v0 v1 v2 _ v4 v5 v6 v7 e=> .mk v0 v1 v2 x v4 v5 v6 v7 e
 | .d4,x, .mk v0 v1 v2 v3 _ v5 v6 v7 e=> .mk v0 v1 v2 v3 x v5 v6 v7 e
 | .d5,x, .mk v0 v1 v2 v3 v4 _ v6 v7 e=> .mk v0 v1 v2 v3 v4 x v6 v7 e
 | .d6,x, .mk v0 v1 v2 v3 v4 v5 _ v7 e=> .mk v0 v1 v2 v3 v4 v5 x v7 e
 | .d7,x, .mk v0 v1 v2 v3 v4 v5 v6 _ e=> .mk v0 v1 v2 v3 v4 v5 v6 x e
def gF0 (l:F32)(k:N8->Bool):Bool:=F32.rec (motive:=fun _=>(N8->Bool)->Bool) (fun x _ _ _ _ _ _ _ _ k=>k x) l k
def gF1 (l:F32)(k:N8->Bool):Bool:=F32.rec (motive:=fun _=>(N8->Bool)->Bool) (fun _ x _ _ _ _ _ _ _ k=>k x) l k
def gF2 (l:F32)(k:N8->Bool):Bool:=F32.rec (motive:=fun _=>(N8->Bool)->Bool) (fun _ _ x _ _ _ _ _ _ k=>k x) l k
def gF3 (l:F32)(k:N8->Bool):Bool:=F32.rec (motive:=fun _=>(N8->Bool)->Bool) (fun _ _ _ x _ _ _ _ _ k=>k x) l k
def gF7 (l:F32)(k:N8->Bool):Bool:=F32.rec (motive:=fun _=>(N8->Bool)->Bool) (fun _ _ _ _ _ _ _ x _ k=>k x) l k
theorem F32.get_set_same (d:D)(x:N8)(l:F32):(l.set d x).get d=x:=by cases l;cases d<;>rfl
theorem F32.get_set_ne {d e:D}(h:e≠d)(x:N8)(l:F32):(l.set d x).get e=l.get e:=by
 cases l
 cases d<;>cases e<;>first|rfl|exact absurd rfl h
def L8.undef :L8:= .mk (.tup []) (.tup []) (.tup []) (.tup []) (.tup []) (.tup []) (.tup []) (.tup [])
def N8.undef :N8:= .mk L8.undef L8.undef L8.undef L8.undef L8.undef L8.undef L8.undef L8.undef
def F32.undef :F32:= .mk N8.undef N8.undef N8.undef N8.undef N8.undef N8.undef N8.undef N8.undef []
def slots :Nat:=512
def F32.fr (f:F32):Fr:=fun i=>if i<512 then((f.get (D.of (i/64))).get (D.of (i/8%8))).get (D.of (i%8))else JR
abbrev Rd :=F32->(V->Bool)->Bool
abbrev Wr :=V->F32->(F32->Bool)->Bool
def JrZ (c:L8->(V->Bool)->Bool)(k:V->Bool)(l:L8):Bool:=c l k
def Jr0 (b:N8->(L8->Bool)->Bool)(c:L8->(V->Bool)->Bool)(k:V->Bool)(n:N8):Bool:=b n (JrZ c k)
def J7 (a:F32->(N8->Bool)->Bool)(b:N8->(L8->Bool)->Bool)(c:L8->(V->Bool)->Bool)(f:F32)(k:V->Bool):Bool:=a f (Jr0 b c k)
def mF0 (c1:N8)(c2:N8)(c3:N8)(c4:N8)(c5:N8)(c6:N8)(c7:N8)(e:List V)(k:F32->Bool)(x:N8):Bool:=k (.mk x c1 c2 c3 c4 c5 c6 c7 e)
def wF0 (g:V->N8->(N8->Bool)->Bool)(v:V)(f:F32)(k:F32->Bool):Bool:=F32.rec (motive:=fun _=>(V->N8->(N8->Bool)->Bool)->V->(F32->Bool)->Bool) (fun c0 c1 c2 c3 c4 c5 c6 c7 e g v k=>g v c0 (mF0 c1 c2 c3 c4 c5 c6 c7 e k)) f g v k
def mN0 (c1:L8)(c2:L8)(c3:L8)(c4:L8)(c5:L8)(c6:L8)(c7:L8)(k:N8->Bool)(x:L8):Bool:=k (.mk x c1 c2 c3 c4 c5 c6 c7)
def wN0 (g:V->L8->(L8->Bool)->Bool)(v:V)(f:N8)(k:N8->Bool):Bool:=N8.rec (motive:=fun _=>(V->L8->(L8->Bool)->Bool)->V->(N8->Bool)->Bool) (fun c0 c1 c2 c3 c4 c5 c6 c7 g v k=>g v c0 (mN0 c1 c2 c3 c4 c5 c6 c7 k)) f g v k
def mN1 (c0:L8)(c2:L8)(c3:L8)(c4:L8)(c5:L8)(c6:L8)(c7:L8)(k:N8->Bool)(x:L8):Bool:=k (.mk c0 x c2 c3 c4 c5 c6 c7)
def wN1 (g:V->L8->(L8->Bool)->Bool)(v:V)(f:N8)(k:N8->Bool):Bool:=N8.rec (motive:=fun _=>(V->L8->(L8->Bool)->Bool)->V->(N8->Bool)->Bool) (fun c0 c1 c2 c3 c4 c5 c6 c7 g v k=>g v c1 (mN1 c0 c2 c3 c4 c5 c6 c7 k)) f g v k
def F32.env :F32->List V
 | .mk _ _ _ _ _ _ _ _ e=>e
def r0 :Rd:=J7 gF0 gN0 gL0
def r1 :Rd:=J7 gF0 gN0 gL1
def r2 :Rd:=J7 gF0 gN0 gL2
def r3 :Rd:=J7 gF0 gN0 gL3
def r4 :Rd:=J7 gF0 gN0 gL4
def r5 :Rd:=J7 gF0 gN0 gL5
def r6 :Rd:=J7 gF0 gN0 gL6
def r7 :Rd:=J7 gF0 gN0 gL7
def r8 :Rd:=J7 gF0 gN1 gL0
def r9 :Rd:=J7 gF0 gN1 gL1
def r10 :Rd:=J7 gF0 gN1 gL2
def r12 :Rd:=J7 gF0 gN1 gL4
def r13 :Rd:=J7 gF0 gN1 gL5
def r14 :Rd:=J7 gF0 gN1 gL6
def r15 :Rd:=J7 gF0 gN1 gL7
def r16 :Rd:=J7 gF0 gN2 gL0
def r17 :Rd:=J7 gF0 gN2 gL1
def r22 :Rd:=J7 gF0 gN2 gL6
def r23 :Rd:=J7 gF0 gN2 gL7
def r24 :Rd:=J7 gF0 gN3 gL0
def r25 :Rd:=J7 gF0 gN3 gL1
def r32 :Rd:=J7 gF0 gN4 gL0
def r34 :Rd:=J7 gF0 gN4 gL2
def r35 :Rd:=J7 gF0 gN4 gL3
def r36 :Rd:=J7 gF0 gN4 gL4
def r42 :Rd:=J7 gF0 gN5 gL2
def r43 :Rd:=J7 gF0 gN5 gL3
def r44 :Rd:=J7 gF0 gN5 gL4
def r45 :Rd:=J7 gF0 gN5 gL5
def r46 :Rd:=J7 gF0 gN5 gL6
def r47 :Rd:=J7 gF0 gN5 gL7
def r50 :Rd:=J7 gF0 gN6 gL2
def r52 :Rd:=J7 gF0 gN6 gL4
def r53 :Rd:=J7 gF0 gN6 gL5
def r54 :Rd:=J7 gF0 gN6 gL6
def r55 :Rd:=J7 gF0 gN6 gL7
def r56 :Rd:=J7 gF0 gN7 gL0
def r57 :Rd:=J7 gF0 gN7 gL1
def r58 :Rd:=J7 gF0 gN7 gL2
def r62 :Rd:=J7 gF0 gN7 gL6
def r63 :Rd:=J7 gF0 gN7 gL7
def r64 :Rd:=J7 gF1 gN0 gL0
def r72 :Rd:=J7 gF1 gN1 gL0
def r74 :Rd:=J7 gF1 gN1 gL2
def r85 :Rd:=J7 gF1 gN2 gL5
def r86 :Rd:=J7 gF1 gN2 gL6
def r87 :Rd:=J7 gF1 gN2 gL7
def r127 :Rd:=J7 gF1 gN7 gL7
def r128 :Rd:=J7 gF2 gN0 gL0
def r146 :Rd:=J7 gF2 gN2 gL2
def r159 :Rd:=J7 gF2 gN3 gL7
def r223 :Rd:=J7 gF3 gN3 gL7
def r510 :Rd:=J7 gF7 gN7 gL6
def w0 :Wr:=wF0 (wN0 sL0)
def w1 :Wr:=wF0 (wN0 sL1)
def w2 :Wr:=wF0 (wN0 sL2)
def w3 :Wr:=wF0 (wN0 sL3)
def w4 :Wr:=wF0 (wN0 sL4)
def w5 :Wr:=wF0 (wN0 sL5)
def w6 :Wr:=wF0 (wN0 sL6)
def w7 :Wr:=wF0 (wN0 sL7)
def w8 :Wr:=wF0 (wN1 sL0)
def w9 :Wr:=wF0 (wN1 sL1)
def w11 :Wr:=wF0 (wN1 sL3)
def w13 :Wr:=wF0 (wN1 sL5)
def F32.push (v:V):F32->F32
 | .mk c0 c1 c2 c3 c4 c5 c6 c7 e=> .mk c0 c1 c2 c3 c4 c5 c6 c7 (v::e)
def KF (ih:List V->(V->Bool)->Bool)(l:List V)(k:V->Bool):Bool:=List.rec (motive:=fun _=>(List V->(V->Bool)->Bool)->(V->Bool)->Bool) (fun _ _=>false) (fun _ t _ ih k=>ih t k) l ih k
def locS (t:List V->(V->Bool)->Bool)(f:F32)(k:V->Bool):Bool:=F32.rec (motive:=fun _=>(List V->(V->Bool)->Bool)->(V->Bool)->Bool) (fun _ _ _ _ _ _ _ _ e t k=>t e k) f t k
def t0 :List V->(V->Bool)->Bool:=JrW
def t1 :List V->(V->Bool)->Bool:=KF t0
def t2 :List V->(V->Bool)->Bool:=KF t1
def t3 :List V->(V->Bool)->Bool:=KF t2
def t4 :List V->(V->Bool)->Bool:=KF t3
def t5 :List V->(V->Bool)->Bool:=KF t4
def t6 :List V->(V->Bool)->Bool:=KF t5
def t7 :List V->(V->Bool)->Bool:=KF t6
def t8 :List V->(V->Bool)->Bool:=KF t7
def t9 :List V->(V->Bool)->Bool:=KF t8
def t10 :List V->(V->Bool)->Bool:=KF t9
def t11 :List V->(V->Bool)->Bool:=KF t10
def t12 :List V->(V->Bool)->Bool:=KF t11
def t13 :List V->(V->Bool)->Bool:=KF t12
def t14 :List V->(V->Bool)->Bool:=KF t13
def t15 :List V->(V->Bool)->Bool:=KF t14
def t16 :List V->(V->Bool)->Bool:=KF t15
def t17 :List V->(V->Bool)->Bool:=KF t16
def t18 :List V->(V->Bool)->Bool:=KF t17
def t19 :List V->(V->Bool)->Bool:=KF t18
def t20 :List V->(V->Bool)->Bool:=KF t19
def t21 :List V->(V->Bool)->Bool:=KF t20
def t22 :List V->(V->Bool)->Bool:=KF t21
def t23 :List V->(V->Bool)->Bool:=KF t22
def t24 :List V->(V->Bool)->Bool:=KF t23
def t25 :List V->(V->Bool)->Bool:=KF t24
def t26 :List V->(V->Bool)->Bool:=KF t25
def t27 :List V->(V->Bool)->Bool:=KF t26
def t28 :List V->(V->Bool)->Bool:=KF t27
def t29 :List V->(V->Bool)->Bool:=KF t28
def t30 :List V->(V->Bool)->Bool:=KF t29
def t31 :List V->(V->Bool)->Bool:=KF t30
def t32 :List V->(V->Bool)->Bool:=KF t31
def t33 :List V->(V->Bool)->Bool:=KF t32
def t34 :List V->(V->Bool)->Bool:=KF t33
def t35 :List V->(V->Bool)->Bool:=KF t34
def t36 :List V->(V->Bool)->Bool:=KF t35
def t37 :List V->(V->Bool)->Bool:=KF t36
def t38 :List V->(V->Bool)->Bool:=KF t37
def l0 :Rd:=locS t0
def l1 :Rd:=locS t1
def l2 :Rd:=locS t2
def l3 :Rd:=locS t3
def l4 :Rd:=locS t4
def l5 :Rd:=locS t5
def l8 :Rd:=locS t8
section
variable {rd : Opd -> Option Rd} {f : F32} {fr : Fr}
end
abbrev JmF :=Nat->List V->St->(V->St->Bool)->Bool
abbrev KOpF :=JmF->F32->St->(V->St->Bool)->Bool
def o1c (g:V->St->(V->St->Bool)->Bool)(st:St)(k:V->St->Bool)(x:V):Bool:=g x st k
def o1 (g:V->St->(V->St->Bool)->Bool)(a:Rd):KOpF:=fun _ f st k=>a f (o1c g st k)
def o2d (g:V->V->St->(V->St->Bool)->Bool)(st:St)(k:V->St->Bool)(x y:V):Bool:=g x y st k
def o2c (g:V->V->St->(V->St->Bool)->Bool)(b:Rd)(f:F32)(st:St)(k:V->St->Bool)(x:V):Bool:=b f (o2d g st k x)
def o2 (g:V->V->St->(V->St->Bool)->Bool)(a b:Rd):KOpF:=fun _ f st k=>a f (o2c g b f st k)
def o3e (g:V->V->V->St->(V->St->Bool)->Bool)(st:St)(k:V->St->Bool)(x y z:V):Bool:=g x y z st k
def o3d (g:V->V->V->St->(V->St->Bool)->Bool)(c:Rd)(f:F32)(st:St)(k:V->St->Bool)(x y:V):Bool:=c f (o3e g st k x y)
def o3c (g:V->V->V->St->(V->St->Bool)->Bool)(b c:Rd)(f:F32)(st:St)(k:V->St->Bool)(x:V):Bool:=b f (o3d g c f st k x)
def o3 (g:V->V->V->St->(V->St->Bool)->Bool)(a b c:Rd):KOpF:=fun _ f st k=>a f (o3c g b c f st k)
section
variable {rd : Opd -> Option Rd} {f : F32} {fr : Fr}
end
def lenC (st:St)(k:V->St->Bool)(n _:Nat):Bool:=k (.int .i64 (.ofNat n)) st
inductive KIns where
 |p (op:KOpF) (d:Wr)
 |m (op:KOpF) (d:Wr) (okW:Option (List Nat))
 |g (s:Rd) (want mark:Bool) (okW:Option (List Nat)) (op:KOpF) (d:Wr)
inductive KC where
 |skip
 |reg (l:List KIns)
 |drw (l:List KIns) (chk:List (List Rd×List Rd))
 |seq (a b:KC)
 |cond (c:Rd) (a b:KC)
 |block (id:Nat) (b:KC)
 |loop (b:KC)
 |exit (id:Nat)
 |ret
inductive Src where
 |fr (i:Nat)
 |lo (m:Nat)
 |ct (v:V)
 |bad
def look :List (Nat×Src)->Nat->Option Src
 |[],_=>none
 |(t,x)::r,s=>if t=s then some x else look r s
def isL (loc:List Nat)(s:Nat):Bool:=loc.contains s
def Jr1 (loc:List Nat)(f:F32)(n:Nat)(v:V):Src->Prop
 | .fr j=>isL loc j=false/\f.fr j=v
 | .lo m=>m<n->f.env[n-1-m]? =some v
 | .ct u=>u=v
 | .bad=>True
def Alike (loc:List Nat)(f:F32)(fr:Fr):Prop:=∀s,isL loc s=false->f.fr s=fr s
structure RInv (loc:List Nat) (σ:List (Nat×Src)) (n:Nat) (f:F32) (fr:Fr):Prop where
 out:Alike loc f fr
 key:∀s x,look σ s=some x->isL loc s=true
 src:∀s x,look σ s=some x->Jr1 loc f n (fr s) x
 lo_lt:∀s m,look σ s=some (.lo m)->m<n
def JbB (t:Nat):List (Nat×Src)->List (Nat×Src)
 |[]=>[]
 |(s, .fr j)::r=>(s,if j=t then .bad else .fr j)::JbB t r
 |(s, .lo m)::r=>(s, .lo m)::JbB t r
 |(s, .ct v)::r=>(s, .ct v)::JbB t r
 |(s, .bad)::r=>(s, .bad)::JbB t r
def jc (loc:List Nat)(σ:List (Nat×Src))(n:Nat):Option Nat->List (Nat×Src)×Nat
 |none=>(σ,n)
 | some t=>match isL loc t with
   |true=>((t, .lo n)::σ,n+1)
   |false=>(JbB t σ,n)
def Jr2 (loc:List Nat)(σ:List (Nat×Src)):Opd->Option Src
 | .c v=>some (.ct v)
 | .s i=>match isL loc i with
   |true=>look σ i
   |false=>some (.fr i)
def later (r:List Ins):Src->Bool
 | .fr j=>r.all fun i=>i.dst !=some j
 | .bad=>false
 |_=>true
def elim (loc:List Nat)(σ:List (Nat×Src))(i:Ins)(r:List Ins):Option (Nat×Src):=
 match i.guard,i.dst,i.op with
 | none,some t, .mv x=>match isL loc t,Jr2 loc σ x with
   |true,some s=>if later r s then some (t,s)else none
   |_,_=>none
 |_,_,_=>none
section
variable {ks : JmF} {self : Self} {loc : List Nat} {σ : List (Nat × Src)} {n : Nat} {f : F32} {fr : Fr}
end
inductive KRS where
 |s (x:Rd)|c1 (x:Rd)|cn (x:Rd) (n:Nat)
structure KFn where
 params:List Wr
 res:List KRS
 body:KC
abbrev JmG :=JmF->List V->St->(V->St->Bool)->Bool
def Jr3 (g:List V->Option V):JmG:=fun _ args st k=>Option.rec (motive:=fun _=>Bool) false (fun v=>Jq7 v fun v=>k v st) (g args)
structure E where
 k:JmG
 b:Self->List V->St->Option (V×St)
def JmH :JmG:=fun _ _ _ _=>false
def JbC :Self->List V->St->Option (V×St):=fun _ _ _=>none
inductive BT where
 |leaf (i:Nat) (e:E)
 |node (n:Nat) (l r:BT)
def selB :BT->Nat->(Self->List V->St->Option (V×St))
 | .leaf i e,f=>bif Nat.beq f i then e.b else JbC
 | .node n l r,f=>bif Nat.ble f n then selB l f else selB r f
def BT.all (p:Nat->E->Prop):BT->Prop
 | .leaf i e=>p i e
 | .node _ l r=>l.all p/\r.all p
def tabT (t:BT):Table:=fun f=>some (selB t f)
theorem Jr4 {P:Program}{ρ:Nat->Value}{base:Bs}{t:BT}(h:t.all fun i e=>Qs P ρ base i e.b):∀f,Qs P ρ base f (selB t f):=by
 induction t with
 | leaf i e=>
   intro f;show Qs P ρ base f (bif Nat.beq f i then e.b else JbC)
   cases hb:Nat.beq f i with
   |true=>rw[Nat.eq_of_beq_eq_true hb];exact h
   |false=>exact fun _ _ _ _ _ _ he=>by cases he
 | node n l r ihl ihr=>
   intro f;show Qs P ρ base f (bif Nat.ble f n then selB l f else selB r f)
   cases Nat.ble f n with
   |true=>exact ihl h.1 f
   |false=>exact ihr h.2 f
def Y7 (g:List V->Option V):E:={k:=Jr3 g,b:=fun _ args st=>match g args with
 |some v=>some (v,st)
 |none=>none}
def hasM (g:Nat)(w:World):Prop:=g<w.heap.size/\∃m:Int,w.cell? ⟨g,0,none⟩=some (.int .i64 m)
theorem Jke {g:Nat}{w:World}(h:∃m:Int,w.cell? ⟨g,0,none⟩=some (.int .i64 m)):hasM g w:=by
 refine⟨?_,h⟩;obtain⟨m,hm⟩:=h;apply Classical.byContradiction;intro hn;have:w.heap[g]? =none:=Array.getElem?_eq_none (by omega);simp[World.cell?,this]at hm
def two (args:List V)(k:Nat->Nat->Nat->Nat->Bool):Bool:=List.rec (motive:=fun _=>Bool) false (fun x t _=>List.rec (motive:=fun _=>Bool) false (fun y t _=>List.rec (motive:=fun _=>Bool) (Jp5 x fun n v=>Jp5 y fun n' v'=>k n v n' v') (fun _ _ _=>false) t) t) args
theorem Jhh {P : Program} {ρ : Nat -> Value} {W : World} {f : Nat} {fn : Func} (h1 : P.funcs[f]? = some fn) (h2 : fn.body.isSome = true) (h3 : fn.name ≠ "runtime.NumGoroutine") {g : Nat} (hm : hasM g W)
  (hc:∀(s sub:ByteArray) (m:Int) (w:World),s.size<4294967281->w.cell? ⟨g,0,none⟩=some (.int .i64 m)->Calls P f #[.string s, .string sub] w fun e w'=>e= .returned (.bool (Lib.contains s.data.toList sub.data.toList))/\w'=w):
  Qs P ρ ⟨W.heap.size,W⟩ f (Y7 Q9).b:=by
 obtain⟨hg,m,hm⟩:=hm;exact Jhg (base:=⟨W.heap.size,W⟩) h1 h2 h3 hg hm hc
section
variable {P : Program} {H : Type} {enc : TypeId × Value -> H}
open Go.ChangeShapes Go.WideShapes Go.ChangeAt
theorem JeY {f:Func}{s:ChangeSpec}{apart fresh handsOn again:Bool}{W W':World}{args:Array Value}{v:Value}{ds gs:List (DataW H)}{before pa pv:List MemPlace}
  (hW:DataW.Whole enc P f.params.toList s.vars apart W args.toList ds gs before) (hb:Below W.heap.size W W')
  (hres:∀(b:Nat) (sp:Nat->Bool) (hd:Bool),DataW.TrodAll enc P W' b sp hd f.resultTypes.toList (v.resultList f.resultTypes.size) (s.fn H (ds++gs)).results [])
  (hargs:∀sp:Nat->Bool,(∀p∈before,sp p.block=true)->DataW.TrodAll enc P W' 0 sp true f.params.toList args.toList (s.fn H (ds++gs)).args pa)
  (hvars:∀sp:Nat->Bool,(∀p∈before,sp p.block=true)->DataW.TrodVars enc P W' sp s.vars (s.fn H (ds++gs)).vars pv) (hps:before=pa++pv)
  (hok:∀(j:Nat) (t:TypeId) (r:Value),f.resultTypes[j]? =some t->(v.resultList f.resultTypes.size)[j]? =some r->Value.okWide P W' .any 0 t r):
  s.post enc P f apart fresh handsOn again W args v W':=by
 have hlt:∀p∈before,p.block<W.heap.size:=fun p hp=>hW.lt p hp;have hold:∀p∈before,(fun b=>decide (b<W.heap.size)) p.block=true:=fun p hp=>by simpa using hlt p hp
 have hmem:∀p,p∈([]++pa)++pv->p∈before:=fun p hp=>by rw[hps];simpa using hp
 refine⟨ds,gs,before,[],pa,pv,hW,hres _ _ _,hargs _ hold,hvars _ hold,hb.frame _,fun _=> ?_⟩;obtain⟨_,_,_,_,_,hz,hn⟩:=hW;refine⟨hok,_,_,([]++pa)++pv,⟨[]++pa,pv,trodAll_append (hargs _ (fun _ _=>rfl)) (hres _ _ _),hvars _ (fun _ _=>rfl),rfl, ?_, ?_⟩, ?_⟩
 ·intro b off hp;rw[hb.frozen (hlt _ (hmem _ hp))];exact hz b off (hmem _ hp)
 ·intro ha;have h1:=hn ha;rw[hps]at h1;simpa using h1
 ·intro p hp _;exact hmem _ hp
end
end Eva
