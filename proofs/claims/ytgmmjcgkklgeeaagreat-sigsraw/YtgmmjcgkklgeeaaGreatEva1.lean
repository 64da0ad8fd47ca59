/- An evaluator of the model's code, proved to tell what the model does. The abstract valu -/
import Derived.Orders
import GoSem.Dispatch
import Derived.Laws.World
import Derived.Below
import Derived.Laws.Cells
import Derived.Laws.Append
set_option linter.unusedVariables false
set_option linter.unusedSimpArgs false
set_option linter.unusedSectionVars false
namespace Eva
open Go
inductive Pt where
 |h|a (p:Pt)|b (p:Pt)|c (p:Pt)|d (p:Pt)
 deriving DecidableEq,Inhabited
def Pt.suc :Pt->Pt
 | .h=> .a .h
 | .a p=> .b p
 | .b p=> .c p
 | .c p=> .d p
 | .d p=> .a p.suc
def Pt.num :Pt->Nat
 | .h=>0
 | .a p=>4*p.num+1
 | .b p=>4*p.num+2
 | .c p=>4*p.num+3
 | .d p=>4*p.num+4
inductive V where
 |bool (b:Bool)
 |int (k:IntKind) (n:Int)
 |im (c m:Nat)
 |str (n v:Nat)
 |pnil|ptr (r:Pt) (o:Nat)
 |snil|sl (r:Pt) (o n z:Nat)|slx (r:Pt) (o n z c:Nat)
 |mnil|map (r:Pt)
 |fn (f:Nat) (a b:List V)
 |fnil
 |agg (l:List V)|tup (l:List V)
 |any|opq (i:Nat)
 deriving Inhabited
abbrev JR :V:= .tup []
inductive Row where
 |none
 |cells (t:Nat) (l:List V)
 |dead (t:Nat)
 |mob (t:Nat) (es:List (V×V))
 |sit (t n v pos:Nat)
 |mit (t:Nat) (m:Option Pt) (n0 cnt:Nat)
 |ro (l:List V)
 deriving Inhabited
inductive Tr where
 |e|n (v:Row) (a b c d:Tr)
 deriving Inhabited
def Tr.get :Pt->Tr->Row
 |_, .e=> .none
 | .h, .n v _ _ _ _=>v
 | .a p, .n _ x _ _ _=>x.get p
 | .b p, .n _ _ x _ _=>x.get p
 | .c p, .n _ _ _ x _=>x.get p
 | .d p, .n _ _ _ _ x=>x.get p
def Tr.set :Pt->Row->Tr->Tr
 | .h,r, .e=> .n r .e .e .e .e
 | .h,r, .n _ a b c d=> .n r a b c d
 | .a p,r, .e=> .n .none (Tr.set p r .e) .e .e .e
 | .a p,r, .n v a b c d=> .n v (Tr.set p r a) b c d
 | .b p,r, .e=> .n .none .e (Tr.set p r .e) .e .e
 | .b p,r, .n v a b c d=> .n v a (Tr.set p r b) c d
 | .c p,r, .e=> .n .none .e .e (Tr.set p r .e) .e
 | .c p,r, .n v a b c d=> .n v a b (Tr.set p r c) d
 | .d p,r, .e=> .n .none .e .e .e (Tr.set p r .e)
 | .d p,r, .n v a b c d=> .n v a b c (Tr.set p r d)
structure St where
 h:Tr
 nx:Pt
 t:Nat
 low:Nat
 deriving Inhabited
def St.row (st:St)(p:Pt):Row:=st.h.get p
inductive Eff where
 |no
 |new (f:Nat->Row)
 |wr (r:Pt) (t:Nat) (f:Nat->Row)
 |dn (r:Pt) (t:Nat) (f:Nat->Row)
def St.new (st:St)(f:Nat->Row):St:={st with h:=st.h.set st.nx (f st.t),nx:=st.nx.suc,t:=st.t+1}
def St.wr (st:St)(p:Pt)(t:Nat)(f:Nat->Row):St:={st with h:=st.h.set p (f st.t),t:=st.t+1,low:=if t<st.low then t else st.low}
def St.ap (st:St):Eff->St
 | .no=>st
 | .new f=>st.new f
 | .wr r t f=>st.wr r t f
 | .dn r t f=>(st.wr r t .dead).new f
def Row.time :Row->Nat
 | .none=>0
 | .cells t _=>t
 | .dead t=>t
 | .mob t _=>t
 | .sit t _ _ _=>t
 | .mit t _ _ _=>t
 | .ro _=>0
def Q4 (v i:Nat):Nat:=(v>>>(8*i))%256
def scut (v lo hi:Nat):Nat:=(v>>>(8*lo))%2^(8*(hi-lo))
def scat (n v v':Nat):Nat:=v+v'<<<(8*n)
def qB :Nat->Nat->Nat->Nat->Bool
 |0,_,n',_=>decide (0<n')
 |_+1,_,0,_=>false
 |n+1,v,n'+1,v'=>decide (v%256<v'%256)||(v%256==v'%256&&qB n (v/256) n' (v'/256))
def jm (n v:Nat):ByteArray:=⟨((List.range n).map fun i=>UInt8.ofNat (Q4 v i)).toArray⟩
def snum :List UInt8->Nat
 |[]=>0
 |b::r=>b.toNat+256*snum r
def V.sc :V->Bool
 | .agg _| .tup _| .any=>false
 |_=>true
def V.cells :V->Option (List V)
 | .agg l=>some l
 | .any=>none
 |v=>some [v]
inductive KD where
 |b|i|s|p|l|m|f
 deriving DecidableEq
def keq :KD->V->V->Option Bool
 | .b, .bool x, .bool y=>some (x==y)
 | .i, .int k x, .int k' y=>if k=k' then some (x==y)else none
 | .s, .str n v, .str n' v'=>some (n==n'&&v==v')
 | .p, .pnil, .pnil=>some true
 | .p, .pnil, .ptr _ _=>some false
 | .p, .ptr _ _, .pnil=>some false
 | .l, .snil, .snil=>some true
 | .l, .snil, .sl _ _ _ _=>some false
 | .l, .sl _ _ _ _, .snil=>some false
 | .l, .snil, .slx _ _ _ _ _=>some false
 | .l, .slx _ _ _ _ _, .snil=>some false
 | .m, .mnil, .mnil=>some true
 | .m, .mnil, .map _=>some false
 | .m, .map _, .mnil=>some false
 | .f, .fnil, .fnil=>some true
 | .f, .fnil, .fn _ _ _=>some false
 | .f, .fn _ _ _, .fnil=>some false
 | .i, .im c m, .int k b=>if k= .i64/\b%(m:Int)≠(c:Int)then some false else none
 |_,_,_=>none
def keqs :List KD->List V->List V->Option Bool
 |[],[],[]=>some true
 | k::ks,x::xs,y::ys=>
   match keq k x y with
   |some true=>keqs ks xs ys
   |some false=>some false
   |none=>none
 |_,_,_=>none
inductive EK where
 |one (k:KD)|many (ks:List KD)
 deriving DecidableEq
def EK.eq :EK->V->V->Option Bool
 | .one k,x,y=>keq k x y
 | .many ks, .agg xs, .agg ys=>if xs.length=ks.length/\ys.length=ks.length then keqs ks xs ys else none
 |_,_,_=>none
def EK.fit :EK->V->Bool
 | .one _,_=>true
 | .many ks, .agg xs=>xs.length==ks.length
 |_,_=>false
def EK.refl (e:EK)(k:V):Bool:=match e.eq k k with
 |some true=>true
 |_=>false
def JaS :V->V->Bool
 | .bool a, .bool b=>a==b
 | .int k a, .int k' b=>decide (k=k')&&a==b
 | .str n v, .str n' v'=>n==n'&&v==v'
 | .pnil, .pnil=>true
 | .snil, .snil=>true
 | .mnil, .mnil=>true
 | .fnil, .fnil=>true
 |_,_=>false
def Ye :List V->List V->Bool
 |[],[]=>true
 |a::r,b::s=>JaS a b&&Ye r s
 |_,_=>false
def Jmb :V->V->Bool
 | .agg l, .agg l'=>Ye l l'
 |a,b=>JaS a b
def Ky (e:EK)(k:V):List (V×V)->Nat->Option (Option (Nat×V))
 |[],_=>some none
 | (x,v)::r,i=>
   match e.eq k x with
   |some true=>some (some (i,v))
   |some false=>Ky e k r (i+1)
   |none=>none
def arith (op:BinOp)(x y:V):Option V:=
 match x,y with
 | .int k a, .int k' b=>
   match op with
   | .shl=>if b<0 then none else some (.int k (k.wrap (a*2^(min b.toNat k.bits))))
   | .shr=>if b<0 then none else some (.int k (a.fdiv (2^(min b.toNat k.bits))))
   | _=>
     if k≠k' then none else
     match op with
     | .add=>some (.int k (k.wrap (a+b)))
     | .sub=>some (.int k (k.wrap (a-b)))
     | .mul=>some (.int k (k.wrap (a*b)))
     | .quo=>if b=0 then none else some (.int k (k.wrap (a.tdiv b)))
     | .rem=>if b=0 then none else some (.int k (a.tmod b))
     | .lss=>some (.bool (decide (a<b)))
     | .leq=>some (.bool (decide (a<=b)))
     | .gtr=>some (.bool (decide (b<a)))
     | .geq=>some (.bool (decide (b<=a)))
     | .and=>if 0<=a/\a<=k.max/\0<=b/\b<=k.max then some (.int k (a.toNat&&&b.toNat:Nat))else none
     | .or=>if 0<=a/\a<=k.max/\0<=b/\b<=k.max then some (.int k (a.toNat|||b.toNat:Nat))else none
     |_=>none
 | .im c m, .int .i64 b=>
   match op with
   | .add=>if m=0\/2^64%m≠0 then none else some (.im (((c:Int)+b)%(m:Int)).toNat m)
   | .rem=>if b<=0\/(m:Int)%b≠0 then none else if(c:Int)%b=0 then some (.int .i64 0)else some (.im ((c:Int)%b).toNat b.toNat)
   |_=>none
 | .str n v, .str n' v'=>
   match op with
   | .add=>if n+n'<2^62 then some (.str (n+n') (scat n v v'))else none
   | .lss=>some (.bool (qB n v n' v'))
   | .leq=>some (.bool (qB n v n' v'||(n==n'&&v==v')))
   | .gtr=>some (.bool !(qB n v n' v'||(n==n'&&v==v')))
   | .geq=>some (.bool !(qB n v n' v'))
   |_=>none
 |_,_=>none
inductive Opd where
 |s (i:Nat)|c (v:V)
 deriving Inhabited
abbrev Fr :=Nat->V
def Opd.ev (fr:Fr):Opd->V
 | .s i=>fr i
 | .c v=>v
inductive Iop where
 |mv (x:Opd)
 |pick (c a b:Opd)
 |alloc (zs:List V)
 |box (x:Opd)
 |build (zs:List V) (ps:List (Nat×Nat×Opd))
 |bsl (z n:Nat) (zs:List V) (ps:List (Nat×Nat×Opd))
 |load1 (x:Opd)
 |loadn (n:Nat) (x:Opd)
 |store (n:Nat) (x v:Opd)
 |nilck (x:Opd)
 |eq (e:EK) (neg:Bool) (x y:Opd)
 |bin (op:BinOp) (x y:Opd)
 |not (x:Opd)
 |neg (x:Opd)
 |toint (k:IntKind) (x:Opd)
 |tostr (x:Opd)
 |bts (x:Opd)
 |mkfn (f:Nat) (a b:List Opd)
 |mkmap
 |mksl (z:Nat) (zs:List V) (n c:Opd)
 |cutS (x:Opd) (lo hi:Option Opd)
 |cutL (z:Nat) (x:Opd) (lo hi mx:Option Opd)
 |cutA (n z:Nat) (x:Opd) (lo hi mx:Option Opd)
 |faddr (o:Nat) (x:Opd)
 |fld (o:Nat) (n:Option Nat) (x:Opd)
 |iaddrS (z:Nat) (x i:Opd)
 |iaddrA (n z:Nat) (x i:Opd)
 |idxS (x i:Opd)
 |idxA (n z:Nat) (g:Bool) (x i:Opd)
 |lookup (e:EK) (z:V) (ok:Bool) (m k:Opd)
 |mupd (e:EK) (m k v:Opd)
 |ment (e:EK) (z:V) (m k:Opd)
 |ests (m s v:Opd)
 |rngS (x:Opd)
 |rngM (x:Opd)
 |jc (x:Opd)
 |nextM (x:Opd)
 |ext (n:Nat) (x:Opd)
 |call (f:Nat) (as:List Opd)
 |callv (x:Opd) (as:List Opd)
 |lenS (x:Opd)
 |lenL (x:Opd)
 |lenM (x:Opd)
 |cap (x:Opd)
 |app (z:Nat) (s x:Opd)
 |copy (z:Nat) (d x:Opd)
 |min (x y:Opd)
 |max (x y:Opd)
 |clear (z:Nat) (zs:List V) (x:Opd)
 deriving Inhabited
structure Ins where
 dst:Option Nat
 op:Iop
 guard:Option (Nat×Bool)
 okW:Option (List Nat)
 deriving Inhabited
inductive C where
 |skip
 |reg (l:List Ins)
 |drw (l:List Ins) (chk:List (List Nat×List Nat))
 |seq (a b:C)
 |seqj (live:List Nat) (a b:C)
 |cond (c:Opd) (a b:C)
 |block (id:Nat) (b:C)
 |loop (live:List Nat) (b:C)
 |exit (id:Nat)
 |ret
 deriving Inhabited
inductive RS where
 |s (i:Nat)|c1 (i:Nat)|cn (i n:Nat)
structure Fn where
 ntmps:Nat
 res:List RS
 body:C
def JI (l:List V)(o:Nat)(vs:List V):List V:=l.take o++vs++l.drop (o+vs.length)
def QM (z:List V):List (Nat×Nat×V)->Option (List V)
 |[]=>some z
 | (o,n,v)::r=>
   match v.cells with
   |some vs=>if vs.length=n/\o+n<=z.length then QM (JI z o vs) r else none
   |none=>none
def KG (st:St)(n:Nat):V->Option (List V)
 | .ptr r o=>match st.row r with
   | .cells _ l=>if o+n<=l.length then some ((l.drop o).take n)else none
   | .ro l=>if o+n<=l.length then some ((l.drop o).take n)else none
   |_=>none
 |_=>none
def JL (st:St)(z n:Nat):V->Option (List V)
 | .snil=>if n=0 then some []else none
 | .sl r o m z'=>if n<=m/\z=z' then KG st (n*z) (.ptr r o)else none
 | .slx r o m z' _=>if n<=m/\z=z' then KG st (n*z) (.ptr r o)else none
 |_=>none
def QN :Nat->Nat->List V
 |0,_=>[]
 |k+1,v=> .int .u8 ((v%256:Nat):Int)::QN k (v/256)
def cellsX (st:St)(z k:Nat)(x:V):Option (List V):=match x with
 | .str n v=>if z=1/\k<=n then some (QN k v)else none
 |x=>JL st z k x
def slen :V->Option Nat
 | .snil=>some 0
 | .sl _ _ n _=>some n
 | .slx _ _ n _ _=>some n
 |_=>none
def slenX (x:V):Option Nat:=match x with
 | .str n _=>some n
 |x=>slen x
def KE :V->Option Nat
 | .int _ n=>if 0<=n then some n.toNat else none
 |_=>none
def JP (d:Nat):Option V->Option Nat
 |none=>some d
 |some v=>KE v
def Qg :List V->Option Nat
 |[]=>some 0
 | .int .u8 n::r=>if 0<=n/\n<256 then(Qg r).map fun v=>n.toNat+256*v else none
 |_::_=>none
def Km (l:List V):Bool:=l.all V.sc
def Qz (z:Nat)(x:V)(lo hi mx:Option V):Option V:=
 match x with
 | .snil=>do
   let l<-JP 0 lo
   let h<-JP 0 hi
   let m<-JP 0 mx
   if l=0/\h=0/\m=0 then some .snil else none
 | .sl r o n z'=>do
   let l<-JP 0 lo
   let h<-JP n hi
   if z≠z' then none else
   match mx with
   | some v=>do
     let m<-KE v
     if l<=h/\h<=m/\m<=n then some (.slx r (o+l*z) (h-l) z (m-l))else none
   |none=>if l<=h/\h<=n then some (.sl r (o+l*z) (h-l) z)else none
 | .slx r o n z' c=>do
   let l<-JP 0 lo
   let h<-JP n hi
   let m<-JP c mx
   if z=z'/\l<=h/\h<=m/\m<=c then some (.slx r (o+l*z) (h-l) z (m-l))else none
 |_=>none
def JE (st:St)(z k:Nat)(new:List V)(s:V):Option (V×Eff):=
 if k=0 then(if(slen s).isSome then some (s, .no)else none)else
 match s with
 | .snil=>some (.sl st.nx 0 k z, .new fun t=> .cells t new)
 | .sl r o n z'=>
   if z≠z'\/2^24<n+k then none else
   match st.row r with
   | .cells t l=>
     if o+n*z<=l.length then some (.sl st.nx 0 (n+k) z, .dn r t fun u=> .cells u ((l.drop o).take (n*z)++new))else none
   |_=>none
 | .slx r o n z' c=>
   if z≠z'\/2^24<n+k then none else
   match st.row r with
   | .cells t l=>
     if o+n*z<=l.length then
      if n+k<=c then
       if o+(n+k)*z<=l.length then some (.slx r o (n+k) z c, .wr r t fun u=> .cells u (JI l (o+n*z) new))else none
      else some (.sl st.nx 0 (n+k) z, .new fun u=> .cells u ((l.drop o).take (n*z)++new))
     else none
   |_=>none
 |_=>none
def JN (st:St)(x:V)(vs:List V):Option Eff:=
 match x with
 | .ptr r o=>match st.row r with
   | .cells t l=>if o+vs.length<=l.length/\Km vs then some (.wr r t fun u=> .cells u (JI l o vs))else none
   |_=>none
 |_=>none
def qu :V->Option V
 | .sl r o _ _=>some (.ptr r o)
 | .slx r o _ _ _=>some (.ptr r o)
 |_=>none
def evs (fr:Fr)(l:List Opd):List V:=l.map (Opd.ev fr)
def evps (fr:Fr)(l:List (Nat×Nat×Opd)):List (Nat×Nat×V):=l.map fun(o,n,x)=>(o,n,x.ev fr)
def Yf (st:St):V->Option (List (V×V))
 | .mnil=>some []
 | .map r=>match st.row r with
   | .mob _ es=>some es
   |_=>none
 |_=>none
def evOp (fr:Fr)(st:St):Iop->Option (V×Eff)
 | .mv x=>some (x.ev fr, .no)
 | .pick c a b=>match c.ev fr with
   | .bool t=>some (if t then a.ev fr else b.ev fr, .no)
   |_=>none
 | .alloc zs=>some (.ptr st.nx 0,Eff.new fun t=> .cells t zs)
 | .box x=>match(x.ev fr).cells with
   |some vs=>if Km vs then some (.ptr st.nx 0,Eff.new fun t=> .cells t vs)else none
   |none=>none
 | .build zs ps=>(QM zs (evps fr ps)).map fun l=>(.agg l, .no)
 | .bsl z n zs ps=>match QM zs (evps fr ps)with
   |some l=>if Km l/\l.length=n*z then some (.slx st.nx 0 n z n,Eff.new fun t=> .cells t l)else none
   |none=>none
 | .load1 x=>match KG st 1 (x.ev fr)with
   |some [v]=>some (v, .no)
   |_=>none
 | .loadn n x=>(KG st n (x.ev fr)).map fun l=>(.agg l, .no)
 | .store n x v=>match(v.ev fr).cells with
   |some vs=>if vs.length=n then(JN st (x.ev fr) vs).map fun e=>(JR,e)else none
   |none=>none
 | .nilck x=>match x.ev fr with
   | .ptr r o=>some (.ptr r o, .no)
   | .fn f a b=>some (.fn f a b, .no)
   |_=>none
 | .eq e neg x y=>(e.eq (x.ev fr) (y.ev fr)).map fun t=>(.bool (t !=neg), .no)
 | .bin op x y=>(arith op (x.ev fr) (y.ev fr)).map fun v=>(v, .no)
 | .not x=>match x.ev fr with
   | .bool t=>some (.bool !t, .no)
   |_=>none
 | .neg x=>match x.ev fr with
   | .int k n=>some (.int k (k.wrap (0-n)), .no)
   |_=>none
 | .toint k x=>match x.ev fr with
   | .int _ n=>some (.int k (k.wrap n), .no)
   |_=>none
 | .tostr x=>match x.ev fr with
   | .str n v=>some (.str n v, .no)
   |_=>none
 | .bts x=>match slen (x.ev fr)with
   | some n=>match JL st 1 n (x.ev fr)with
     |some l=>(Qg l).map fun v=>(.str n v, .no)
     |none=>none
   |none=>none
 | .mkfn f a b=>some (.fn f (evs fr a) (evs fr b), .no)
 | .mkmap=>some (.map st.nx,Eff.new fun t=> .mob t [])
 | .mksl z zs n c=>match KE (n.ev fr),KE (c.ev fr)with
   |some n,some c=>if n<=c/\c<2^20/\zs.length=z then some (.slx st.nx 0 n z c,Eff.new fun t=> .cells t (List.replicate c zs).flatten)else none
   |_,_=>none
 | .cutS x lo hi=>match x.ev fr with
   | .str n v=>match JP 0 (lo.map (Opd.ev fr)),JP n (hi.map (Opd.ev fr))with
     |some l,some h=>if l<=h/\h<=n then some (.str (h-l) (scut v l h), .no)else none
     |_,_=>none
   |_=>none
 | .cutL z x lo hi mx=>(Qz z (x.ev fr) (lo.map (Opd.ev fr)) (hi.map (Opd.ev fr)) (mx.map (Opd.ev fr))).map fun v=>(v, .no)
 | .cutA n z x lo hi mx=>match x.ev fr with
   | .ptr r o=>match st.row r with
     | .cells _ l=>if o+n*z<=l.length then(Qz z (.slx r o n z n) (lo.map (Opd.ev fr)) (hi.map (Opd.ev fr)) (mx.map (Opd.ev fr))).map fun v=>(v, .no)else none
     |_=>none
   |_=>none
 | .faddr o x=>match x.ev fr with
   | .ptr r q=>some (.ptr r (q+o), .no)
   |_=>none
 | .fld o n x=>match x.ev fr with
   | .agg l=>match n with
     |some n=>if o+n<=l.length then some (.agg ((l.drop o).take n), .no)else none
     |none=>(l[o]?).map fun v=>(v, .no)
   |_=>none
 | .iaddrS z x i=>match KE (i.ev fr),x.ev fr with
   |some i, .sl r o n z'=>if i<n/\z=z' then some (.ptr r (o+i*z), .no)else none
   |some i, .slx r o n z' _=>if i<n/\z=z' then some (.ptr r (o+i*z), .no)else none
   |_,_=>none
 | .iaddrA n z x i=>match KE (i.ev fr),x.ev fr with
   |some i, .ptr r o=>if i<n then some (.ptr r (o+i*z), .no)else none
   |_,_=>none
 | .idxS x i=>match KE (i.ev fr),x.ev fr with
   |some i, .str n v=>if i<n then some (.int .u8 (Q4 v i), .no)else none
   |_,_=>none
 | .idxA n z g x i=>match KE (i.ev fr),x.ev fr with
   | some i, .agg l=>if i<n then
      (if g then(if(i*z)+z<=l.length then some (.agg ((l.drop (i*z)).take z), .no)else none)else(l[i*z]?).map fun v=>(v, .no))
     else none
   |_,_=>none
 | .lookup e z ok m k=>match Yf st (m.ev fr)with
   | some es=>if !e.fit (k.ev fr)then none else match Ky e (k.ev fr) es 0 with
     |some (some (_,v))=>some (if ok then .tup [v, .bool true]else v, .no)
     |some none=>some (if ok then .tup [z, .bool false]else z, .no)
     |none=>none
   |none=>none
 | .mupd e m k v=>match m.ev fr with
   | .map r=>match st.row r with
     | .mob t es=>if !e.fit (k.ev fr)then none else match Ky e (k.ev fr) es 0 with
       |some (some (i,_))=>some (JR,Eff.wr r t fun u=> .mob u (es.modify i fun _=>(k.ev fr,v.ev fr)))
       |some none=>some (JR,Eff.wr r t fun u=> .mob u (es++[(k.ev fr,v.ev fr)]))
       |none=>none
     |_=>none
   |_=>none
 | .ment e z m k=>match m.ev fr with
   | .map r=>match st.row r with
     | .mob t es=>if !(e.fit (k.ev fr)&&e.refl (k.ev fr))then none else match Ky e (k.ev fr) es 0 with
       |some (some (i,v))=>some (.tup [v, .int .i64 i],Eff.wr r t fun u=> .mob u (es.modify i fun e=>(k.ev fr,e.2)))
       |some none=>some (.tup [z, .int .i64 es.length],Eff.wr r t fun u=> .mob u (es++[(k.ev fr,z)]))
       |none=>none
     |_=>none
   |_=>none
 | .ests m s v=>match m.ev fr,KE (s.ev fr)with
   | .map r,some i=>match st.row r with
     | .mob t es=>if i<es.length then some (JR,Eff.wr r t fun u=> .mob u (es.modify i fun e=>(e.1,v.ev fr)))else none
     |_=>none
   |_,_=>none
 | .rngS x=>match x.ev fr with
   | .str n v=>some (.ptr st.nx 0,Eff.new fun t=> .sit t n v 0)
   |_=>none
 | .rngM x=>match x.ev fr with
   | .mnil=>some (.ptr st.nx 0,Eff.new fun t=> .mit t none 0 0)
   | .map r=>match st.row r with
     | .mob _ es=>some (.ptr st.nx 0,Eff.new fun t=> .mit t (some r) es.length 0)
     |_=>none
   |_=>none
 | .jc x=>match x.ev fr with
   | .ptr r 0=>match st.row r with
     | .sit t n v pos=>
       if pos<n then
        (if Q4 v pos<128 then some (.tup [.bool true, .int .i64 pos, .int .i32 (Q4 v pos)],Eff.wr r t fun u=> .sit u n v (pos+1))else some (.tup [.bool true, .int .i64 pos, .int .i32 (Utf8.decode (jm n v) pos).1],Eff.wr r t fun u=> .sit u n v (pos+(Utf8.decode (jm n v) pos).2)))
       else some (.tup [.bool false], .no)
     |_=>none
   |_=>none
 | .nextM x=>match x.ev fr with
   | .ptr r 0=>match st.row r with
     | .mit _ none _ _=>some (.tup [.bool false], .no)
     | .mit t (some m) n0 cnt=>match st.row m with
       | .mob _ es=>
         if es.length≠n0 then none
         else if cnt<n0 then some (.tup [.bool true, .any, .any],Eff.wr r t fun u=> .mit u (some m) n0 (cnt+1))
         else some (.tup [.bool false], .no)
       |_=>none
     |_=>none
   |_=>none
 | .ext n x=>match x.ev fr with
   | .tup l=>(l[n]?).map fun v=>(v, .no)
   |_=>none
 | .call _ _=>none
 | .callv _ _=>none
 | .lenS x=>match x.ev fr with
   | .str n _=>some (.int .i64 n, .no)
   |_=>none
 | .lenM x=>match x.ev fr with
   | .mnil=>some (.int .i64 0, .no)
   | .map r=>match st.row r with
     | .mob _ es=>some (.int .i64 es.length, .no)
     |_=>none
   |_=>none
 | .lenL x=>(slen (x.ev fr)).map fun n=>(.int .i64 n, .no)
 | .cap x=>match x.ev fr with
   | .snil=>some (.int .i64 0, .no)
   | .slx _ _ _ _ c=>some (.int .i64 c, .no)
   |_=>none
 | .app z s x=>match slen (x.ev fr)with
   | some k=>match JL st z k (x.ev fr)with
     |some new=>if k<2^20/\Km new=true then JE st z k new (s.ev fr)else none
     |none=>none
   |none=>none
 | .copy z d x=>match slen (d.ev fr),slenX (x.ev fr)with
   | some n,some k=>match cellsX st z (Nat.min k n) (x.ev fr)with
     | some vs=>if Nat.min k n=0 then some (.int .i64 0, .no)else
       match qu (d.ev fr)with
       |some p=>(JN st p vs).map fun e=>(.int .i64 (Nat.min k n),e)
       |none=>none
     |none=>none
   |_,_=>none
 | .min x y=>match x.ev fr,y.ev fr with
   | .int k a, .int k' b=>if k=k' then some (.int k (if b<a then b else a), .no)else none
   |_,_=>none
 | .max x y=>match x.ev fr,y.ev fr with
   | .int k a, .int k' b=>if k=k' then some (.int k (if b>a then b else a), .no)else none
   |_,_=>none
 | .clear z zs x=>match slen (x.ev fr)with
   | some n=>if n=0 then some (JR, .no)else
     match qu (x.ev fr)with
     |some p=>if zs.length=z then(JN st p (List.replicate n zs).flatten).map fun e=>(JR,e)else none
     |none=>none
   |none=>none
abbrev Self :=Nat->List V->St->Option (V×St)
def Kn (self:Self)(fr:Fr)(st:St)(op:Iop):Option (V×St):=
 match op with
 | .call f as=>self f (evs fr as) st
 | .callv x as=>match x.ev fr with
   | .fn f a b=>self f (a++evs fr as++b) st
   |_=>none
 |op=>(evOp fr st op).map fun(v,e)=>(v,st.ap e)
def Iop.calls :Iop->Bool
 | .call ..| .callv ..=>true
 |_=>false
def rowOf :V->Option Pt
 | .ptr r _=>some r
 | .sl r _ _ _=>some r
 | .slx r _ _ _ _=>some r
 | .map r=>some r
 |_=>none
def still (fr:Fr)(st:St)(t:Nat)(l:List Nat):Bool:=l.all fun s=>match rowOf (fr s)with
 |some r=>decide ((st.row r).time<t)
 |none=>true
def Ke (self:Self)(okW:Option (List Nat))(fr:Fr)(st:St)(op:Iop):Option (V×St):=
 match Kn self fr {st with low:=st.t} op with
 | some (v,st')=>
   if st'.low<st.t then
    match okW with
    |none=>none
    |some l=>if still fr st' st.t l then some (v,{st' with low:=if st'.low<st.low then st'.low else st.low})else none
   else some (v,{st' with low:=st.low})
 |none=>none
def put (fr:Fr)(d:Option Nat)(v:V):Fr:=
 match d with
 |none=>fr
 |some i=>fun j=>if j=i then v else fr j
def evGo (self:Self)(drawn:Bool)(fr:Fr)(st:St)(i:Ins):Option (Fr×St):=
 match(if drawn&&i.op.calls then Ke self i.okW fr st i.op else Kn self fr st i.op)with
 |some (v,st)=>some (put fr i.dst v,st)
 |none=>none
def Qh (self:Self)(drawn:Bool)(fr:Fr)(st:St)(i:Ins):Option (Fr×St):=
 match i.guard with
 |none=>evGo self drawn fr st i
 | some (g,want)=>match fr g with
   | .bool b=>if b==want then evGo self drawn fr st i else some (put fr i.dst JR,st)
   | .tup _=>some (put fr i.dst JR,st)
   |_=>none
def JU (self:Self)(drawn:Bool):List Ins->Fr->St->Option (Fr×St)
 |[],fr,st=>some (fr,st)
 | i::r,fr,st=>match Qh self drawn fr st i with
   |some (fr,st)=>JU self drawn r fr st
   |none=>none
inductive Out where
 |norm (fr:Fr) (st:St)
 |exit (id:Nat) (fr:Fr) (st:St)
 |ret (fr:Fr) (st:St)
def restrict (live:List Nat)(fr:Fr):Fr:=fun i=>if live.contains i then fr i else .any
def Yw (body:Fr->St->Option Out)(live:List Nat):Nat->Fr->St->Option Out
 |0,_,_=>none
 | n+1,fr,st=>match body fr st with
   |some (.norm fr st)=>Yw body live n fr st
   |r=>r
def JZ (fr:Fr)(chk:List (List Nat×List Nat)):Bool:=
 chk.all fun(xs,ys)=>xs.all fun x=>ys.all fun y=>match rowOf (fr x),rowOf (fr y)with
  |some r,some q=>decide (r≠q)
  |_,_=>true
def evD (self:Self)(lf:Nat):C->Fr->St->Option Out
 | .skip,fr,st=>some (.norm fr st)
 | .reg l,fr,st=>(JU self false l fr st).map fun(fr,st)=> .norm fr st
 | .drw l chk,fr,st=>match JU self true l fr st with
   |some (fr,st)=>if JZ fr chk then some (.norm fr st)else none
   |none=>none
 | .seq a b,fr,st=>match evD self lf a fr st with
   |some (.norm fr st)=>evD self lf b fr st
   |r=>r
 | .seqj _ a b,fr,st=>match evD self lf a fr st with
   |some (.norm fr st)=>evD self lf b fr st
   |r=>r
 | .cond c a b,fr,st=>match c.ev fr with
   | .bool t=>if t then evD self lf a fr st else evD self lf b fr st
   |_=>none
 | .block id b,fr,st=>match evD self lf b fr st with
   |some (.exit i fr st)=>if i=id then some (.norm fr st)else some (.exit i fr st)
   |r=>r
 | .loop live b,fr,st=>Yw (evD self lf b) live lf fr st
 | .exit id,fr,st=>some (.exit id fr st)
 | .ret,fr,st=>some (.ret fr st)
def Yg (args:List V):Fr:=fun i=>(args[i]?).getD JR
def QA (fr:Fr)(st:St):RS->Option V
 | .s i=>some (fr i)
 | .c1 i=>match KG st 1 (fr i)with
   |some [v]=>some v
   |_=>none
 | .cn i n=>(KG st n (fr i)).map .agg
def KB (res:List RS)(fr:Fr)(st:St):Option V:=
 match res.mapM (QA fr st)with
 |some [v]=>some v
 |some l=>some (.tup l)
 |none=>none
def evFn (lf:Nat)(fn:Fn)(self:Self)(args:List V)(st:St):Option (V×St):=
 match evD self lf fn.body (Yg args) st with
 |some (.norm fr st)=>(KB fn.res fr st).map fun v=>(v,st)
 |some (.ret fr st)=>(KB fn.res fr st).map fun v=>(v,st)
 |_=>none
abbrev Table :=Nat->Option (Self->List V->St->Option (V×St))
def run (T:Table):Nat->Self
 |0=>fun _ _ _=>none
 | n+1=>fun f args st=>match T f with
   |some b=>b (run T n) args st
   |none=>none
def St.start :St:={h:= .e,nx:= .h,t:=0,low:=0}
def ofVal1 :Value->Option V
 | .bool b=>some (.bool b)
 | .int k n=>some (.int k n)
 | .string s=>some (.str s.data.toList.length (snum s.data.toList))
 | .pointer none=>some .pnil
 | .slice none 0 0=>some .snil
 | .map none=>some .mnil
 | .nilFunc=>some .fnil
 |_=>none
def ofVal :Value->Option V
 | .agg cs=>(cs.toList.mapM ofVal1).map .agg
 | .tuple cs=>(cs.toList.mapM ofVal1).map .tup
 |v=>ofVal1 v
def opd :Operand->Option Opd
 | .tmp t=>some (.s t)
 | .const v=>(ofVal v).map .c
 | .func f=>some (.c (.fn f [] []))
 | .global _=>none
variable (P : Program)
def szT (t:TypeId):Option Nat:=(P.info? t).map (·.size)
def J9 (t:TypeId):Option Bool:=(P.underlying t).map fun d=>match d with
 | .struct _=>true
 | .array _ _=>true
 |_=>false
def JeZ (t:TypeId):Option V:=match P.info? t with
 | some i=>match i.zero with
   |some v=>ofVal v
   |none=>none
 |none=>none
def KI (t:TypeId):Option (List V):=match P.info? t with
 | some i=>match i.zero with
   |some v=>v.cells.toList.mapM ofVal1
   |none=>none
 |none=>none
def QV (rec:TypeId->Option (List KD)):List Field->Nat->Option (List KD)
 |[],_=>some []
 | f :: fs, off => if f.name = "_" \/ f.offset ≠ off then none else
   match rec f.type with
   | some l=>match QV rec fs (off+l.length)with
     |some r=>some (l++r)
     |none=>none
   |none=>none
def leaves :Nat->TypeId->Option (List KD)
 |0,_=>none
 | d+1,t=>match P.underlying t with
   |some .bool=>some [.b]
   |some (.int _)=>some [.i]
   |some .string=>some [.s]
   | some (.struct fs)=>if P.stoodInHeld t then none else
     match QV (leaves d) fs.toList 0 with
     |some l=>if szT P t=some l.length then some l else none
     |none=>none
   | some (.array n e)=>match leaves d e with
     |some l=>if szT P e=some l.length/\szT P t=some (n*l.length)/\n<1000 then some (List.replicate n l).flatten else none
     |none=>none
   |_=>none
def eqk (t:TypeId):Option EK:=match P.underlying t with
 |some .bool=>some (.one .b)
 |some (.int _)=>some (.one .i)
 |some .string=>some (.one .s)
 |some (.pointer _)=>some (.one .p)
 |some (.slice _)=>some (.one .l)
 |some (.map _ _)=>some (.one .m)
 |some (.func _ _ _)=>some (.one .f)
 |some (.struct _)=>if P.eqGuardType P.depth t then none else(leaves P 8 t).map .many
 |some (.array _ _)=>if P.eqGuardType P.depth t then none else(leaves P 8 t).map .many
 |_=>none
def EK.plain :EK->Bool
 | .one .b=>true
 | .one .i=>true
 | .one .s=>true
 | .one _=>false
 | .many ks=>ks.all fun k=>k== .b||k== .i||k== .s
def opds (l:Array Operand):Option (List Opd):=l.toList.mapM opd
def opdO :Option Operand->Option (Option Opd)
 |none=>some none
 |some x=>(opd x).map some
def parts (place:Nat->Option (Nat×Nat)):List (Nat×Operand)->Option (List (Nat×Nat×Opd))
 |[]=>some []
 | (i,x)::r=>match place i,opd x,parts place r with
   |some (o,n),some x,some r=>some ((o,n,x)::r)
   |_,_,_=>none
def kX (b:Builtin)(tys:Array TypeId)(args:List Opd):Option Iop:=
 match b,tys.toList,args with
 | .len,t::_,[x]=>match P.underlying t with
   |some .string=>some (.lenS x)
   |some (.slice _)=>some (.lenL x)
   |some (.map _ _)=>some (.lenM x)
   |_=>none
 | .cap,t::_,[x]=>match P.underlying t with
   |some (.slice _)=>some (.cap x)
   |_=>none
 | .append,[t,u],[s,x]=>match P.underlying t,P.underlying u with
   | some (.slice e),some (.slice _)=>match P.info? e with
     |some i=>if i.bytes<=65536/\(i.zero.any fun v=>v.cells.size==i.size)=true then some (.app i.size s x)else none
     |none=>none
   |_,_=>none
 | .copy,t::u::_,[d,x]=>match P.underlying t,P.underlying u with
   |some (.slice e),some (.slice _)=>(szT P e).map fun z=> .copy z d x
   |some (.slice e),some .string=>(szT P e).map fun z=> .copy z d x
   |_,_=>none
 | .min,_,[x,y]=>some (.min x y)
 | .max,_,[x,y]=>some (.max x y)
 | .clear,t::_,[x]=>match P.underlying t with
   | some (.slice e)=>match szT P e,KI P e with
     |some z,some zs=>some (.clear z zs x)
     |_,_=>none
   |_=>none
 |_,_,_=>none
def YA (o:Oper):Option Iop:=
 match o.op with
 | .move x=>(opd x).map .mv
 | .assign x=>(opd x).map .mv
 | .pick c a b=>match opd c,opd a,opd b with
   |some c,some a,some b=>some (.pick c a b)
   |_,_,_=>none
 | .alloc t=>(KI P t).map .alloc
 | .box _ x=>(opd x).map .box
 | .build t ps=>match P.underlying t,KI P t with
   | some (.struct fs),some zs=>match parts (fun i=>match fs[i]? with
      |some f=>(szT P f.type).map fun n=>(f.offset,n)
      |none=>none) ps.toList with
     |some l=>if(fs.toList.all fun f=>(szT P f.type).isSome)then some (.build zs l)else none
     |none=>none
   | some (.array _ e),some zs=>match szT P e with
     |some n=>(parts (fun i=>some (i*n,n)) ps.toList).map (.build zs)
     |none=>none
   |_,_=>none
 | .buildSlice t n ps=>match P.underlying t with
   | some (.slice e)=>match szT P e,KI P e with
     | some z,some zs=>match parts (fun i=>some (i*z,z)) ps.toList with
       |some l=>if n*z<=2^24/\zs.length=z then some (.bsl z n (List.replicate n zs).flatten l)else none
       |none=>none
     |_,_=>none
   |_=>none
 | .load t x=>match J9 P t,szT P t,opd x with
   |some true,some n,some x=>some (.loadn n x)
   |some false,_,some x=>some (.load1 x)
   |_,_,_=>none
 | .store t x v=>match szT P t,opd x,opd v with
   |some n,some x,some v=>some (.store n x v)
   |_,_,_=>none
 | .nilCheck x=>(opd x).map .nilck
 | .binOp .eql t x y _=>match eqk P t,opd x,opd y with
   |some e,some x,some y=>some (.eq e false x y)
   |_,_,_=>none
 | .binOp .neq t x y _=>match eqk P t,opd x,opd y with
   |some e,some x,some y=>some (.eq e true x y)
   |_,_,_=>none
 | .binOp op _ x y _=>match opd x,opd y with
   |some x,some y=>some (.bin op x y)
   |_,_=>none
 | .unOp .not _ x=>(opd x).map .not
 | .unOp .neg _ x=>(opd x).map .neg
 | .convert s d x=>match P.underlying s,P.underlying d,opd x with
   |some (.int _),some (.int k),some x=>some (.toint k x)
   |some .string,some .string,some x=>some (.tostr x)
   | some (.slice e),some .string,some x=>match P.underlying e with
     |some (.int .u8)=>if szT P e=some 1 then some (.bts x)else none
     |_=>none
   |_,_,_=>none
 | .makeFunc (.func f) a b=>match opds a,opds b with
   |some a,some b=>some (.mkfn f a b)
   |_,_=>none
 | .makeMap _ none=>some .mkmap
 | .makeSlice t n c=>match P.underlying t with
   | some (.slice e)=>match P.info? e,KI P e,opd n,opd c with
     |some i,some zs,some n,some c=>if i.bytes<=65536 then some (.mksl i.size zs n c)else none
     |_,_,_,_=>none
   |_=>none
 | .slice t x lo hi mx=>match opd x,opdO lo,opdO hi,opdO mx with
   | some x,some lo,some hi,some mx=>if mx.isSome&&hi.isNone then none else match P.underlying t with
     |some .string=>if mx.isNone then some (.cutS x lo hi)else none
     |some (.slice e)=>(szT P e).map fun z=> .cutL z x lo hi mx
     |some (.array n e)=>(szT P e).map fun z=> .cutA n z x lo hi mx
     |_=>none
   |_,_,_,_=>none
 | .fieldAddr t x f=>match P.underlying t,opd x with
   | some (.struct fs),some x=>match fs[f]? with
     | some f=>match szT P f.type with
       |some n=>if n≠0 then some (.faddr f.offset x)else none
       |none=>none
     |none=>none
   |_,_=>none
 | .field t x f=>match P.underlying t,opd x with
   | some (.struct fs),some x=>match fs[f]? with
     | some f=>match J9 P f.type,szT P f.type with
       |some true,some n=>some (.fld f.offset (some n) x)
       |some false,_=>some (.fld f.offset none x)
       |_,_=>none
     |none=>none
   |_,_=>none
 | .indexAddr t x i=>match P.underlying t,opd x,opd i with
   |some (.slice e),some x,some i=>(szT P e).map fun z=> .iaddrS z x i
   |some (.array n e),some x,some i=>(szT P e).map fun z=> .iaddrA n z x i
   |_,_,_=>none
 | .index t x i=>match P.underlying t,opd x,opd i with
   |some .string,some x,some i=>some (.idxS x i)
   | some (.array n e),some x,some i=>match szT P e,J9 P e with
     |some z,some g=>some (.idxA n z g x i)
     |_,_=>none
   |_,_,_=>none
 | .lookup t m k ok=>match P.underlying t,opd m,opd k with
   | some (.map kt et),some m,some k=>match eqk P kt,JeZ P et with
     |some e,some z=>some (.lookup e z ok m k)
     |_,_=>none
   |_,_,_=>none
 | .mapUpdate t m k v=>match P.underlying t,opd m,opd k,opd v with
   | some (.map kt _),some m,some k,some v=>match eqk P kt with
     |some e=>if e.plain then some (.mupd e m k v)else none
     |none=>none
   |_,_,_,_=>none
 | .insert t m k v=>match P.underlying t,opd m,opd k,opd v with
   | some (.map kt _),some m,some k,some v=>match eqk P kt with
     |some e=>if e.plain then some (.mupd e m k v)else none
     |none=>none
   |_,_,_,_=>none
 | .mapEntry t m k=>match P.underlying t,opd m,opd k with
   | some (.map kt et),some m,some k=>match eqk P kt,JeZ P et with
     |some e,some z=>if e.plain then some (.ment e z m k)else none
     |_,_=>none
   |_,_,_=>none
 | .entryStore _ m s v=>match opd m,opd s,opd v with
   |some m,some s,some v=>some (.ests m s v)
   |_,_,_=>none
 | .range t x=>match P.underlying t,opd x with
   |some .string,some x=>some (.rngS x)
   |some (.map _ _),some x=>some (.rngM x)
   |_,_=>none
 | .next x true=>(opd x).map .jc
 | .next x false=>(opd x).map .nextM
 | .extract x n=>(opd x).map (.ext n)
 | .call c=>match opds c.args with
   | some as=>match c.callee with
     | .value (.func f)=>match P.funcs[f]? with
       | some fn => if fn.body.isSome /\ fn.name ≠ "runtime.NumGoroutine" then some (.call f as) else none
       |none=>none
     | .value x=>(opd x).map fun x=> .callv x as
     | .builtin b=>kX P b c.argTypes as
     | .invoke _ _=>none
   |none=>none
 |_=>none
def Iop.free :Iop->Bool
 | .mv _| .pick ..| .build ..| .nilck _| .eq ..| .bin ..| .not _| .neg _| .toint ..| .tostr _| .mkfn ..| .cutS ..| .cutL ..| .faddr ..| .fld ..
 | .iaddrS ..| .iaddrA ..| .idxS ..| .idxA ..| .ext ..| .lenS _| .lenL _| .cap _| .min ..| .max ..| .alloc _| .box _| .bsl ..| .mkmap| .mksl ..| .rngS _=>true
 |_=>false
def Iop.writes :Iop->Bool
 | .store ..| .app ..| .copy ..| .mupd ..| .ment ..| .ests ..| .jc _| .nextM _| .clear ..| .call ..| .callv ..=>true
 |_=>false
def Opd.slot :Opd->List Nat
 | .s i=>[i]
 | .c _=>[]
def Iop.wslots :Iop->List Nat
 | .store _ x _=>x.slot
 | .app _ s _=>s.slot
 | .copy _ d _=>d.slot
 | .mupd _ m _ _=>m.slot
 | .ment _ _ m _=>m.slot
 | .ests m _ _=>m.slot
 | .jc x=>x.slot
 | .nextM x=>x.slot
 | .clear _ _ x=>x.slot
 |_=>[]
def Iop.aslots :Iop->Option (List Nat)
 | .load1 x=>some x.slot
 | .loadn _ x=>some x.slot
 | .bts x=>some x.slot
 | .cutA _ _ x _ _ _=>some x.slot
 | .lookup _ _ _ m _=>some m.slot
 | .lenM x=>some x.slot
 | .store _ x _=>some x.slot
 | .app _ s x=>some (s.slot++x.slot)
 | .copy _ d x=>some (d.slot++x.slot)
 | .mupd _ m _ _=>some m.slot
 | .ment _ _ m _=>some m.slot
 | .ests m _ _=>some m.slot
 | .clear _ _ x=>some x.slot
 | .jc x=>some x.slot
 | .rngM x=>some x.slot
 | .nextM _=>none
 | .call ..=>none
 | .callv ..=>none
 |_=>some []
def Opd.same :Opd->Opd->Bool
 | .s i, .s j=>i==j
 |_,_=>false
def twin :Iop->Iop->Bool
 | .lookup e z false m k, .ment e' z' m' k'=>decide (e=e')&&Jmb z z'&&m.same m'&&k.same k'
 |_,_=>false
def JaE :Option Opd->List Opd
 |some x=>[x]
 |none=>[]
def Iop.opds :Iop->List Opd
 | .mv x=>[x]
 | .pick c a b=>[c,a,b]
 | .alloc _=>[]
 | .box x=>[x]
 | .build _ ps=>ps.map (·.2.2)
 | .bsl _ _ _ ps=>ps.map (·.2.2)
 | .load1 x=>[x]
 | .loadn _ x=>[x]
 | .store _ x v=>[x,v]
 | .nilck x=>[x]
 | .eq _ _ x y=>[x,y]
 | .bin _ x y=>[x,y]
 | .not x=>[x]
 | .neg x=>[x]
 | .toint _ x=>[x]
 | .tostr x=>[x]
 | .bts x=>[x]
 | .mkfn _ a b=>a++b
 | .mkmap=>[]
 | .mksl _ _ n c=>[n,c]
 | .cutS x lo hi=>x::(JaE lo++JaE hi)
 | .cutL _ x lo hi mx=>x::(JaE lo++(JaE hi++JaE mx))
 | .cutA _ _ x lo hi mx=>x::(JaE lo++(JaE hi++JaE mx))
 | .faddr _ x=>[x]
 | .fld _ _ x=>[x]
 | .iaddrS _ x i=>[x,i]
 | .iaddrA _ _ x i=>[x,i]
 | .idxS x i=>[x,i]
 | .idxA _ _ _ x i=>[x,i]
 | .lookup _ _ _ m k=>[m,k]
 | .mupd _ m k v=>[m,k,v]
 | .ment _ _ m k=>[m,k]
 | .ests m s v=>[m,s,v]
 | .rngS x=>[x]
 | .rngM x=>[x]
 | .jc x=>[x]
 | .nextM x=>[x]
 | .ext _ x=>[x]
 | .call _ as=>as
 | .callv x as=>x::as
 | .lenS x=>[x]
 | .lenL x=>[x]
 | .lenM x=>[x]
 | .cap x=>[x]
 | .app _ s x=>[s,x]
 | .copy _ d x=>[d,x]
 | .min x y=>[x,y]
 | .max x y=>[x,y]
 | .clear _ _ x=>[x]
def Iop.slots (i:Iop):List Nat:=i.opds.flatMap Opd.slot
def Jaf (ops:Array Oper)(o:Oper):List Nat:=match o.guard with
 |some (g,_)=>((ops[g]?).bind (·.dst)).toList
 |none=>[]
def names (ops:Array Oper)(o:Oper)(x:Iop):List Nat:=o.dst.toList++(x.slots++Jaf ops o)
def JaT (ops:Array Oper)(l:List Iop):Bool:=
 let b:=Region.before ops
 (List.range ops.size).all fun i=>match ops[i]?,l[i]? with
  | some o,some x=>
    (o.after.all fun e=> !Region.binds .any e||decide (e.on<i))&&
    (match o.guard with
     |none=>true
     |some (j,_)=>decide (j<i))&&
    (List.range ops.size).all fun k=>k==i||match ops[k]? with
     |none=>false
     | some y=>match y.dst with
       |none=>true
       |some d=> !(names ops o x).contains d||(b.getD (max i k) 0).testBit (min i k)
  |_,_=>false
def ordered (b:Array Nat)(i k:Nat):Bool:=(b.getD (max i k) 0).testBit (min i k)
def qw (ops:Array Oper)(i:Nat):Option Nat:=(ops[i]?).bind (·.dst)
def YB (ops:Array Oper)(i:Nat)(s:Nat):Bool:=(List.range ops.size).all fun k=>decide (k<i)||qw ops k !=some s
def JaU {α:Type}:List (Option (List α))->Option (List α)
 |[]=>some []
 |none::_=>none
 | some x::r=>match JaU r with
   |some y=>some (x++y)
   |none=>none
def okW1 (ops:Array Oper)(l:List Iop)(b:Array Nat)(e k:Nat):Option (List Nat):=
 match l[k]? with
 | some y=>
   if k==e||y.free||ordered b e k then some []else
   match y.aslots with
   |none=>none
   |some ys=>if decide (k<e)&& !y.writes&&ys.all (YB ops k)then some ys else none
 |none=>none
def okWs (ops:Array Oper)(l:List Iop)(e:Nat):Option (List Nat):=
 let b:=Region.before ops
 JaU ((List.range ops.size).map (okW1 ops l b e))
def JaV (ops:Array Oper)(e k:Nat)(y x:Iop):Bool:=twin y x&&y.slots.all (YB ops (min e k))
def Jp0 (ops:Array Oper)(l:List Iop)(b:Array Nat)(e k:Nat):Option (List (List Nat×List Nat)):=
 match l[e]?,l[k]? with
 | some x,some y=>
   if e==k|| !x.writes||x.calls||y.free||ordered b e k||JaV ops e k y x then some []else
   match y.aslots with
   |none=>none
   | some ys=>
     if !x.wslots.isEmpty&&(x.wslots.all (YB ops e))&&(ys.all (YB ops k))then some [(x.wslots,ys)]else none
 |_,_=>none
def Jj0 (ops:Array Oper)(l:List Iop):Option (List (List Nat×List Nat)):=
 let b:=Region.before ops
 JaU ((List.range ops.size).map fun e=>JaU ((List.range ops.size).map (Jp0 ops l b e)))
def kY (ops:Array Oper)(ntmps:Nat)(l:List Iop)(draw:Bool)(i:Nat)(o:Oper)(x:Iop):Option Ins:=
 match o.guard with
 |none=>if o.dst.all (·<ntmps)then some {dst:=o.dst,op:=x,guard:=none,okW:=if draw&&x.calls then okWs ops l i else none}else none
 | some (j,want)=>match(ops[j]?).bind (·.dst)with
   |some d=>if o.dst.all (·<ntmps)/\d<ntmps then some {dst:=o.dst,op:=x,guard:=some (d,want),okW:=if draw&&x.calls then okWs ops l i else none}else none
   |none=>none
def QB (ops:Array Oper)(ntmps:Nat)(l:List Iop)(draw:Bool):Nat->List Oper->List Iop->Option (List Ins)
 |_,[],[]=>some []
 | i,o::os,x::xs=>match kY ops ntmps l draw i o x,QB ops ntmps l draw (i+1) os xs with
   |some y,some r=>some (y::r)
   |_,_=>none
 |_,_,_=>none
def Jdq (ops:Array Oper)(ntmps:Nat)(draw:Bool):Option C:=
 match ops.toList.mapM (YA P)with
 | some l=>if draw&& !JaT ops l then none else
   match QB ops ntmps l draw 0 ops.toList l with
   |some is=>if draw then(Jj0 ops l).map (.drw is)else some (.reg is)
   |none=>none
 |none=>none
def Jgb :Code->Bool
 | .cond ..=>true
 | .block ..=>true
 | .loop _=>true
 | .seq a b=>Jgb a||Jgb b
 |_=>false
def Q5 (ntmps:Nat):Code->List (List Nat)->Option (C×List (List Nat))
 | .skip,hs=>some (.skip,hs)
 | .region _ ops draw,hs=>(Jdq P ops ntmps draw).map fun c=>(c,hs)
 | .seq a b,hs=>
   if Jgb a then
    match hs with
    |[]=>none
    | live::hs=>match Q5 ntmps a hs with
      | some (x,hs)=>match Q5 ntmps b hs with
        |some (y,hs)=>some (.seqj live x y,hs)
        |none=>none
      |none=>none
   else match Q5 ntmps a hs with
    | some (x,hs)=>match Q5 ntmps b hs with
      |some (y,hs)=>some (.seq x y,hs)
      |none=>none
    |none=>none
 | .cond c a b,hs=>match opd c with
   | some c=>match Q5 ntmps a hs with
     | some (x,hs)=>match Q5 ntmps b hs with
       |some (y,hs)=>some (.cond c x y,hs)
       |none=>none
     |none=>none
   |none=>none
 | .block id b,hs=>(Q5 ntmps b hs).map fun(x,hs)=>(.block id x,hs)
 | .loop b,hs=>match hs with
   |[]=>none
   |live::hs=>(Q5 ntmps b hs).map fun(x,hs)=>(.loop live x,hs)
 | .exit id,hs=>some (.exit id,hs)
 | .ret,hs=>some (.ret,hs)
 | .rangeFunc _ _ _ _,hs=>some (.cond (.c .any) .skip .skip,hs) 
 |_,_=>none
def kZ :ResultVar->Option RS
 | .tmp t=>some (.s t)
 | .cell a t=>match J9 P t,szT P t with
   |some true,some n=>some (.cn a n)
   |some false,_=>some (.c1 a)
   |_,_=>none
def Jgc (f:Func)(hs:List (List Nat)):Option Fn:=
 match f.body,f.results.toList.mapM (kZ P)with
 | some c,some rs=>if f.params.size+f.nfree<=f.ntmps then
    match Q5 P f.ntmps c hs with
    |some (c,_)=>some {ntmps:=f.ntmps,res:=rs,body:=c}
    |none=>none
   else none
 |_,_=>none
end Eva
namespace Eva
open Go Go.RowKit
theorem Pt.num_suc (p:Pt):p.suc.num=p.num+1:=by
 induction p with
 |h=>rfl
 |a p _=>simp only[Pt.suc,Pt.num]
 |b p _=>simp only[Pt.suc,Pt.num]
 |c p _=>simp only[Pt.suc,Pt.num]
 |d p ih=>simp only[Pt.suc,Pt.num,ih];omega
theorem Pt.num_inj :∀{p q:Pt},p.num=q.num->p=q:=by
 intro p
 induction p with
 |h=>intro q h;cases q<;>simp only[Pt.num]at h<;>first|rfl|omega
 |a p ih=>intro q h;cases q<;>simp only[Pt.num]at h<;>first|exact congrArg Pt.a (ih (by omega))|omega
 |b p ih=>intro q h;cases q<;>simp only[Pt.num]at h<;>first|exact congrArg Pt.b (ih (by omega))|omega
 |c p ih=>intro q h;cases q<;>simp only[Pt.num]at h<;>first|exact congrArg Pt.c (ih (by omega))|omega
 |d p ih=>intro q h;cases q<;>simp only[Pt.num]at h<;>first|exact congrArg Pt.d (ih (by omega))|omega
@[simp] theorem Tr.get_e (p:Pt):Tr.get p .e= .none:=by cases p<;>rfl
theorem Tr.get_set_same (p:Pt):∀(r:Row) (t:Tr),Tr.get p (Tr.set p r t)=r:=by
 induction p with
 |h=>intro r t;cases t<;>rfl
 |a p ih=>intro r t;cases t<;>simp only[Tr.set,Tr.get,ih]
 |b p ih=>intro r t;cases t<;>simp only[Tr.set,Tr.get,ih]
 |c p ih=>intro r t;cases t<;>simp only[Tr.set,Tr.get,ih]
 |d p ih=>intro r t;cases t<;>simp only[Tr.set,Tr.get,ih]
theorem Tr.get_set_ne (p:Pt):∀(q:Pt) (r:Row) (t:Tr),q≠p->Tr.get q (Tr.set p r t)=Tr.get q t:=by
 induction p with
 |h=>intro q r t hn;cases q<;>cases t<;>first|rfl|exact absurd rfl hn|simp only[Tr.set,Tr.get,Tr.get_e]
 |a p ih=>intro q r t hn;cases q<;>cases t<;>first|rfl|(simp only[Tr.set,Tr.get,Tr.get_e];first|done|(rw[ih _ _ _ (fun e=>hn (by rw[e]))];first|done|simp only[Tr.get_e]))
 |b p ih=>intro q r t hn;cases q<;>cases t<;>first|rfl|(simp only[Tr.set,Tr.get,Tr.get_e];first|done|(rw[ih _ _ _ (fun e=>hn (by rw[e]))];first|done|simp only[Tr.get_e]))
 |c p ih=>intro q r t hn;cases q<;>cases t<;>first|rfl|(simp only[Tr.set,Tr.get,Tr.get_e];first|done|(rw[ih _ _ _ (fun e=>hn (by rw[e]))];first|done|simp only[Tr.get_e]))
 |d p ih=>intro q r t hn;cases q<;>cases t<;>first|rfl|(simp only[Tr.set,Tr.get,Tr.get_e];first|done|(rw[ih _ _ _ (fun e=>hn (by rw[e]))];first|done|simp only[Tr.get_e]))
def upd {α:Type}(f:Pt->α)(p:Pt)(x:α):Pt->α:=fun q=>if q=p then x else f q
@[simp] theorem Jp {α:Type}(f:Pt->α)(p:Pt)(x:α):upd f p x p=x:=by simp[upd]
theorem Jt {α:Type}(f:Pt->α){p q:Pt}(x:α)(h:q≠p):upd f p x q=f q:=by simp[upd,h]
theorem St.row_new (st:St)(f:Nat->Row):(st.new f).row=upd st.row st.nx (f st.t):=by
 funext q;by_cases h:q=st.nx
 ·subst h;simp[St.row,St.new,Tr.get_set_same]
 ·simp[St.row,St.new,Tr.get_set_ne _ _ _ _ h,Jt _ _ h]
theorem St.row_wr (st:St)(p:Pt)(t:Nat)(f:Nat->Row):(st.wr p t f).row=upd st.row p (f st.t):=by
 funext q;by_cases h:q=p
 ·subst h;simp[St.row,St.wr,Tr.get_set_same]
 ·simp[St.row,St.wr,Tr.get_set_ne _ _ _ _ h,Jt _ _ h]
def Eff.on (st:St)(c:Pt->Row):Eff->Pt->Row
 | .no=>c
 | .new f=>upd c st.nx (f st.t)
 | .wr r _ f=>upd c r (f st.t)
 | .dn r _ f=>upd (upd c r (.dead st.t)) st.nx (f (st.t+1))
theorem St.row_ap (st:St)(e:Eff):(st.ap e).row=e.on st st.row:=by
 cases e with
 |no=>rfl
 |new f=>exact st.row_new f
 |wr r t f=>exact st.row_wr r t f
 |dn r t f=>simp only[St.ap,St.row_new,St.row_wr,Eff.on];rfl
theorem JcC (a b:List UInt8):snum (a++b)=snum a+256^a.length*snum b:=by
 induction a with
 |nil=>simp[snum]
 |cons x a ih=>simp only[List.cons_append,snum,ih,List.length_cons,Nat.pow_succ];rw[Nat.mul_add,<-Nat.mul_assoc,Nat.mul_comm 256 (256^a.length)];omega
theorem Jj1 (a:List UInt8):snum a<256^a.length:=by
 induction a with
 |nil=>simp[snum]
 | cons x a ih=>
   simp only[snum,List.length_cons,Nat.pow_succ];have:x.toNat<256:=x.toNat_lt;omega
theorem jv :∀{a b:List UInt8},a.length=b.length->snum a=snum b->a=b
 |[],[],_,_=>rfl
 | x::a,y::b,hl,hn=>by
   simp only[snum]at hn;have hx:x.toNat<256:=x.toNat_lt;have hy:y.toNat<256:=y.toNat_lt;have h1:x.toNat=y.toNat:=by omega
   have h2:snum a=snum b:=by omega
   rw[UInt8.toNat_inj.1 h1,jv (by simpa using hl) h2]
 |[],_::_,hl,_=>by simp at hl
 |_::_,[],hl,_=>by simp at hl
theorem Jag (a:List UInt8)(k:Nat):snum a/256^k=snum (a.drop k):=by
 induction k generalizing a with
 |zero=>simp
 | succ k ih=>
   cases a with
   |nil=>simp[snum]
   | cons x a=>
     simp only[List.drop_succ_cons,<-ih a,snum,Nat.pow_succ];have hx:x.toNat<256:=x.toNat_lt;rw[Nat.mul_comm (256^k) 256,<-Nat.div_div_eq_div_mul];congr 1;omega
theorem Je0 (a:List UInt8)(k:Nat):snum a%256^k=snum (a.take k):=by
 have h:=JcC (a.take k) (a.drop k);rw[List.take_append_drop]at h;by_cases hk:k<=a.length
 ·have hl:(a.take k).length=k:=by simp[hk]
  rw[h,hl,Nat.add_mul_mod_self_left];have:=Jj1 (a.take k);rw[hl]at this;exact Nat.mod_eq_of_lt this
 ·have:a.take k=a:=List.take_of_length_le (by omega);rw[this];exact Nat.mod_eq_of_lt (Nat.lt_of_lt_of_le (Jj1 a) (Nat.pow_le_pow_right (by decide) (by omega)))
theorem two8 (k:Nat):(2:Nat)^(8*k)=256^k:=by rw[Nat.pow_mul]
theorem JcD (s:ByteArray):jm s.data.toList.length (snum s.data.toList)=s:=by
 have:((List.range s.data.toList.length).map fun i=>UInt8.ofNat (Q4 (snum s.data.toList) i))=s.data.toList:=by
  refine List.ext_getElem (by simp) fun i h1 h2=> ?_;simp only[List.getElem_map,List.getElem_range];have:=(s.data.toList[i]).toNat_lt;simp only[Q4,Nat.shiftRight_eq_div_pow,two8,Jag];rw[List.drop_eq_getElem_cons h2];simp only[snum];rw[show((s.data.toList[i]).toNat+256*snum (List.drop (i+1) s.data.toList))%256=(s.data.toList[i]).toNat by omega];exact UInt8.ofNat_toNat
 unfold jm;rw[this]
theorem Jbj (a:List UInt8)(lo hi:Nat):scut (snum a) lo hi=snum ((a.drop lo).take (hi-lo)):=by
 simp only[scut,Nat.shiftRight_eq_div_pow,two8,Jag,Je0]
theorem Jj2 (a b:List UInt8):scat a.length (snum a) (snum b)=snum (a++b):=by
 simp only[scat,Nat.shiftLeft_eq,two8,JcC];rw[Nat.mul_comm]
theorem Jbk (a:List UInt8)(i:Nat)(x:UInt8)(h:a[i]? =some x):Q4 (snum a) i=x.toNat:=by
 simp only[Q4,Nat.shiftRight_eq_div_pow,two8,Jag];have hl:i<a.length:=by rw[List.getElem?_eq_some_iff]at h;exact h.1
 rw[List.drop_eq_getElem_cons hl];have:a[i]=x:=by rw[List.getElem?_eq_getElem hl]at h;exact Option.some.inj h
 rw[this];simp only[snum];have hx:x.toNat<256:=x.toNat_lt;omega
theorem qC :∀(a b:List UInt8),qB a.length (snum a) b.length (snum b)=Op.bytesLess a b
 |[],[]=>by simp[qB,Op.bytesLess]
 |[],_::_=>by simp[qB,Op.bytesLess]
 |_::_,[]=>by simp[qB,Op.bytesLess]
 | x::a,y::b=>by
   have ih:=qC a b;have hx:x.toNat<256:=x.toNat_lt;have hy:y.toNat<256:=y.toNat_lt;simp only[List.length_cons,qB,snum,Op.bytesLess];rw[show(x.toNat+256*snum a)%256=x.toNat by omega,show(y.toNat+256*snum b)%256=y.toNat by omega,
    show(x.toNat+256*snum a)/256=snum a by omega,show(y.toNat+256*snum b)/256=snum b by omega,ih]
   congr 1;congr 1;rw[Bool.eq_iff_iff];simp[UInt8.toNat_inj]
structure Loc where
 b:Nat
 o:Nat
 e:Nat
abbrev Locs :=Pt->Option Loc
mutual
def R (γ:Locs)(ρ:Nat->Value):V->Value->Prop
 | .bool b,v=>v= .bool b
 | .int k n,v=>v= .int k n
 | .im c m,v=>∃n:Int,v= .int .i64 n/\m≠0/\2^64%m=0/\n%(m:Int)=c
 | .str n s,v=>∃x:ByteArray,v= .string x/\x.data.toList.length=n/\snum x.data.toList=s
 | .pnil,v=>v= .pointer none
 | .ptr r o,v=>∃l,γ r=some l/\v= .pointer (some ⟨l.b,l.o+o,none⟩)
 | .snil,v=>v= .slice none 0 0
 | .sl r o n z,v=>∃l a c,γ r=some l/\v= .slice (some a) n c/\n<=c/\(c≠0->a=⟨l.b,l.o+o,none⟩)/\o+c*z<=l.e
 | .slx r o n z c,v=>∃l a,γ r=some l/\v= .slice (some a) n c/\n<=c/\(c≠0->a=⟨l.b,l.o+o,none⟩)/\o+c*z<=l.e
 | .mnil,v=>v= .map none
 | .map r,v=>∃l,γ r=some l/\v= .map (some l.b)
 | .fn f a b,v=>∃xs ys:List Value,v= .func (.func f) xs.toArray ys.toArray/\RL γ ρ a xs/\RL γ ρ b ys
 | .fnil,v=>v= .nilFunc
 | .agg l,v=>∃xs:List Value,v= .agg xs.toArray/\RL γ ρ l xs
 | .tup l,v=>∃xs:List Value,v= .tuple xs.toArray/\RL γ ρ l xs
 | .any,_=>True
 | .opq i,v=>v=ρ i
def RL (γ:Locs)(ρ:Nat->Value):List V->List Value->Prop
 |[],xs=>xs=[]
 |v::vs,xs=>∃y ys,xs=y::ys/\R γ ρ v y/\RL γ ρ vs ys
end
def Ext (γ γ':Locs):Prop:=∀r l,γ r=some l->γ' r=some l
theorem Ext.refl (γ:Locs):Ext γ γ:=fun _ _ h=>h
theorem Ext.trans {a b c:Locs}(h:Ext a b)(k:Ext b c):Ext a c:=fun r l x=>k r l (h r l x)
mutual
theorem R.ext {γ γ':Locs}{ρ:Nat->Value}(h:Ext γ γ'):∀{v:V} {x:Value},R γ ρ v x->R γ' ρ v x
 | .bool _,_,k=>k
 | .int _ _,_,k=>k
 | .im _ _,_,k=>k
 | .str _ _,_,k=>k
 | .pnil,_,k=>k
 | .ptr _ _,_,⟨l,a,b⟩=>⟨l,h _ _ a,b⟩
 | .snil,_,k=>k
 | .sl _ _ _ _,_,⟨l,a,c,k,r⟩=>⟨l,a,c,h _ _ k,r⟩
 | .slx _ _ _ _ _,_,⟨l,a,k,r⟩=>⟨l,a,h _ _ k,r⟩
 | .mnil,_,k=>k
 | .map _,_,⟨l,a,b⟩=>⟨l,h _ _ a,b⟩
 | .fn _ _ _,_,⟨xs,ys,e,a,b⟩=>⟨xs,ys,e,RL.ext h a,RL.ext h b⟩
 | .fnil,_,k=>k
 | .agg _,_,⟨xs,e,a⟩=>⟨xs,e,RL.ext h a⟩
 | .tup _,_,⟨xs,e,a⟩=>⟨xs,e,RL.ext h a⟩
 | .any,_,_=>trivial
 | .opq _,_,k=>k
theorem RL.ext {γ γ':Locs}{ρ:Nat->Value}(h:Ext γ γ'):∀{v:List V} {x:List Value},RL γ ρ v x->RL γ' ρ v x
 |[],_,k=>k
 |_::_,_,⟨y,ys,e,a,b⟩=>⟨y,ys,e,R.ext h a,RL.ext h b⟩
end
section
variable {γ : Locs} {ρ : Nat -> Value}
theorem RL.length :∀{l:List V} {xs:List Value},RL γ ρ l xs->xs.length=l.length
 |[],_,h=>by simp only[RL]at h;subst h;rfl
 |_::_,_,⟨_,_,e,_,b⟩=>by subst e;simp[RL.length b]
theorem RL.get :∀{l:List V} {xs:List Value},RL γ ρ l xs->∀{i:Nat} {v:V},l[i]? =some v->∃x,xs[i]? =some x/\R γ ρ v x
 |[],_,_,i,v,h=>by simp at h
 |_::_,_,⟨y,ys,e,a,b⟩,0,v,h=>by subst e;simp at h;subst h;exact⟨y,rfl,a⟩
 |_::_,_,⟨y,ys,e,a,b⟩,i+1,v,h=>by subst e;simpa using RL.get b (by simpa using h)
theorem RL.append :∀{a:List V} {xs:List Value} {b:List V} {ys:List Value},RL γ ρ a xs->RL γ ρ b ys->RL γ ρ (a++b) (xs++ys)
 |[],_,_,_,h,k=>by simp only[RL]at h;subst h;simpa using k
 |_::_,_,_,_,⟨y,ys,e,a,b⟩,k=>by subst e;exact⟨y,ys++_,rfl,a,RL.append b k⟩
theorem RL.take :∀{l:List V} {xs:List Value} (n:Nat),RL γ ρ l xs->RL γ ρ (l.take n) (xs.take n)
 |[],_,n,h=>by simp only[RL]at h;subst h;simp[RL]
 |_::_,_,0,_=>by simp[RL]
 |_::_,_,n+1,⟨y,ys,e,a,b⟩=>by subst e;exact⟨y,ys.take n,rfl,a,RL.take n b⟩
theorem RL.drop :∀{l:List V} {xs:List Value} (n:Nat),RL γ ρ l xs->RL γ ρ (l.drop n) (xs.drop n)
 |[],_,n,h=>by simp only[RL]at h;subst h;simp[RL]
 |_::_,_,0,h=>by simpa using h
 |_::_,_,n+1,⟨y,ys,e,a,b⟩=>by subst e;simpa using RL.drop n b
theorem RL.mk :∀{l:List V} {xs:List Value},xs.length=l.length->(∀(i:Nat) (v:V) (x:Value),l[i]? =some v->xs[i]? =some x->R γ ρ v x)->RL γ ρ l xs
 |[],xs,h,_=>by simp only[RL];exact List.length_eq_zero_iff.1 h
 |v::l,[],h,_=>by simp at h
 |v::l,x::xs,h,k=>⟨x,xs,rfl,k 0 v x rfl rfl,RL.mk (by simpa using h) fun i v x hv hx=>k (i+1) v x (by simpa using hv) (by simpa using hx)⟩
theorem RL.replicate {v:V}{x:Value}(h:R γ ρ v x):∀n,RL γ ρ (List.replicate n v) (List.replicate n x)
 |0=>by simp[RL]
 |n+1=>⟨x,List.replicate n x,rfl,h,RL.replicate h n⟩
theorem RL.flat_replicate {l:List V}{xs:List Value}(h:RL γ ρ l xs):∀n,RL γ ρ (List.replicate n l).flatten (List.replicate n xs).flatten
 |0=>by simp[RL]
 |n+1=>by simp only[List.replicate_succ,List.flatten_cons];exact RL.append h (RL.flat_replicate h n)
theorem R.ofVal1 {x:Value}{v:V}(h:ofVal1 x=some v):R γ ρ v x:=by
 unfold Eva.ofVal1 at h
 split at h<;>first|(injection h with h;subst h;simp only[R];done)|(injection h with h;subst h;exact⟨_,rfl,rfl,rfl⟩)|cases h
theorem RL.ofVals :∀{xs:List Value} {l:List V},xs.mapM Eva.ofVal1=some l->RL γ ρ l xs
 |[],l,h=>by simp at h;subst h;simp[RL]
 | x::xs,l,h=>by
   rw[List.mapM_cons]at h
   cases h1:Eva.ofVal1 x with
   |none=>simp[h1]at h
   | some v=>
     cases h2:xs.mapM Eva.ofVal1 with
     |none=>simp[h1,h2]at h
     |some vs=>simp[h1,h2]at h;subst h;exact⟨x,xs,rfl,R.ofVal1 h1,RL.ofVals h2⟩
theorem R.ofVal {x:Value}{v:V}(h:ofVal x=some v):R γ ρ v x:=by
 unfold Eva.ofVal at h
 split at h
 ·rename_i cs
  cases h2:cs.toList.mapM Eva.ofVal1 with
  |none=>simp[h2]at h
  |some vs=>simp[h2]at h;subst h;exact⟨cs.toList,by simp,RL.ofVals h2⟩
 ·rename_i cs
  cases h2:cs.toList.mapM Eva.ofVal1 with
  |none=>simp[h2]at h
  |some vs=>simp[h2]at h;subst h;exact⟨cs.toList,by simp,RL.ofVals h2⟩
 ·exact R.ofVal1 h
end
def Ql (γ:Locs)(ρ:Nat->Value)(l:Loc)(row:Row)(w:World):Prop:=
 match row with
 | .none=>True
 | .cells _ xs=>∃arr elem fz,w.heap[l.b]? =some (.cells arr elem fz)/\l.o+l.e<=arr.size/\xs.length<=l.e/\
    (∀i v,xs[i]? =some v->∃x,arr[l.o+i]? =some x/\R γ ρ v x)/\(∀i,i<l.e->¬(fz.1<=l.o+i/\l.o+i<fz.2))
 | .dead _=>True
 | .mob _ es=>∃ents,w.heap[l.b]? =some (.map ents es.length)/\ents.size=es.length/\
    ∀i k v,es[i]? =some (k,v)->∃e:MapEntry,ents[i]? =some e/\R γ ρ k e.key/\R γ ρ v e.val/\e.born=i
 | .sit _ n v pos=>∃s:ByteArray,w.heap[l.b]? =some (.stringIter s pos)/\s.data.toList.length=n/\snum s.data.toList=v
 | .mit _ m n0 cnt=>∃mm seen,w.heap[l.b]? =some (.mapIter mm n0 seen n0)/\seen.size=cnt/\seen.toList.Nodup/\(∀b∈seen.toList,b<n0)/\
    match m with
    |none=>mm=none
    |some r=>∃lm,γ r=some lm/\mm=some lm.b
 | .ro xs=>∀i v,xs[i]? =some v->∃arr elem fz x,w.heap[l.b]? =some (.cells arr elem fz)/\arr[l.o+i]? =some x/\R γ ρ v x
def Row.alive :Row->Prop
 | .none=>False
 | .dead _=>False
 | .ro _=>False
 |_=>True
def Row.isRo :Row->Bool
 | .ro _=>true
 |_=>false
def Ji8 (l q:Loc):Prop:=l.b≠q.b\/l.o+l.e<=q.o\/q.o+q.e<=l.o
structure Bs where
 n:Nat
 w:World
structure Rel (γ:Locs) (ρ:Nat->Value) (base:Bs) (c:Pt->Row) (w:World):Prop where
 low:base.n<=w.heap.size
 glob:∀b,b<base.n->w.heap[b]? =base.w.heap[b]?
 loc:∀r l,γ r=some l->((c r).isRo=false->base.n<=l.b)/\l.b<w.heap.size
 row:∀r,c r≠ .none->∃l,γ r=some l/\Ql γ ρ l (c r) w
 one:∀r l,γ r=some l->(match c r with| .mob ..=>True| .sit ..=>True| .mit ..=>True|_=>False)->0<l.e/\l.o=0
 sep:∀r q lr lq,r≠q->γ r=some lr->γ q=some lq->(c r).alive->(c q).alive->Ji8 lr lq
 ro:∀r l,γ r=some l->(c r).isRo=true->l.b<base.n
theorem Ql.ext {γ γ':Locs}{ρ:Nat->Value}{l:Loc}{row:Row}{w w':World}(h:Ext γ γ')(hb:w'.heap[l.b]? =w.heap[l.b]?)(k:Ql γ ρ l row w):Ql γ' ρ l row w':=by
 cases row with
 |none=>trivial
 |dead _=>trivial
 | cells t xs=>
   obtain⟨arr,elem,fz,h1,h2,h3,h4,h5⟩:=k;exact⟨arr,elem,fz,hb.trans h1,h2,h3,fun i v hv=>let⟨x,hx,hr⟩:=h4 i v hv;⟨x,hx,hr.ext h⟩,h5⟩
 | mob t es=>
   obtain⟨ents,h1,h2,h3⟩:=k;exact⟨ents,hb.trans h1,h2,fun i k v hv=>let⟨e,he,a,b,c⟩:=h3 i k v hv;⟨e,he,a.ext h,b.ext h,c⟩⟩
 | sit t n v pos=>
   obtain⟨s,h1,h2⟩:=k;exact⟨s,hb.trans h1,h2⟩
 | mit t m n0 cnt=>
   obtain⟨mm,seen,h1,h2,h3,h4,h5⟩:=k;refine⟨mm,seen,hb.trans h1,h2,h3,h4, ?_⟩
   cases m with
   |none=>exact h5
   |some r=>obtain⟨lm,a,b⟩:=h5;exact⟨lm,h _ _ a,b⟩
 | ro xs=>
   intro i v hv;obtain⟨arr,elem,fz,x,h1,h2,h3⟩:=k i v hv;exact⟨arr,elem,fz,x,hb.trans h1,h2,h3.ext h⟩
section
variable {P : Program} {γ : Locs} {ρ : Nat -> Value} {base : Bs} {c : Pt -> Row} {w : World}
theorem Yh (b o n:Nat):Addr.add ⟨b,o,none⟩ n=⟨b,o+n,none⟩:=by
 unfold Addr.add
 split
 ·rename_i h;subst h;rfl
 ·rfl
theorem Jf {t:TypeId}{d:TypeDesc}(h:P.underlying t=some d):(underlying t).run P w= .ok d w:=by
 simp[underlying,h]
theorem QO {t:TypeId}{i:TypeInfo}(h:P.info? t=some i):(typeInfo t).run P w= .ok i w:=by
 simp[typeInfo,h]
theorem JQ {t:TypeId}{n:Nat}(h:szT P t=some n):(Go.sizeOf t).run P w= .ok n w:=by
 unfold szT at h
 cases hi:P.info? t with
 |none=>simp[hi]at h
 |some i=>simp[hi]at h;simp[Go.sizeOf,QO hi,h]
theorem kE {t:TypeId}{g:Bool}(h:J9 P t=some g):(isAgg t).run P w= .ok g w:=by
 unfold J9 at h
 cases hi:P.underlying t with
 |none=>simp[hi]at h
 | some d=>
   simp[hi]at h;unfold isAgg;simp only[Sem.run_bind,Jf hi,Result.andThen_ok];subst h
   cases d<;>rfl
theorem Rel.heap {w':World}(h:Rel γ ρ base c w)(e:w'.heap=w.heap):Rel γ ρ base c w':=by
 refine⟨by rw[e];exact h.low,fun b k=>by rw[e];exact h.glob b k,fun r l k=>by rw[e];exact h.loc r l k,fun r k=> ?_,h.one,h.sep,h.ro⟩;obtain⟨l,a,b⟩:=h.row r k;exact⟨l,a,b.ext (Ext.refl _) (by rw[e])⟩
theorem Ext.upd {p:Pt}{l:Loc}(h:γ p=none):Ext γ (upd γ p (some l)):=by
 intro r k hr;by_cases e:r=p
 ·subst e;rw[h]at hr;cases hr
 ·rw[Jt _ _ e];exact hr
def Row.isObj :Row->Prop
 | .mob ..=>True
 | .sit ..=>True
 | .mit ..=>True
 |_=>False
theorem Rel.alloc (h:Rel γ ρ base c w){p:Pt}(hp:γ p=none){row:Row}{o:Obj}{e:Nat}
  (hr:Ql (upd γ p (some ⟨w.heap.size,0,e⟩)) ρ ⟨w.heap.size,0,e⟩ row (w.alloc o)) (ho:row.isObj->0<e) (hro:row.isRo=false:=by rfl):
  Rel (upd γ p (some ⟨w.heap.size,0,e⟩)) ρ base (upd c p row) (w.alloc o):=by
 have hx:Ext γ (upd γ p (some ⟨w.heap.size,0,e⟩)):=Ext.upd hp;have hsz:(w.alloc o).heap.size=w.heap.size+1:=World.size_alloc ..;refine⟨by rw[hsz];have:=h.low;omega,fun b k=>by rw[<-h.glob b k];show(w.heap.push o)[b]? =_;rw[Array.getElem?_push,if_neg (by have:=h.low;omega)],fun r l k=> ?_,fun r k=> ?_,fun r l k1 k2=> ?_,fun r q lr lq hne k1 k2 a1 a2=> ?_,fun r l k k2=> ?_⟩
 ·by_cases er:r=p
  ·subst er;rw[Jp]at k;injection k with k;subst k;rw[hsz];exact⟨fun _=>h.low,by simp⟩
  ·rw[Jt _ _ er]at k⊢;have:=h.loc r l k;rw[hsz];exact⟨this.1,by omega⟩
 ·by_cases er:r=p
  ·subst er;refine⟨_,Jp _ _ _, ?_⟩;rw[Jp];exact hr
  ·have ec:upd c p row r=c r:=Jt _ _ er;rw[ec]at k;obtain⟨l,a,b⟩:=h.row r k;rw[ec];refine⟨l,hx r l a,b.ext hx ?_⟩;have hl:=(h.loc r l a).2;show(w.heap.push o)[l.b]? =_;rw[Array.getElem?_push,if_neg (by omega)]
 ·by_cases er:r=p
  ·subst er;rw[Jp]at k1 k2;injection k1 with k1;subst k1;exact⟨ho (by cases row<;>first|trivial|exact k2.elim),rfl⟩
  ·rw[Jt _ _ er]at k1 k2;exact h.one r l k1 k2
 ·by_cases er:r=p
  ·subst er;rw[Jp]at k1;injection k1 with k1;subst k1;rw[Jt _ _ (Ne.symm hne)]at k2;exact .inl (by have:=(h.loc q lq k2).2;simp;omega)
  ·by_cases eq:q=p
   ·subst eq;rw[Jp]at k2;injection k2 with k2;subst k2;rw[Jt _ _ er]at k1;exact .inl (by have:=(h.loc r lr k1).2;simp;omega)
   ·rw[Jt _ _ er]at k1 a1;rw[Jt _ _ eq]at k2 a2;exact h.sep r q lr lq hne k1 k2 a1 a2
 ·by_cases er:r=p
  ·subst er;rw[Jp,hro]at k2;cases k2
  ·rw[Jt _ _ er]at k k2;exact h.ro r l k k2
abbrev setB (w:World)(b:Nat)(o:Obj):World:={w with heap:=w.heap.setIfInBounds b o}
theorem QF {b:Nat}{o:Obj}(h:b<w.heap.size):(setB w b o).heap[b]? =some o:=by
 simp[h]
theorem Jbl {b k:Nat}{o:Obj}(h:k≠b):(setB w b o).heap[k]? =w.heap[k]? :=by
 simp[Ne.symm h]
theorem Below.setB {B b:Nat}{o:Obj}(h:B<=b):Below B w (setB w b o):=
 ⟨rfl,rfl,rfl,by simp,fun k hk=>Jbl (by omega)⟩
theorem Rel.cells (h:Rel γ ρ base c w){p:Pt}{l:Loc}(hp:γ p=some l){row:Row}{arr arr':Array Value}{elem:TypeId}{fz:Nat×Nat}
  (hb:w.heap[l.b]? =some (.cells arr elem fz)) (hs:arr'.size=arr.size) (hc:∃t xs,c p= .cells t xs)
  (ho:∀i,i<l.o\/l.o+l.e<=i->arr'[i]? =arr[i]?) (hr:Ql γ ρ l row (setB w l.b (.cells arr' elem fz))) (hk:¬row.isObj) (hro:row.isRo=false:=by rfl):
  Rel γ ρ base (upd c p row) (setB w l.b (.cells arr' elem fz)):=by
 obtain⟨t,xs,hc⟩:=hc;have hl0:=h.loc p l hp;have hl:base.n<=l.b/\l.b<w.heap.size:=⟨hl0.1 (by rw[hc];rfl),hl0.2⟩
 have halive:(c p).alive:=by rw[hc];trivial
 refine⟨by simpa[Eva.setB]using h.low,fun b k=>by rw[<-h.glob b k];exact Jbl (by have:=hl.1;omega),fun r k e=> ?_,fun r k=> ?_,fun r k k1 k2=> ?_,fun r q lr lq hne k1 k2 a1 a2=> ?_,fun r k k1 k2=> ?_⟩
 ·refine⟨fun hr=> ?_,by simpa[Eva.setB]using(h.loc r k e).2⟩;by_cases er:r=p
  ·subst er;rw[hp]at e;injection e with e;subst e;exact hl.1
  ·rw[Jt _ _ er]at hr;exact(h.loc r k e).1 hr
 ·by_cases er:r=p
  ·subst er;rw[Jp];exact⟨l,hp,hr⟩
  ·rw[Jt _ _ er]at k⊢;obtain⟨lr,a,b⟩:=h.row r k;refine⟨lr,a, ?_⟩;by_cases eb:lr.b=l.b
   ·have hap:(c r).alive->Ji8 lr l:=fun al=>h.sep r p lr l er a hp al halive
    cases hcr:c r with
    |none=>trivial
    |dead _=>trivial
    | cells t' xs'=>
      rw[hcr]at b hap;obtain⟨arr0,elem0,fz0,h1,h2,h3,h4,h5⟩:=b;rw[eb,hb]at h1;injection h1 with h1;injection h1 with e1 e2 e3;subst e1;subst e2;subst e3;refine⟨arr',elem,fz,by rw[eb];exact QF hl.2,by omega,h3,fun i v hv=> ?_,h5⟩;obtain⟨x,hx,hR⟩:=h4 i v hv;have hi:i<xs'.length:=by rw[List.getElem?_eq_some_iff]at hv;exact hv.1
      refine⟨x, ?_,hR⟩;rw[ho]
      ·exact hx
      ·rcases hap trivial with h6|h6|h6
       ·exact absurd eb h6
       ·left;omega
       ·right;omega
    |mob t' es=>rw[hcr]at b;obtain⟨ents,h1,_⟩:=b;rw[eb,hb]at h1;cases h1
    |sit t' n v pos=>rw[hcr]at b;obtain⟨s,h1,_⟩:=b;rw[eb,hb]at h1;cases h1
    |mit t' m n0 cnt=>rw[hcr]at b;obtain⟨mm,seen,h1,_⟩:=b;rw[eb,hb]at h1;cases h1
    |ro xs'=>have:=h.ro r lr a (by rw[hcr];rfl);omega
   ·exact b.ext (Ext.refl _) (Jbl eb)
 ·by_cases er:r=p
  ·subst er;rw[Jp]at k2;exact absurd (by cases row<;>first|trivial|exact k2.elim) hk
  ·rw[Jt _ _ er]at k2;exact h.one r k k1 k2
 ·have g:∀x,(upd c p row x).alive->(c x).alive:=fun x hx=>by
   by_cases ex:x=p
   ·rw[ex];exact halive
   ·rwa [Jt _ _ ex]at hx
  exact h.sep r q lr lq hne k1 k2 (g r a1) (g q a2)
 ·by_cases er:r=p
  ·subst er;rw[Jp,hro]at k2;cases k2
  ·rw[Jt _ _ er]at k2;exact h.ro r k k1 k2
theorem Rel.obj (h:Rel γ ρ base c w){p:Pt}{l:Loc}(hp:γ p=some l){row:Row}{o:Obj}
  (hc:(c p).isObj) (hr:Ql γ ρ l row (setB w l.b o)) (hro:row.isRo=false:=by rfl):
  Rel γ ρ base (upd c p row) (setB w l.b o):=by
 have hl0:=h.loc p l hp;have hl:base.n<=l.b/\l.b<w.heap.size:=⟨hl0.1 (by cases hx:c p<;>rw[hx]at hc<;>first|rfl|exact hc.elim),hl0.2⟩
 have halive:(c p).alive:=by cases hx:c p<;>rw[hx]at hc<;>first|trivial|exact hc.elim
 have hone:=h.one p l hp (by cases hx:c p<;>rw[hx]at hc<;>first|trivial|exact hc.elim);refine⟨by simpa[Eva.setB]using h.low,fun b k=>by rw[<-h.glob b k];exact Jbl (by have:=hl.1;omega),fun r k e=> ?_,fun r k=> ?_,fun r k k1 k2=> ?_,fun r q lr lq hne k1 k2 a1 a2=> ?_,fun r k k1 k2=> ?_⟩
 ·refine⟨fun hr=> ?_,by simpa[Eva.setB]using(h.loc r k e).2⟩;by_cases er:r=p
  ·subst er;rw[hp]at e;injection e with e;subst e;exact hl.1
  ·rw[Jt _ _ er]at hr;exact(h.loc r k e).1 hr
 ·by_cases er:r=p
  ·subst er;rw[Jp];exact⟨l,hp,hr⟩
  ·rw[Jt _ _ er]at k⊢;obtain⟨lr,a,b⟩:=h.row r k;refine⟨lr,a, ?_⟩;by_cases eb:lr.b=l.b
   ·have hblock:∀arr elem fz,w.heap[l.b]?≠some (.cells arr elem fz):=by
     intro arr elem fz e;obtain⟨l',k1,k2⟩:=h.row p (fun e=>by rw[e]at hc;exact hc);rw[hp]at k1;injection k1 with k1;subst k1
     cases hx:c p with
     |none=>rw[hx]at hc;exact hc
     |dead _=>rw[hx]at hc;exact hc
     |cells _ _=>rw[hx]at hc;exact hc
     |mob _ _=>rw[hx]at k2;obtain⟨_,k3,_⟩:=k2;rw[e]at k3;cases k3
     |sit _ _ _ _=>rw[hx]at k2;obtain⟨_,k3,_⟩:=k2;rw[e]at k3;cases k3
     |mit _ _ _ _=>rw[hx]at k2;obtain⟨_,_,k3,_⟩:=k2;rw[e]at k3;cases k3
     |ro _=>rw[hx]at hc;exact hc
    have hobj:(c r).isObj->False:=by
     intro ho;have h1:=h.one r lr a (by cases hx:c r<;>rw[hx]at ho<;>first|trivial|exact ho.elim);have h2:=h.sep r p lr l er a hp (by cases hx:c r<;>rw[hx]at ho<;>first|trivial|exact ho.elim) halive;rcases h2 with h2|h2|h2
     ·exact h2 eb
     ·omega
     ·omega
    cases hcr:c r with
    |none=>exact absurd hcr k
    |dead _=>trivial
    |cells t' xs'=>rw[hcr]at b;obtain⟨arr,elem,fz,h1,_⟩:=b;rw[eb]at h1;exact absurd h1 (hblock _ _ _)
    |mob t' es=>rw[hcr]at hobj;exact(hobj trivial).elim
    |sit t' n v pos=>rw[hcr]at hobj;exact(hobj trivial).elim
    |mit t' m n0 cnt=>rw[hcr]at hobj;exact(hobj trivial).elim
    |ro xs'=>have:=h.ro r lr a (by rw[hcr];rfl);omega
   ·exact b.ext (Ext.refl _) (Jbl eb)
 ·by_cases er:r=p
  ·subst er;rw[hp]at k1;injection k1 with k1;subst k1;exact hone
  ·rw[Jt _ _ er]at k2;exact h.one r k k1 k2
 ·have g:∀x,(upd c p row x).alive->(c x).alive:=fun x hx=>by
   by_cases ex:x=p
   ·rw[ex];exact halive
   ·rwa [Jt _ _ ex]at hx
  exact h.sep r q lr lq hne k1 k2 (g r a1) (g q a2)
 ·by_cases er:r=p
  ·subst er;rw[Jp,hro]at k2;cases k2
  ·rw[Jt _ _ er]at k2;exact h.ro r k k1 k2
end
section
variable {P : Program} {γ : Locs} {ρ : Nat -> Value} {base : Bs} {c : Pt -> Row} {w : World}
theorem Jgd {b o:Nat}{arr:Array Value}{elem:TypeId}{fz:Nat×Nat}(h:w.heap[b]? =some (.cells arr elem fz)):w.cell? ⟨b,o,none⟩=arr[o]? :=by
 simp[World.cell?,h]
theorem JlB {b o:Nat}{arr:Array Value}{elem:TypeId}{fz:Nat×Nat}(h:w.heap[b]? =some (.cells arr elem fz)):w.frozen? ⟨b,o,none⟩=(decide (fz.1<=o)&&decide (o<fz.2)):=by
 simp[World.frozen?,h]
theorem Jbm {l:Loc}{t:Nat}{xs:List V}(h:Ql γ ρ l (.cells t xs) w){o n:Nat}(hn:o+n<=xs.length):
  ∃ys:List Value,RL γ ρ ((xs.drop o).take n) ys/\(loadCells ⟨l.b,l.o+o,none⟩ n).run P w= .ok ys.toArray w:=by
 obtain⟨arr,elem,fz,h1,h2,h3,h4,_⟩:=h;have hg:∀j,j<n->∃v x,xs[o+j]? =some v/\arr[l.o+o+j]? =some x/\R γ ρ v x:=fun j hj=>by
  have hv:xs[o+j]? =some (xs[o+j]'(by omega)):=List.getElem?_eq_getElem (by omega);obtain⟨x,hx,hr⟩:=h4 _ _ hv;exact⟨_,x,hv,by rw[Nat.add_assoc];exact hx,hr⟩
 refine⟨(List.range n).map fun j=>arr.getD (l.o+o+j) undef, ?_, ?_⟩
 ·refine RL.mk (by simp;omega) fun i v x hv hx=> ?_;have hi:i<n:=by
   rw[List.getElem?_eq_some_iff]at hx;simpa using hx.1
  obtain⟨v',x',e1,e2,e3⟩:=hg i hi;rw[List.getElem?_take_of_lt hi,List.getElem?_drop]at hv;rw[e1]at hv;injection hv with hv;subst hv;simp[hi]at hx;rw[e2]at hx;simp at hx;subst hx;exact e3
 ·refine run_loadCells w _ n (fun j=>arr.getD (l.o+o+j) undef) fun j hj=> ?_;obtain⟨v',x',e1,e2,e3⟩:=hg j hj;rw[Yh,Jgd h1,e2];simp[e2]
theorem Jb4 {l:Loc}{xs:List V}(h:Ql γ ρ l (.ro xs) w){o n:Nat}(hn:o+n<=xs.length):
  ∃ys:List Value,RL γ ρ ((xs.drop o).take n) ys/\(loadCells ⟨l.b,l.o+o,none⟩ n).run P w= .ok ys.toArray w:=by
 have hg:∀j,j<n->∃v x,xs[o+j]? =some v/\w.cell? ⟨l.b,l.o+o+j,none⟩=some x/\R γ ρ v x:=fun j hj=>by
  have hv:xs[o+j]? =some (xs[o+j]'(by omega)):=List.getElem?_eq_getElem (by omega);obtain⟨arr,elem,fz,x,h1,h2,hr⟩:=h _ _ hv;exact⟨_,x,hv,by rw[Jgd h1,Nat.add_assoc];exact h2,hr⟩
 refine⟨(List.range n).map fun j=>(w.cell? ⟨l.b,l.o+o+j,none⟩).getD undef, ?_, ?_⟩
 ·refine RL.mk (by simp;omega) fun i v x hv hx=> ?_;have hi:i<n:=by
   rw[List.getElem?_eq_some_iff]at hx;simpa using hx.1
  obtain⟨v',x',e1,e2,e3⟩:=hg i hi;rw[List.getElem?_take_of_lt hi,List.getElem?_drop]at hv;rw[e1]at hv;injection hv with hv;subst hv;simp only[List.getElem?_map,List.getElem?_range hi,Option.map_some,e2,Option.getD_some,Option.some.injEq]at hx;subst hx;exact e3
 ·refine run_loadCells w _ n (fun j=>(w.cell? ⟨l.b,l.o+o+j,none⟩).getD undef) fun j hj=> ?_;obtain⟨v',x',e1,e2,e3⟩:=hg j hj;rw[Yh,e2];rfl
theorem qx {t:TypeId}{n:Nat}(h1:J9 P t=some true)(h2:szT P t=some n){a:Addr}{ys:Array Value}(h:(loadCells a n).run P w= .ok ys w):
  (loadVar t a).run P w= .ok (.agg ys) w:=by
 simp[loadVar,kE h1,JQ h2,h]
theorem qy {t:TypeId}(h1:J9 P t=some false){a:Addr}{y:Value}(h:(load a).run P w= .ok y w):
  (loadVar t a).run P w= .ok y w:=by
 simp only[loadVar,Sem.run_bind,kE h1,Result.andThen_ok,Bool.false_eq_true,if_false,h]
theorem Je1 {v:V}{x:Value}(hρ:∀i,(ρ i).oneCell'=true)(hs:v.sc=true)(h:R γ ρ v x):x.oneCell'=true:=by
 cases v<;>simp only[V.sc,Bool.false_eq_true]at hs<;>simp only[R]at h
 ·subst h;rfl
 ·subst h;rfl
 ·obtain⟨n,h,_⟩:=h;subst h;rfl
 ·obtain⟨x,h,_⟩:=h;subst h;rfl
 ·subst h;rfl
 ·obtain⟨l,_,h⟩:=h;subst h;rfl
 ·subst h;rfl
 ·obtain⟨l,a,c,_,h,_⟩:=h;subst h;rfl
 ·obtain⟨l,a,_,h,_⟩:=h;subst h;rfl
 ·subst h;rfl
 ·obtain⟨l,_,h⟩:=h;subst h;rfl
 ·obtain⟨xs,ys,h,_⟩:=h;subst h;rfl
 ·subst h;rfl
 ·subst h;exact hρ _
theorem Jbn {b o:Nat}{v:Value}{arr:Array Value}{elem:TypeId}{fz:Nat×Nat}(h:w.heap[b]? =some (.cells arr elem fz)):
  w.setCell ⟨b,o,none⟩ v=setB w b (.cells (arr.setIfInBounds o v) elem fz):=by
 have hb:b<w.heap.size:=(Array.getElem?_eq_some_iff.1 h).1;have he:w.heap[b]= .cells arr elem fz:=(Array.getElem?_eq_some_iff.1 h).2;unfold World.setCell Eva.setB;congr 1;apply Array.ext_getElem?;intro i;rw[Array.getElem?_modify,Array.getElem?_setIfInBounds];by_cases e:b=i
 ·subst e;simp[hb,he]
 ·simp[e]
theorem JlC {b:Nat}{o o':Obj}:setB (setB w b o) b o'=setB w b o':=by
 unfold Eva.setB;congr 1;apply Array.ext_getElem?;intro i;simp only[Array.getElem?_setIfInBounds,Array.size_setIfInBounds];by_cases e:b=i
 ·subst e;simp
 ·simp[e]
theorem JlD {b:Nat}{o:Obj}(h:w.heap[b]? =some o):setB w b o=w:=by
 unfold Eva.setB;have hb:b<w.heap.size:=(Array.getElem?_eq_some_iff.1 h).1;have he:w.heap[b]=o:=(Array.getElem?_eq_some_iff.1 h).2;have:w.heap.setIfInBounds b o=w.heap:=by
  apply Array.ext_getElem?;intro i;rw[Array.getElem?_setIfInBounds];by_cases e:b=i
  ·subst e;simp[hb,he]
  ·simp[e]
 rw[this]
theorem Yi {b o:Nat}{elem:TypeId}{fz:Nat×Nat}:∀(vs:List Value) (i:Nat) (w:World) (arr:Array Value),
  w.heap[b]? =some (.cells arr elem fz)->o+i+vs.length<=arr.size->(∀j,j<vs.length->¬(fz.1<=o+i+j/\o+i+j<fz.2))->(∀v∈vs,v.oneCell'=true)->
  ∃arr':Array Value,arr'.size=arr.size/\(∀j,j<o+i\/o+i+vs.length<=j->arr'[j]? =arr[j]?)/\(∀(j:Nat) (v:Value),vs[j]? =some v->arr'[o+i+j]? =some v)/\
   (storeCells ⟨b,o,none⟩ vs i).run P w= .ok () (setB w b (.cells arr' elem fz))
 |[],i,w,arr,h,_,_,_=>⟨arr,rfl,fun _ _=>rfl,fun j v hv=>by simp at hv,by rw[JlD h];rfl⟩
 | v::vs,i,w,arr,h,hs,hf,h1=>by
   have hlt:o+i<arr.size:=by simp at hs;omega
   have hb:b<w.heap.size:=(Array.getElem?_eq_some_iff.1 h).1;have hw1:(w.setCell ⟨b,o+i,none⟩ v).heap[b]? =some (.cells (arr.setIfInBounds (o+i) v) elem fz):=by rw[Jbn h];exact QF hb
   obtain⟨arr',e1,e2,e3,e4⟩:=Yi (b:=b) (o:=o) (elem:=elem) (fz:=fz) vs (i+1) (w.setCell ⟨b,o+i,none⟩ v) (arr.setIfInBounds (o+i) v) hw1 (by simp at hs⊢;omega)
    (fun j hj=>by have:=hf (j+1) (by simp;omega);rwa [show o+i+(j+1)=o+(i+1)+j by omega]at this) (fun x hx=>h1 x (by simp[hx]))
   refine⟨arr',by simpa using e1,fun j hj=> ?_,fun j x hx=> ?_, ?_⟩
   ·rw[e2 j (by simp at hj;omega),Array.getElem?_setIfInBounds];rw[if_neg (by simp at hj;omega)]
   ·cases j with
    | zero=>
      simp at hx;subst hx;rw[Nat.add_zero,e2 _ (by omega),Array.getElem?_setIfInBounds];simp[hlt]
    | succ j=>
      have:=e3 j x (by simpa using hx)
      rwa [show o+(i+1)+j=o+i+(j+1) by omega]at this
   ·have hfr:w.frozen? ⟨b,o+i,none⟩=false:=by
     rw[JlB h];have:=hf 0 (by simp);simp only[Nat.add_zero]at this;rw[Bool.and_eq_false_iff];simp only[decide_eq_false_iff_not];omega
    have hc:w.cell? ⟨b,o+i,none⟩=some arr[o+i]:=by rw[Jgd h];exact Array.getElem?_eq_getElem hlt
    simp only[storeCells,Sem.run_bind,Yh,run_store P w _ v _ (h1 v (by simp)),hc,hfr,Bool.false_eq_true,if_false,Result.andThen_ok,e4];rw[Jbn h,JlC]
theorem JaF {l vs:List V}{o:Nat}(h:o+vs.length<=l.length):(JI l o vs).length=l.length:=by
 simp[JI];omega
theorem Ji9 {l vs:List V}{o:Nat}(h:o+vs.length<=l.length){i:Nat}{v:V}(hv:(JI l o vs)[i]? =some v):
  (o<=i/\vs[i-o]? =some v)\/((i<o\/o+vs.length<=i)/\l[i]? =some v):=by
 unfold JI at hv;by_cases h1:i<o
 ·right;rw[List.append_assoc,List.getElem?_append_left (by simp;omega),List.getElem?_take_of_lt h1]at hv;exact⟨.inl h1,hv⟩
 ·by_cases h2:i<o+vs.length
  ·left;rw[List.append_assoc,List.getElem?_append_right (by simp;omega),List.getElem?_append_left (by simp;omega)]at hv;simp only[List.length_take]at hv;rw[show min o l.length=o by omega]at hv;exact⟨by omega,hv⟩
  ·right;rw[List.getElem?_append_right (by simp;omega),List.getElem?_drop]at hv;simp only[List.length_append,List.length_take]at hv;rw[show o+vs.length+(i-(min o l.length+vs.length))=i by omega]at hv;exact⟨.inr (by omega),hv⟩
theorem jn (hρ:∀i,(ρ i).oneCell'=true)(h:Rel γ ρ base c w){p:Pt}{l:Loc}(hp:γ p=some l){t u:Nat}{xs vs:List V}(hc:c p= .cells t xs){o:Nat}
  (ho:o+vs.length<=xs.length) (hsc:Km vs=true) {ys:List Value} (hy:RL γ ρ vs ys):
  ∃w',(storeCells ⟨l.b,l.o+o,none⟩ ys).run P w= .ok () w'/\Rel γ ρ base (upd c p (.cells u (JI xs o vs))) w'/\Below base.n w w':=by
 obtain⟨l',k1,k2⟩:=h.row p (by rw[hc];intro e;cases e);rw[hp]at k1;injection k1 with k1;subst k1;rw[hc]at k2;obtain⟨arr,elem,fz,h1,h2,h3,h4,h5⟩:=k2;have hlen:=hy.length;have hb:l.b<w.heap.size:=(h.loc p l hp).2;obtain⟨arr',e1,e2,e3,e4⟩:=Yi (P:=P) (b:=l.b) (o:=l.o+o) (elem:=elem) (fz:=fz) ys 0 w arr h1 (by omega)
  (fun j hj=>by have:=h5 (o+j) (by omega);rwa [show l.o+o+0+j=l.o+(o+j) by omega])
  (fun v hv=>by
   obtain⟨i,hi⟩:=List.mem_iff_getElem?.1 hv;have hi':i<vs.length:=by have:=(List.getElem?_eq_some_iff.1 hi).1;omega
   have hvs:vs[i]? =some vs[i]:=List.getElem?_eq_getElem hi';obtain⟨x,hx,hr⟩:=hy.get hvs;rw[hi]at hx;injection hx with hx;subst hx;exact Je1 hρ (List.all_eq_true.1 hsc _ (List.getElem_mem hi')) hr)
 simp only[Nat.add_zero]at e2 e3;refine⟨_,e4,h.cells hp h1 e1 ⟨_,_,hc⟩ (fun i hi=>e2 i (by omega)) ⟨arr',elem,fz,QF hb,by omega,by rw[JaF ho];exact h3,fun i v hv=> ?_,h5⟩ (by intro e;exact e),
  Below.setB ((h.loc p l hp).1 (by rw[hc];rfl))⟩
 rcases Ji9 ho hv with⟨h6,h7⟩|⟨h6,h7⟩
 ·obtain⟨x,hx,hr⟩:=hy.get h7;refine⟨x, ?_,hr⟩;have:=e3 _ _ hx
  rwa [show l.o+o+(i-o)=l.o+i by omega]at this
 ·obtain⟨x,hx,hr⟩:=h4 i v h7;refine⟨x, ?_,hr⟩;rw[e2 (l.o+i) (by omega)];exact hx
end
def FR (γ:Locs)(ρ:Nat->Value)(fr:Fr)(a:Act):Prop:=∀i,R γ ρ (fr i) (a.tmps.getD i undef)
def Eff.makes :Eff->Bool
 | .new _=>true
 | .dn _ _ _=>true
 |_=>false
def Full (γ:Locs)(c:Pt->Row)(st:St):Prop:=∀r,γ r≠none->st.row r≠ .none->c r=st.row r
def qz (γ:Locs)(c:Pt->Row)(st:St)(fr:Fr)(i:Iop):Prop:=
 match i.aslots with
 |none=>Full γ c st
 |some l=>∀s∈l,∀r,rowOf (fr s)=some r->γ r≠none->st.row r≠ .none->c r=st.row r
def Jmc (γ:Locs)(ρ:Nat->Value)(v:V)(x:Next):Prop:=(∃y,x= .value y/\R γ ρ v y)\/(x= .skip/\v=JR)
def OpOK (P:Program)(γ:Locs)(ρ:Nat->Value)(base:Bs)(st:St)(c:Pt->Row)(w:World)(v:V)(e:Eff)(s:Sem Next):Prop:=
 ∃x w' γ',s.run P w= .ok x w'/\Jmc γ' ρ v x/\Rel γ' ρ base (e.on st c) w'/\Ext γ γ'/\(∀r,γ' r≠none->γ r≠none\/(r=st.nx/\e.makes=true))/\Below base.n w w'
section
variable {P : Program} {γ : Locs} {ρ : Nat -> Value} {base : Bs} {st : St} {c : Pt -> Row} {w : World} {fr : Fr} {a : Act}
theorem OpOK.pure {v:V}{y:Value}{s:Sem Next}(h:Rel γ ρ base c w)(hs:s.run P w= .ok (.value y) w)(hy:R γ ρ v y):OpOK P γ ρ base st c w v .no s:=
 ⟨_,w,γ,hs, .inl ⟨y,rfl,hy⟩,h,Ext.refl _,fun _ k=> .inl k,Below.refl _ _⟩
theorem OpOK.made {v:V}{y:Value}{s:Sem Next}{f:Nat->Row}{o:Obj}{e:Nat}{w':World}(h:Rel γ ρ base c w)(hnx:γ st.nx=none)(hw:∃n,w'={w.alloc o with drawn:=n})(hs:s.run P w= .ok (.value y) w')
  (hy:R (upd γ st.nx (some ⟨w.heap.size,0,e⟩)) ρ v y) (hr:Ql (upd γ st.nx (some ⟨w.heap.size,0,e⟩)) ρ ⟨w.heap.size,0,e⟩ (f st.t) (w.alloc o)) (ho:(f st.t).isObj->0<e) (hro:(f st.t).isRo=false:=by rfl):
  OpOK P γ ρ base st c w v (.new f) s:=by
 obtain⟨n,rfl⟩:=hw;refine⟨_,_,_,hs, .inl ⟨y,rfl,hy⟩,(h.alloc hnx hr ho hro).heap rfl,Ext.upd hnx,fun r k=> ?_, ?_⟩
 ·by_cases er:r=st.nx
  ·exact .inr ⟨er,rfl⟩
  ·rw[Jt _ _ er]at k;exact .inl k
 ·have:=(Below.refl base.n w).alloc h.low o;exact⟨this.os,this.tape,this.output,this.size,this.block⟩
theorem Jh {x:Operand}{y:Opd}(h:opd x=some y)(hfr:FR γ ρ fr a):R γ ρ (y.ev fr) (a.eval x):=by
 cases x with
 |tmp t=>simp[opd]at h;subst h;exact hfr t
 | const v=>
   simp only[opd]at h
   cases hv:ofVal v with
   |none=>simp[hv]at h
   |some z=>simp[hv]at h;subst h;exact R.ofVal hv
 |global g=>simp[opd]at h
 |func f=>simp[opd]at h;subst h;exact⟨[],[],rfl,by simp[RL],by simp[RL]⟩
theorem JgX {x:Value}{v:V}(h:ofVal x=some v):rowOf v=none:=by
 unfold ofVal at h
 split at h
 ·rename_i cs;cases h2:cs.toList.mapM ofVal1 with
  |none=>simp[h2]at h
  |some vs=>simp[h2]at h;subst h;rfl
 ·rename_i cs;cases h2:cs.toList.mapM ofVal1 with
  |none=>simp[h2]at h
  |some vs=>simp[h2]at h;subst h;rfl
 ·unfold ofVal1 at h
  split at h<;>first|(injection h with h;subst h;rfl)|cases h
theorem JoS {x:Operand}{y:Opd}(h:opd x=some y){r:Pt}(hr:rowOf (y.ev fr)=some r):∃s,y.slot=[s]/\y.ev fr=fr s:=by
 cases x with
 |tmp t=>simp[opd]at h;subst h;exact⟨t,rfl,rfl⟩
 | const v=>
   simp only[opd]at h
   cases hv:ofVal v with
   |none=>simp[hv]at h
   |some z=>simp[hv]at h;subst h;rw[show(Opd.c z).ev fr=z from rfl,JgX hv]at hr;cases hr
 |global g=>simp[opd]at h
 |func f=>simp[opd]at h;subst h;simp[Opd.ev,rowOf]at hr
theorem JlE {l:List Operand}:∀{ys:List Opd},l.mapM opd=some ys->FR γ ρ fr a->RL γ ρ (evs fr ys) (l.map a.eval):=by
 induction l with
 |nil=>intro ys h _;simp at h;subst h;simp[evs,RL]
 | cons x l ih=>
   intro ys h hfr;rw[List.mapM_cons]at h
   cases h1:opd x with
   |none=>simp[h1]at h
   | some v=>
     cases h2:l.mapM opd with
     |none=>simp[h1,h2]at h
     |some vs=>simp[h1,h2]at h;subst h;exact⟨a.eval x,_,rfl,Jh h1 hfr,ih h2 hfr⟩
theorem Jdr {l:Array Operand}{ys:List Opd}(h:opds l=some ys)(hfr:FR γ ρ fr a):RL γ ρ (evs fr ys) (l.map a.eval).toList:=by
 rw[Array.toList_map];exact JlE h hfr
theorem qD (hρ:∀i,(ρ i).oneCell'=true){v:V}{vs:List V}{x:Value}(h:v.cells=some vs)(hx:R γ ρ v x):RL γ ρ vs x.cells.toList:=by
 have one:∀{u:V} {y:Value},R γ ρ u y->(∀z,y≠ .agg z)->RL γ ρ [u] y.cells.toList:=by
  intro u y hu hn
  cases y<;>first|exact⟨_,[],rfl,hu,by simp[RL]⟩|exact absurd rfl (hn _)
 cases v with
 |agg l=>simp[V.cells]at h;subst h;obtain⟨xs,e,k⟩:=hx;subst e;simpa[Value.cells]using k
 |any=>simp[V.cells]at h
 | opq i=>
   simp only[V.cells,Option.some.injEq]at h;subst h;refine one hx fun z e=> ?_;have h1:x=ρ i:=hx;have h2:=hρ i;rw[<-h1,e]at h2;simp[Value.oneCell']at h2
 |tup l=>simp only[V.cells,Option.some.injEq]at h;subst h;refine one hx fun z e=> ?_;subst e;obtain⟨xs,e,_⟩:=hx;cases e
 |bool b=>simp only[V.cells,Option.some.injEq]at h;subst h;refine one hx fun z e=> ?_;subst e;simp[R]at hx
 |int k n=>simp only[V.cells,Option.some.injEq]at h;subst h;refine one hx fun z e=> ?_;subst e;simp[R]at hx
 |im m n=>simp only[V.cells,Option.some.injEq]at h;subst h;refine one hx fun z e=> ?_;subst e;simp[R]at hx
 |str m n=>simp only[V.cells,Option.some.injEq]at h;subst h;refine one hx fun z e=> ?_;subst e;simp[R]at hx
 |pnil=>simp only[V.cells,Option.some.injEq]at h;subst h;refine one hx fun z e=> ?_;subst e;simp[R]at hx
 |ptr r o=>simp only[V.cells,Option.some.injEq]at h;subst h;refine one hx fun z e=> ?_;subst e;simp[R]at hx
 |snil=>simp only[V.cells,Option.some.injEq]at h;subst h;refine one hx fun z e=> ?_;subst e;simp[R]at hx
 |sl r o n z=>simp only[V.cells,Option.some.injEq]at h;subst h;refine one hx fun z e=> ?_;subst e;simp[R]at hx
 |slx r o n z c=>simp only[V.cells,Option.some.injEq]at h;subst h;refine one hx fun z e=> ?_;subst e;simp[R]at hx
 |mnil=>simp only[V.cells,Option.some.injEq]at h;subst h;refine one hx fun z e=> ?_;subst e;simp[R]at hx
 |map r=>simp only[V.cells,Option.some.injEq]at h;subst h;refine one hx fun z e=> ?_;subst e;simp[R]at hx
 |fn f a b=>simp only[V.cells,Option.some.injEq]at h;subst h;refine one hx fun z e=> ?_;subst e;simp[R]at hx
 |fnil=>simp only[V.cells,Option.some.injEq]at h;subst h;refine one hx fun z e=> ?_;subst e;simp[R]at hx
theorem Jah {elem:TypeId}{arr:Array Value}{t:Nat}{vs:List V}{γ':Locs}(hy:RL γ' ρ vs arr.toList){e:Nat}(he:e=arr.size):
  Ql γ' ρ ⟨w.heap.size,0,e⟩ (.cells t vs) (w.alloc (.cells arr elem)):=by
 subst he;have hl:=hy.length;simp only[Array.length_toList]at hl;refine⟨arr,elem,(0,0), ?_,by simp,by show vs.length<=arr.size;omega,fun i v hv=> ?_,fun i _=>by simp⟩
 ·show(w.heap.push _)[w.heap.size]? =_;simp
 ·obtain⟨x,hx,hr⟩:=hy.get hv;exact⟨x,by simpa using hx,hr⟩
theorem KY {t:TypeId}{zs:List V}(h:KI P t=some zs):∃z,(∀w,(zeroValue t).run P w= .ok z w)/\∀γ,RL γ ρ zs z.cells.toList:=by
 unfold KI at h
 cases hi:P.info? t with
 |none=>simp[hi]at h
 | some i=>
   cases hz:i.zero with
   |none=>simp[hi,hz]at h
   | some z=>
     simp only[hi,hz]at h;exact⟨z,fun w=>by simp[zeroValue,QO hi,hz],fun γ=>RL.ofVals h⟩
theorem Jds {t:TypeId}{z:V}(h:JeZ P t=some z):∃x,(∀w,(zeroValue t).run P w= .ok x w)/\∀γ,R γ ρ z x:=by
 unfold JeZ at h
 cases hi:P.info? t with
 |none=>simp[hi]at h
 | some i=>
   cases hz:i.zero with
   |none=>simp[hi,hz]at h
   | some x=>
     simp only[hi,hz]at h;exact⟨x,fun w=>by simp[zeroValue,QO hi,hz],fun γ=>R.ofVal h⟩
theorem YC (t:TypeId)(arr:Array Value):(newRow t arr).run P w= .ok ⟨w.heap.size,0,none⟩ (w.alloc (.cells arr t)):=by
 simp[newRow]
theorem Jmd {t:TypeId}{zs:List V}(h:KI P t=some zs)(hrel:Rel γ ρ base c w)(hnx:γ st.nx=none):
  OpOK P γ ρ base st c w (.ptr st.nx 0) (.new fun t=> .cells t zs) (do pure (.value (<-Instr.alloc t true (.tuple #[])))):=by
 obtain⟨z,hz,hr⟩:=KY (ρ:=ρ) h;refine OpOK.made (o:= .cells z.cells t) (e:=z.cells.size) (w':=w.alloc (.cells z.cells t)) hrel hnx ⟨w.drawn,rfl⟩ (y:= .pointer (some ⟨w.heap.size,0,none⟩)) ?_ ⟨_,Jp _ _ _,rfl⟩ (Jah (hr _) rfl) (fun h=>h.elim);simp[Instr.alloc,hz,newVar,YC]
theorem JqR (hρ:∀i,(ρ i).oneCell'=true){t:TypeId}{v:V}{x:Value}{vs:List V}(hv:v.cells=some vs)(hx:R γ ρ v x)(hrel:Rel γ ρ base c w)(hnx:γ st.nx=none):
  OpOK P γ ρ base st c w (.ptr st.nx 0) (.new fun t=> .cells t vs) (do pure (.value (<-Instr.box t x))):=by
 refine OpOK.made (o:= .cells x.cells t) (e:=x.cells.size) (w':=w.alloc (.cells x.cells t)) hrel hnx ⟨w.drawn,rfl⟩ (y:= .pointer (some ⟨w.heap.size,0,none⟩)) ?_ ⟨_,Jp _ _ _,rfl⟩ (Jah ((qD hρ hv hx).ext (Ext.upd hnx)) rfl) (fun h=>h.elim);simp[Instr.box,newVar,YC]
theorem JlF (cs:Array Value)(ys:List Value)(o:Nat):∀(k:Nat),(h:o+k+ys.length<=cs.size)->
  ((ys.zipIdx k).foldl (fun cs (p:Value×Nat)=>cs.setIfInBounds (o+p.2) p.1) cs).toList=cs.toList.take (o+k)++ys++cs.toList.drop (o+k+ys.length):=by
 induction ys generalizing cs with
 |nil=>intro k h;simp
 | cons y ys ih=>
   intro k h;simp only[List.zipIdx_cons,List.foldl_cons];rw[ih (cs.setIfInBounds (o+k) y) (k+1) (by simp at h⊢;omega)];simp only[Array.toList_setIfInBounds];apply List.ext_getElem?;intro i;simp only[List.length_cons]at h;have hl:cs.toList.length=cs.size:=Array.length_toList;by_cases h1:i<o+k
   ·rw[List.append_assoc,List.getElem?_append_left (by simp;omega),List.append_assoc,List.getElem?_append_left (by simp;omega)];rw[List.getElem?_take_of_lt (by omega),List.getElem?_take_of_lt h1,List.getElem?_set_ne (by omega)]
   ·by_cases h2:i=o+k
    ·subst h2;rw[List.append_assoc,List.getElem?_append_left (by simp;omega),List.append_assoc,List.getElem?_append_right (by simp;omega)];rw[List.getElem?_take_of_lt (by omega)];simp only[List.length_take,hl,List.cons_append];rw[show o+k-min (o+k) cs.size=0 by omega,List.getElem?_set_self (by omega)];rfl
    ·by_cases h3:i<o+k+1+ys.length
     ·rw[List.append_assoc,List.getElem?_append_right (by simp;omega),List.getElem?_append_left (by simp;omega)];rw[List.append_assoc,List.getElem?_append_right (by simp;omega),List.getElem?_append_left (by simp;omega)];simp only[List.length_take,List.length_set,hl];rw[show i-min (o+k) cs.size=(i-min (o+(k+1)) cs.size)+1 by omega,List.getElem?_cons_succ]
     ·rw[List.getElem?_append_right (by simp;omega),List.getElem?_append_right (by simp;omega),List.getElem?_drop,List.getElem?_drop];simp only[List.length_append,List.length_take,List.length_set,List.length_cons,hl];rw[List.getElem?_set_ne (by omega)];congr 1;omega
theorem jQ (hρ:∀i,(ρ i).oneCell'=true)(place:Nat->Option (Nat×Nat)):∀(l:List (Nat×Operand)) (ps:List (Nat×Nat×Opd)) (zs zs':List V) (cs:Array Value),
  parts place l=some ps->FR γ ρ fr a->RL γ ρ zs cs.toList->QM zs (evps fr ps)=some zs'->
  ∃cs',Instr.fill place cs (l.map fun(i,x)=>(i,a.eval x))=some cs'/\RL γ ρ zs' cs'.toList/\zs'.length=zs.length
 | [],ps,zs,zs',cs,hp,_,hz,hf=>by
   simp[parts]at hp;subst hp;simp[evps,QM]at hf;subst hf;exact⟨cs,rfl,hz,rfl⟩
 | (i,x)::l,ps,zs,zs',cs,hp,hfr,hz,hf=>by
   simp only[parts]at hp
   cases h1:place i with
   |none=>simp[h1]at hp
   | some on=>
     obtain⟨o,n⟩:=on
     cases h2:opd x with
     |none=>simp[h1,h2]at hp
     | some y=>
       cases h3:parts place l with
       |none=>simp[h1,h2,h3]at hp
       | some ps'=>
         simp[h1,h2,h3]at hp;subst hp;simp only[evps,List.map_cons,QM]at hf
         cases h4:(y.ev fr).cells with
         |none=>simp[h4]at hf
         | some vs=>
           simp only[h4]at hf
           split at hf
           ·rename_i hcond
            have hx:=qD hρ h4 (Jh h2 hfr);have hl1:=hx.length;have hl2:=hz.length;simp only[Array.length_toList]at hl1 hl2;have hle:o+0+(a.eval x).cells.toList.length<=cs.size:=by simp;omega
            have hfs:=JlF cs (a.eval x).cells.toList o 0 hle;have hspl:RL γ ρ (JI zs o vs) (((a.eval x).cells.zipIdx.foldl (fun cs (p:Value×Nat)=>cs.setIfInBounds (o+p.2) p.1) cs).toList):=by
             rw[<-Array.foldl_toList,Array.toList_zipIdx,hfs];simp only[Nat.add_zero,JI];have hll:o+(a.eval x).cells.toList.length=o+vs.length:=by simp;omega
             rw[hll];exact RL.append (RL.append (hz.take _) hx) (hz.drop _)
            obtain⟨cs',k1,k2,k3⟩:=jQ hρ place l ps' _ zs' _ h3 hfr hspl hf;refine⟨cs', ?_,k2,k3.trans (JaF (by omega))⟩;simp only[List.map_cons,Instr.fill,h1];rw[if_neg]
            ·exact k1
            ·simp only[Bool.or_eq_true,decide_eq_true_eq,not_or,ne_eq,Decidable.not_not];constructor<;>omega
           ·cases hf
end
end Eva
