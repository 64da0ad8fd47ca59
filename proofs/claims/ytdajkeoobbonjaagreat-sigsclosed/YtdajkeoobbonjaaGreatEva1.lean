/- An evaluator of the model's code, proved to tell what the model does. The abstract valu -/
import Derived.Orders
import GoSem.Dispatch
import Derived.Laws.World
import Derived.Below
import Derived.Laws.Cells
import Derived.Laws.Append
set_option linter.constructorNameAsVariable false
set_option linter.unusedVariables false
set_option linter.unusedSimpArgs false
set_option linter.unusedSectionVars false
set_option linter.defProp false
def Xa:=@if_neg
def Xb:=@Nat.le_refl
def Xc:=@List.drop_eq_getElem_cons
def Xd:=@Classical.byContradiction
def Xe:=@if_pos
def Xf:=@of_eq_true
def Xg:=@List.getElem?_eq_getElem
def Xh:=@List.getElem_mem
def Xi:=@List.mem_cons_of_mem
def Xj:=@List.mem_singleton
def Xk:=@Bool.and_eq_true
def Xl:=@eq_self
def Xm:=@List.drop_eq_nil_of_le
def Xn:=@List.take_succ_eq_append_getElem
def Xo:=@List.eq_nil_of_length_eq_zero
def Xp:=@decide_eq_true
def Xq:=@List.mem_cons
def Xr:=@List.length_map
def Xs:=@List.mem_append
def Xt:=@List.take_of_length_le
def Xu:=@List.mem_cons_self
def Xv:=@decide_eq_false
def Xw:=@List.getElem_append_left
def Xx:=@List.getElem?_eq_some_iff
def Xy:=@Array.getElem?_eq_some_iff
def Xz:=@List.mem_map
def XA:=@List.getD_eq_getElem?_getD
def XB:=@List.drop_of_length_le
def XC:=@Nat.zero_le
def XD:=@List.length_eq_zero_iff
def XE:=@List.take_length
def XF:=@List.length_cons
def XG:=@List.getElem?_append_left
def XH:=@Nat.not_lt_zero
def XJ:=@List.flatten_append
def XK:=@List.map_cons
def XL:=@List.getElem_append_right
def XO:=@Nat.lt_succ_self
def XP:=@List.drop_zero
def XQ:=@not_true_eq_false
def XR:=@Array.getD_eq_getD_getElem?
def XS:=@List.length_take
def XT:=@Nat.mul_le_mul_right
def XU:=@List.mem_iff_getElem
def XV:=@List.cons.injEq
def XW:=@List.length_append
def X0:=@List.nil_append
def X1:=@List.getElem_of_mem
def X2:=@List.cons_append
def X3:=@List.getElem?_append_right
def X4:=@List.take_append_drop
def X5:=@Array.getElem?_eq_getElem
def X6:=@List.getElem_map
def X7:=@of_decide_eq_true
def X8:=@if_false
def X9:=@List.getElem_set_self
def Za:=@List.append_assoc
def Zb:=@Nat.le_trans
def Zc:=@Int.emod_lt_of_pos
def Zd:=@Nat.min_eq_left
def Ze:=@List.all_eq_true
def Zf:=@List.flatten_cons
def Zg:=@decide_eq_true_eq
def Zh:=@List.mem_range
def Zi:=@eq_false
def Zj:=@List.mem_of_mem_take
def Zk:=@Array.replicate_succ
def Zl:=@Array.replicate_zero
def Zm:=@Nat.succ_mul
def Zn:=@eq_true
def Zo:=@List.append_toArray
def Zp:=@List.set_getElem_self
def Zq:=@List.length_nil
def Zr:=@Int.emod_nonneg
def Zs:=@Nat.lt_of_lt_of_le
def Zt:=@List.mapM_cons
def Zu:=@Int.toNat_natCast
def Zv:=@Nat.zero_add
def Zw:=@List.size_toArray
def Zx:=@List.push_toArray
def Zy:=@List.take_add_one
def Zz:=@List.foldl_cons
def ZA:=@List.map_append
def ZB:=@Bool.or_eq_true
def ZC:=@Bool.false_eq_true
def ZD:=@Option.isSome_iff_exists
def ZE:=@Option.bind_eq_some_iff
def ZF:=@beq_iff_eq
def ZG:=@List.all_cons
def ZH:=@List.drop_drop
def ZI:=@UInt8.toNat_lt
def ZJ:=@List.getElem?_eq_none
def ZK:=@List.nodup_cons
def ZL:=@List.append_nil
def ZM:=@Nat.mul_one
def ZN:=@Nat.sub_zero
def ZO:=@List.mem_of_mem_drop
def ZP:=@and_self
def ZQ:=@Bool.false_or
def ZR:=@List.replicate_succ
def ZS:=@if_true
def ZT:=@List.ext_getElem
def ZU:=@List.take_take
def ZV:=@List.cons_ne_nil
def ZW:=@List.drop_append_of_le_length
def ZX:=@List.take_append_of_le_length
def ZY:=@List.getElem?_drop
def ZZ:=@Nat.add_assoc
def Z0:=@List.sum_cons
def Z1:=@Array.getElem?_toList
def Z2:=@List.length_filter_le
def Z3:=@List.ext_getElem?
def Z4:=@Decidable.not_not
def Z5:=@List.mem_append_left
def Z6:=@true_and
def Z7:=@Nat.mul_comm
def Z8:=@Array.toList_map
def Z9:=@List.drop_append
def Ga:=@List.drop_length
def Gd:=@Nat.shiftRight_eq_div_pow
def Ge:=@List.exists_mem_of_ne_nil
def Gf:=@Array.getElem?_push
def Gg:=@Array.length_toList
def Gh:=@UInt8.toNat_ofNat_of_lt'
def Gi:=@Nat.lt_irrefl
def Gj:=@List.any_cons
def Gk:=@List.prefix_append
def Gl:=@and_false
def Gm:=@List.drop_take
def Gn:=@decide_false
def Gp:=@List.nodup_nil
def Gq:=@Array.getElem?_setIfInBounds_ne
def Gs:=@List.mem_iff_getElem?
def Gt:=@List.mem_append_right
def Gu:=@List.contains_iff_mem
def Gv:=@Nat.mod_eq_of_lt
def Gw:=@Nat.zero_lt_succ
def Gz:=@Bool.and_true
def GD:=@and_true
def GE:=@List.mem_of_getElem?
def GH:=@beq_eq_false_iff_ne
def GI:=@Nat.add_zero
def GJ:=@Bool.true_or
def GK:=@Nat.succ.inj
def GL:=@Array.foldl_toList
def GM:=@Int.natCast_nonneg
def GN:=@Bool.false_and
def GO:=@List.take_zero
def GP:=@Array.mapM_eq_mapM_toList
def GQ:=@Decidable.byContradiction
def GR:=@List.pairwise_iff_getElem
def GS:=@ne_eq
def GT:=@Nat.add_mul
def GU:=@Nat.mul_add
def GV:=@List.getElem?_take_of_lt
def GW:=@Array.getElem?_replicate
def GX:=@Option.getD_some
def GY:=@List.range'_succ
def GZ:=@Nat.add_sub_cancel_left
def Ha:=@List.length_drop
def Hb:=@Int.natCast_zero
def Hc:=@not_or
def Hd:=@Nat.min_self
def He:=@Nat.zero_mul
def Hf:=@ByteArray.data_extract
def Hg:=@Nat.mod_lt
def Hh:=@Option.map_eq_some_iff
def Hi:=@List.length_eq_one_iff
def Hj:=@List.getElem_cons_succ
def Hk:=@List.all_nil
def Hl:=@List.getElem_cons_zero
def Hm:=@Bool.eq_iff_iff
def Hn:=@List.length_set
def Hp:=@List.mem_filter
def Hq:=@List.replicate_succ'
def Hr:=@List.mem_erase_of_ne
def Hs:=@List.take_left
def Ht:=@List.drop_left
def Hu:=@Option.map_map
def Hv:=@List.drop_succ_cons
def Hw:=@List.map_congr_left
def Hx:=@List.take_succ_cons
def Hy:=@List.getElem_set_ne
def Hz:=@Bool.or_false
def HA:=@Bool.true_and
def HB:=@Array.forIn_toList
def HC:=@Nat.lt_of_le_of_lt
def HE:=@List.pairwise_cons
def HF:=@of_decide_eq_false
def HG:=@Nat.mul_right_comm
def HI:=@Nat.pow_succ
def HJ:=@Nat.add_comm
def HL:=@List.getElem?_map
def HM:=@not_false_eq_true
def HN:=@List.foldl_append
def HP:=@List.nodup_range
def HQ:=@List.not_mem_nil
def HR:=@Option.bind_some
def HS:=@Nat.max_eq_right
def HU:=@List.prefix_refl
def HW:=@List.append_inj'
def HX:=@Nat.le_add_right
def HY:=@decide_true
namespace Eva
open Go
variable {s:TypeId}{v t:Nat}{e:Value}{n:Array Value}{k:Obj}{z:Nat×Nat}{b:List Value}{d:World}
inductive Pt where
 |h|a (p:Pt)|b (p:Pt)|c (p:Pt)|d (p:Pt)
 deriving DecidableEq,Inhabited
def Pt.F :Pt->Pt
 | .h=> .a .h
 | .a p=> .b p
 | .b p=> .c p
 | .c p=> .d p
 | .d p=> .a p.F
def Pt.A :Pt->Nat
 | .h=>0
 | .a p=>4*p.A+1
 | .b p=>4*p.A+2
 | .c p=>4*p.A+3
 | .d p=>4*p.A+4
inductive V where
 |h (b:Bool)
 |d (k:IntKind) (n:Int)
 |t (n v:Nat)
 |s|g (r:Pt) (o:Nat)
 |e|w (r:Pt) (o n z:Nat)|m (r:Pt) (o n z c:Nat)
 |u|q (r:Pt)
 |D (f:Nat) (a b:List V)
 |x
 |j (l:List V)|p (l:List V)
 |y|F (i:Nat)
 deriving Inhabited
abbrev JY :V:= .p []
inductive Row where
 |none
 |a (t:Nat) (l:List V)
 |c (t:Nat)
 |b (t:Nat) (es:List (V×V))
 |e (t n v pos:Nat)
 |d (t:Nat) (m:Option Pt) (n0 cnt:Nat)
 |f (l:List V)
 deriving Inhabited
inductive Tr where
 |e|n (v:Row) (a b c d:Tr)
 deriving Inhabited
def Tr.A :Pt->Tr->Row
 |_, .e=> .none
 | .h, .n v _ _ _ _=>v
 | .a p, .n _ x _ _ _=>x.A p
 | .b p, .n _ _ x _ _=>x.A p
 | .c p, .n _ _ _ x _=>x.A p
 | .d p, .n _ _ _ _ x=>x.A p
def Tr.B :Pt->Row->Tr->Tr
 | .h,r, .e=> .n r .e .e .e .e
 | .h,r, .n _ a b c d=> .n r a b c d
 | .a p,r, .e=> .n .none (Tr.B p r .e) .e .e .e
 | .a p,r, .n v a b c d=> .n v (Tr.B p r a) b c d
 | .b p,r, .e=> .n .none .e (Tr.B p r .e) .e .e
 | .b p,r, .n v a b c d=> .n v a (Tr.B p r b) c d
 | .c p,r, .e=> .n .none .e .e (Tr.B p r .e) .e
 | .c p,r, .n v a b c d=> .n v a b (Tr.B p r c) d
 | .d p,r, .e=> .n .none .e .e .e (Tr.B p r .e)
 | .d p,r, .n v a b c d=> .n v a b c (Tr.B p r d)
structure St where
 h:Tr
 b:Pt
 t:Nat
 a:Nat
 deriving Inhabited
def St.A (st:St)(p:Pt):Row:=st.h.A p
inductive Eff where
 |a
 |b (f:Nat->Row)
 |d (r:Pt) (t:Nat) (f:Nat->Row)
 |e (r:Pt) (t:Nat) (f:Nat->Row)
def St.B (st:St)(f:Nat->Row):St:={st with h:=st.h.B st.b (f st.t),b:=st.b.F,t:=st.t+1}
def St.D (st:St)(p:Pt)(t:Nat)(f:Nat->Row):St:={st with h:=st.h.B p (f st.t),t:=st.t+1,a:=if t<st.a then t else st.a}
def St.J (st:St):Eff->St
 | .a=>st
 | .b f=>st.B f
 | .d r t f=>st.D r t f
 | .e r t f=>(st.D r t .c).B f
def Row.A :Row->Nat
 | .none=>0
 | .a t _=>t
 | .c t=>t
 | .b t _=>t
 | .e t _ _ _=>t
 | .d t _ _ _=>t
 | .f _=>0
def Yi (v i:Nat):Nat:=(v>>>(8*i))%256
def scut (v lo hi:Nat):Nat:=(v>>>(8*lo))%2^(8*(hi-lo))
def scat (n v v':Nat):Nat:=v+v'<<<(8*n)
def Jeu :Nat->Nat->Nat->Nat->Bool
 |0,_,n',_=>decide (0<n')
 |_+1,_,0,_=>false
 |n+1,v,n'+1,v'=>decide (v%256<v'%256)||(v%256==v'%256&&Jeu n (v/256) n' (v'/256))
def jN (n v:Nat):ByteArray:=⟨((List.range n).map fun i=>UInt8.ofNat (Yi v i)).toArray⟩
def snum :List UInt8->Nat
 |[]=>0
 |b::r=>b.toNat+256*snum r
def V.B :V->Bool
 | .j _| .p _| .y=>false
 |_=>true
def V.A :V->Option (List V)
 | .j l=>some l
 | .y=>none
 |v=>some [v]
inductive KD where
 |b|i|s|p|l|m|f
 deriving DecidableEq
def keq :KD->V->V->Option Bool
 | .b, .h x, .h y=>some (x==y)
 | .i, .d k x, .d k' y=>if k=k' then some (x==y)else none
 | .s, .t n v, .t n' v'=>some (n==n'&&v==v')
 | .p, .s, .s=>some true
 | .p, .s, .g _ _=>some false
 | .p, .g _ _, .s=>some false
 | .l, .e, .e=>some true
 | .l, .e, .w _ _ _ _=>some false
 | .l, .w _ _ _ _, .e=>some false
 | .l, .e, .m _ _ _ _ _=>some false
 | .l, .m _ _ _ _ _, .e=>some false
 | .m, .u, .u=>some true
 | .m, .u, .q _=>some false
 | .m, .q _, .u=>some false
 | .f, .x, .x=>some true
 | .f, .x, .D _ _ _=>some false
 | .f, .D _ _ _, .x=>some false
 |_,_,_=>none
def keqs :List KD->List V->List V->Option Bool
 |[],[],[]=>some true
 | k::ks,x::xs,y::ys=>
   match keq k x y with
   |some true=>keqs ks xs ys
   |some false=>some false
   |none=>none
 |_,_,_=>none
inductive EK where
 |a (k:KD)|b (ks:List KD)
 deriving DecidableEq
def EK.B :EK->V->V->Option Bool
 | .a k,x,y=>keq k x y
 | .b ks, .j xs, .j ys=>if xs.length=ks.length/\ys.length=ks.length then keqs ks xs ys else none
 |_,_,_=>none
def EK.A :EK->V->Bool
 | .a _,_=>true
 | .b ks, .j xs=>xs.length==ks.length
 |_,_=>false
def EK.D (e:EK)(k:V):Bool:=match e.B k k with
 |some true=>true
 |_=>false
def JhK :V->V->Bool
 | .h a, .h b=>a==b
 | .d k a, .d k' b=>decide (k=k')&&a==b
 | .t n v, .t n' v'=>n==n'&&v==v'
 | .s, .s=>true
 | .e, .e=>true
 | .u, .u=>true
 | .x, .x=>true
 |_,_=>false
def Jc3 :List V->List V->Bool
 |[],[]=>true
 |a::r,b::s=>JhK a b&&Jc3 r s
 |_,_=>false
def JnW :V->V->Bool
 | .j l, .j l'=>Jc3 l l'
 |a,b=>JhK a b
def KJ (e:EK)(k:V):List (V×V)->Nat->Option (Option (Nat×V))
 |[],_=>some none
 | (x,v)::r,i=>
   match e.B k x with
   |some true=>some (some (i,v))
   |some false=>KJ e k r (i+1)
   |none=>none
def arith (op:BinOp)(x y:V):Option V:=
 match x,y with
 | .d k a, .d k' b=>
   if k≠k' then none else
   match op with
   | .add=>some (.d k (k.wrap (a+b)))
   | .sub=>some (.d k (k.wrap (a-b)))
   | .mul=>some (.d k (k.wrap (a*b)))
   | .quo=>if b=0 then none else some (.d k (k.wrap (a.tdiv b)))
   | .rem=>if b=0 then none else some (.d k (a.tmod b))
   | .lss=>some (.h (decide (a<b)))
   | .leq=>some (.h (decide (a<=b)))
   | .gtr=>some (.h (decide (b<a)))
   | .geq=>some (.h (decide (b<=a)))
   | .or=>if 0<=a/\a<=k.max/\0<=b/\b<=k.max then some (.d k (a.toNat|||b.toNat:Nat))else none
   |_=>none
 | .t n v, .t n' v'=>
   match op with
   | .add=>if n+n'<2^62 then some (.t (n+n') (scat n v v'))else none
   | .lss=>some (.h (Jeu n v n' v'))
   | .leq=>some (.h (Jeu n v n' v'||(n==n'&&v==v')))
   | .geq=>some (.h !(Jeu n v n' v'))
   |_=>none
 |_,_=>none
inductive Opd where
 |s (i:Nat)|c (v:V)
 deriving Inhabited
abbrev Fr :=Nat->V
def Opd.A (fr:Fr):Opd->V
 | .s i=>fr i
 | .c v=>v
inductive Iop where
 |Q (x:Opd)
 |pick (c a b:Opd)
 |alloc (zs:List V)
 |box (x:Opd)
 |build (zs:List V) (ps:List (Nat×Nat×Opd))
 |bsl (z n:Nat) (zs:List V) (ps:List (Nat×Nat×Opd))
 |l (x:Opd)
 |p (n:Nat) (x:Opd)
 |store (n:Nat) (x v:Opd)
 |q (x:Opd)
 |S (e:EK) (neg:Bool) (x y:Opd)
 |N (op:BinOp) (x y:Opd)
 |not (x:Opd)
 |r (k:IntKind) (x:Opd)
 |P (x:Opd)
 |mkfn (f:Nat) (a b:List Opd)
 |g
 |t (z:Nat) (zs:List V) (n c:Opd)
 |cutS (x:Opd) (lo hi:Option Opd)
 |cutL (z:Nat) (x:Opd) (lo hi mx:Option Opd)
 |cutA (n z:Nat) (x:Opd) (lo hi mx:Option Opd)
 |j (o:Nat) (x:Opd)
 |O (o:Nat) (n:Option Nat) (x:Opd)
 |h (z:Nat) (x i:Opd)
 |u (x i:Opd)
 |lookup (e:EK) (z:V) (ok:Bool) (m k:Opd)
 |mupd (e:EK) (m k v:Opd)
 |ment (e:EK) (z:V) (m k:Opd)
 |ests (m s v:Opd)
 |L (x:Opd)
 |K (x:Opd)
 |nextS (x:Opd)
 |nextM (x:Opd)
 |M (n:Nat) (x:Opd)
 |call (f:Nat) (as:List Opd)
 |callv (x:Opd) (as:List Opd)
 |J (x:Opd)
 |w (x:Opd)
 |app (z:Nat) (s x:Opd)
 |copy (z:Nat) (d x:Opd)
 |clear (z:Nat) (zs:List V) (x:Opd)
 deriving Inhabited
structure Ins where
 b:Option Nat
 d:Iop
 a:Option (Nat×Bool)
 c:Option (List Nat)
 deriving Inhabited
inductive C where
 |d
 |k (l:List Ins)
 |n (l:List Ins) (chk:List (List Nat×List Nat))
 |j (a b:C)
 |h (live:List Nat) (a b:C)
 |f (c:Opd) (a b:C)
 |e (id:Nat) (b:C)
 |g (live:List Nat) (b:C)
 |i (id:Nat)
 |m
 deriving Inhabited
inductive RS where
 |s (i:Nat)|b (i:Nat)|a (i n:Nat)
structure Fn where
 b:Nat
 a:List RS
 body:C
def Jw (l:List V)(o:Nat)(vs:List V):List V:=l.take o++vs++l.drop (o+vs.length)
def YZ (z:List V):List (Nat×Nat×V)->Option (List V)
 |[]=>some z
 | (o,n,v)::r=>
   match v.A with
   |some vs=>if vs.length=n/\o+n<=z.length then YZ (Jw z o vs) r else none
   |none=>none
def Kn (st:St)(n:Nat):V->Option (List V)
 | .g r o=>match st.A r with
   | .a _ l=>if o+n<=l.length then some ((l.drop o).take n)else none
   | .f l=>if o+n<=l.length then some ((l.drop o).take n)else none
   |_=>none
 |_=>none
def Jz (st:St)(z n:Nat):V->Option (List V)
 | .e=>if n=0 then some []else none
 | .w r o m z'=>if n<=m/\z=z' then Kn st (n*z) (.g r o)else none
 | .m r o m z' _=>if n<=m/\z=z' then Kn st (n*z) (.g r o)else none
 |_=>none
def jX :Nat->Nat->List V
 |0,_=>[]
 |k+1,v=> .d .u8 ((v%256:Nat):Int)::jX k (v/256)
def cellsX (st:St)(z k:Nat)(x:V):Option (List V):=match x with
 | .t n v=>if z=1/\k<=n then some (jX k v)else none
 |x=>Jz st z k x
def slen :V->Option Nat
 | .e=>some 0
 | .w _ _ n _=>some n
 | .m _ _ n _ _=>some n
 |_=>none
def slenX (x:V):Option Nat:=match x with
 | .t n _=>some n
 |x=>slen x
def QK :V->Option Nat
 | .d _ n=>if 0<=n then some n.toNat else none
 |_=>none
def JZ (d:Nat):Option V->Option Nat
 |none=>some d
 |some v=>QK v
def QX :List V->Option Nat
 |[]=>some 0
 | .d .u8 n::r=>if 0<=n/\n<256 then(QX r).map fun v=>n.toNat+256*v else none
 |_::_=>none
def Kc (l:List V):Bool:=l.all V.B
def Y0 (z:Nat)(x:V)(lo hi mx:Option V):Option V:=
 match x with
 | .e=>do
   let l<-JZ 0 lo
   let h<-JZ 0 hi
   let m<-JZ 0 mx
   if l=0/\h=0/\m=0 then some .e else none
 | .w r o n z'=>do
   let l<-JZ 0 lo
   let h<-JZ n hi
   if z≠z' then none else
   match mx with
   | some v=>do
     let m<-QK v
     if l<=h/\h<=m/\m<=n then some (.m r (o+l*z) (h-l) z (m-l))else none
   |none=>if l<=h/\h<=n then some (.w r (o+l*z) (h-l) z)else none
 | .m r o n z' c=>do
   let l<-JZ 0 lo
   let h<-JZ n hi
   let m<-JZ c mx
   if z=z'/\l<=h/\h<=m/\m<=c then some (.m r (o+l*z) (h-l) z (m-l))else none
 |_=>none
def JG (st:St)(z k:Nat)(new:List V)(s:V):Option (V×Eff):=
 if k=0 then(if(slen s).isSome then some (s, .a)else none)else
 match s with
 | .e=>some (.w st.b 0 k z, .b fun t=> .a t new)
 | .w r o n z'=>
   if z≠z'\/2^24<n+k then none else
   match st.A r with
   | .a t l=>
     if o+n*z<=l.length then some (.w st.b 0 (n+k) z, .e r t fun u=> .a u ((l.drop o).take (n*z)++new))else none
   |_=>none
 | .m r o n z' c=>
   if z≠z'\/2^24<n+k then none else
   match st.A r with
   | .a t l=>
     if o+n*z<=l.length then
      if n+k<=c then
       if o+(n+k)*z<=l.length then some (.m r o (n+k) z c, .d r t fun u=> .a u (Jw l (o+n*z) new))else none
      else some (.w st.b 0 (n+k) z, .b fun u=> .a u ((l.drop o).take (n*z)++new))
     else none
   |_=>none
 |_=>none
def JO (st:St)(x:V)(vs:List V):Option Eff:=
 match x with
 | .g r o=>match st.A r with
   | .a t l=>if o+vs.length<=l.length/\Kc vs then some (.d r t fun u=> .a u (Jw l o vs))else none
   |_=>none
 |_=>none
def jY :V->Option V
 | .w r o _ _=>some (.g r o)
 | .m r o _ _ _=>some (.g r o)
 |_=>none
def evs (fr:Fr)(l:List Opd):List V:=l.map (Opd.A fr)
def evps (fr:Fr)(l:List (Nat×Nat×Opd)):List (Nat×Nat×V):=l.map fun(o,n,x)=>(o,n,x.A fr)
def jO (st:St):V->Option (List (V×V))
 | .u=>some []
 | .q r=>match st.A r with
   | .b _ es=>some es
   |_=>none
 |_=>none
def evOp (fr:Fr)(st:St):Iop->Option (V×Eff)
 | .Q x=>some (x.A fr, .a)
 | .pick c a b=>match c.A fr with
   | .h t=>some (if t then a.A fr else b.A fr, .a)
   |_=>none
 | .alloc zs=>some (.g st.b 0,Eff.b fun t=> .a t zs)
 | .box x=>match(x.A fr).A with
   |some vs=>if Kc vs then some (.g st.b 0,Eff.b fun t=> .a t vs)else none
   |none=>none
 | .build zs ps=>(YZ zs (evps fr ps)).map fun l=>(.j l, .a)
 | .bsl z n zs ps=>match YZ zs (evps fr ps)with
   |some l=>if Kc l/\l.length=n*z then some (.m st.b 0 n z n,Eff.b fun t=> .a t l)else none
   |none=>none
 | .l x=>match Kn st 1 (x.A fr)with
   |some [v]=>some (v, .a)
   |_=>none
 | .p n x=>(Kn st n (x.A fr)).map fun l=>(.j l, .a)
 | .store n x v=>match(v.A fr).A with
   |some vs=>if vs.length=n then(JO st (x.A fr) vs).map fun e=>(JY,e)else none
   |none=>none
 | .q x=>match x.A fr with
   | .g r o=>some (.g r o, .a)
   | .D f a b=>some (.D f a b, .a)
   |_=>none
 | .S e neg x y=>(e.B (x.A fr) (y.A fr)).map fun t=>(.h (t !=neg), .a)
 | .N op x y=>(arith op (x.A fr) (y.A fr)).map fun v=>(v, .a)
 | .not x=>match x.A fr with
   | .h t=>some (.h !t, .a)
   |_=>none
 | .r k x=>match x.A fr with
   | .d _ n=>some (.d k (k.wrap n), .a)
   |_=>none
 | .P x=>match slen (x.A fr)with
   | some n=>match Jz st 1 n (x.A fr)with
     |some l=>(QX l).map fun v=>(.t n v, .a)
     |none=>none
   |none=>none
 | .mkfn f a b=>some (.D f (evs fr a) (evs fr b), .a)
 | .g=>some (.q st.b,Eff.b fun t=> .b t [])
 | .t z zs n c=>match QK (n.A fr),QK (c.A fr)with
   |some n,some c=>if n<=c/\c<2^20/\zs.length=z then some (.m st.b 0 n z c,Eff.b fun t=> .a t (List.replicate c zs).flatten)else none
   |_,_=>none
 | .cutS x lo hi=>match x.A fr with
   | .t n v=>match JZ 0 (lo.map (Opd.A fr)),JZ n (hi.map (Opd.A fr))with
     |some l,some h=>if l<=h/\h<=n then some (.t (h-l) (scut v l h), .a)else none
     |_,_=>none
   |_=>none
 | .cutL z x lo hi mx=>(Y0 z (x.A fr) (lo.map (Opd.A fr)) (hi.map (Opd.A fr)) (mx.map (Opd.A fr))).map fun v=>(v, .a)
 | .cutA n z x lo hi mx=>match x.A fr with
   | .g r o=>match st.A r with
     | .a _ l=>if o+n*z<=l.length then(Y0 z (.m r o n z n) (lo.map (Opd.A fr)) (hi.map (Opd.A fr)) (mx.map (Opd.A fr))).map fun v=>(v, .a)else none
     |_=>none
   |_=>none
 | .j o x=>match x.A fr with
   | .g r q=>some (.g r (q+o), .a)
   |_=>none
 | .O o n x=>match x.A fr with
   | .j l=>match n with
     |some n=>if o+n<=l.length then some (.j ((l.drop o).take n), .a)else none
     |none=>(l[o]?).map fun v=>(v, .a)
   |_=>none
 | .h z x i=>match QK (i.A fr),x.A fr with
   |some i, .w r o n z'=>if i<n/\z=z' then some (.g r (o+i*z), .a)else none
   |some i, .m r o n z' _=>if i<n/\z=z' then some (.g r (o+i*z), .a)else none
   |_,_=>none
 | .u x i=>match QK (i.A fr),x.A fr with
   |some i, .t n v=>if i<n then some (.d .u8 (Yi v i), .a)else none
   |_,_=>none
 | .lookup e z ok m k=>match jO st (m.A fr)with
   | some es=>if !e.A (k.A fr)then none else match KJ e (k.A fr) es 0 with
     |some (some (_,v))=>some (if ok then .p [v, .h true]else v, .a)
     |some none=>some (if ok then .p [z, .h false]else z, .a)
     |none=>none
   |none=>none
 | .mupd e m k v=>match m.A fr with
   | .q r=>match st.A r with
     | .b t es=>if !e.A (k.A fr)then none else match KJ e (k.A fr) es 0 with
       |some (some (i,_))=>some (JY,Eff.d r t fun u=> .b u (es.modify i fun _=>(k.A fr,v.A fr)))
       |some none=>some (JY,Eff.d r t fun u=> .b u (es++[(k.A fr,v.A fr)]))
       |none=>none
     |_=>none
   |_=>none
 | .ment e z m k=>match m.A fr with
   | .q r=>match st.A r with
     | .b t es=>if !(e.A (k.A fr)&&e.D (k.A fr))then none else match KJ e (k.A fr) es 0 with
       |some (some (i,v))=>some (.p [v, .d .i64 i],Eff.d r t fun u=> .b u (es.modify i fun e=>(k.A fr,e.2)))
       |some none=>some (.p [z, .d .i64 es.length],Eff.d r t fun u=> .b u (es++[(k.A fr,z)]))
       |none=>none
     |_=>none
   |_=>none
 | .ests m s v=>match m.A fr,QK (s.A fr)with
   | .q r,some i=>match st.A r with
     | .b t es=>if i<es.length then some (JY,Eff.d r t fun u=> .b u (es.modify i fun e=>(e.1,v.A fr)))else none
     |_=>none
   |_,_=>none
 | .L x=>match x.A fr with
   | .t n v=>some (.g st.b 0,Eff.b fun t=> .e t n v 0)
   |_=>none
 | .K x=>match x.A fr with
   | .u=>some (.g st.b 0,Eff.b fun t=> .d t none 0 0)
   | .q r=>match st.A r with
     | .b _ es=>some (.g st.b 0,Eff.b fun t=> .d t (some r) es.length 0)
     |_=>none
   |_=>none
 | .nextS x=>match x.A fr with
   | .g r 0=>match st.A r with
     | .e t n v pos=>
       if pos<n then
        (if Yi v pos<128 then some (.p [.h true, .d .i64 pos, .d .i32 (Yi v pos)],Eff.d r t fun u=> .e u n v (pos+1))else some (.p [.h true, .d .i64 pos, .d .i32 (Utf8.decode (jN n v) pos).1],Eff.d r t fun u=> .e u n v (pos+(Utf8.decode (jN n v) pos).2)))
       else some (.p [.h false], .a)
     |_=>none
   |_=>none
 | .nextM x=>match x.A fr with
   | .g r 0=>match st.A r with
     | .d _ none _ _=>some (.p [.h false], .a)
     | .d t (some m) n0 cnt=>match st.A m with
       | .b _ es=>
         if es.length≠n0 then none
         else if cnt<n0 then some (.p [.h true, .y, .y],Eff.d r t fun u=> .d u (some m) n0 (cnt+1))
         else some (.p [.h false], .a)
       |_=>none
     |_=>none
   |_=>none
 | .M n x=>match x.A fr with
   | .p l=>(l[n]?).map fun v=>(v, .a)
   |_=>none
 | .call _ _=>none
 | .callv _ _=>none
 | .J x=>match x.A fr with
   | .t n _=>some (.d .i64 n, .a)
   |_=>none
 | .w x=>(slen (x.A fr)).map fun n=>(.d .i64 n, .a)
 | .app z s x=>match slen (x.A fr)with
   | some k=>match Jz st z k (x.A fr)with
     |some new=>if k<2^20/\Kc new=true then JG st z k new (s.A fr)else none
     |none=>none
   |none=>none
 | .copy z d x=>match slen (d.A fr),slenX (x.A fr)with
   | some n,some k=>match cellsX st z (Nat.min k n) (x.A fr)with
     | some vs=>if Nat.min k n=0 then some (.d .i64 0, .a)else
       match jY (d.A fr)with
       |some p=>(JO st p vs).map fun e=>(.d .i64 (Nat.min k n),e)
       |none=>none
     |none=>none
   |_,_=>none
 | .clear z zs x=>match slen (x.A fr)with
   | some n=>if n=0 then some (JY, .a)else
     match jY (x.A fr)with
     |some p=>if zs.length=z then(JO st p (List.replicate n zs).flatten).map fun e=>(JY,e)else none
     |none=>none
   |none=>none
abbrev Self :=Nat->List V->St->Option (V×St)
def KW (self:Self)(fr:Fr)(st:St)(op:Iop):Option (V×St):=
 match op with
 | .call f as=>self f (evs fr as) st
 | .callv x as=>match x.A fr with
   | .D f a b=>self f (a++evs fr as++b) st
   |_=>none
 |op=>(evOp fr st op).map fun(v,e)=>(v,st.J e)
def Iop.A :Iop->Bool
 | .call ..| .callv ..=>true
 |_=>false
def rowOf :V->Option Pt
 | .g r _=>some r
 | .w r _ _ _=>some r
 | .m r _ _ _ _=>some r
 | .q r=>some r
 |_=>none
def still (fr:Fr)(st:St)(t:Nat)(l:List Nat):Bool:=l.all fun s=>match rowOf (fr s)with
 |some r=>decide ((st.A r).A<t)
 |none=>true
def KQ (self:Self)(okW:Option (List Nat))(fr:Fr)(st:St)(op:Iop):Option (V×St):=
 match KW self fr {st with a:=st.t} op with
 | some (v,st')=>
   if st'.a<st.t then
    match okW with
    |none=>none
    |some l=>if still fr st' st.t l then some (v,{st' with a:=if st'.a<st.a then st'.a else st.a})else none
   else some (v,{st' with a:=st.a})
 |none=>none
def put (fr:Fr)(d:Option Nat)(v:V):Fr:=
 match d with
 |none=>fr
 |some i=>fun j=>if j=i then v else fr j
def evGo (self:Self)(drawn:Bool)(fr:Fr)(st:St)(i:Ins):Option (Fr×St):=
 match(if drawn&&i.d.A then KQ self i.c fr st i.d else KW self fr st i.d)with
 |some (v,st)=>some (put fr i.b v,st)
 |none=>none
def Yq (self:Self)(drawn:Bool)(fr:Fr)(st:St)(i:Ins):Option (Fr×St):=
 match i.a with
 |none=>evGo self drawn fr st i
 | some (g,want)=>match fr g with
   | .h b=>if b==want then evGo self drawn fr st i else some (put fr i.b JY,st)
   | .p _=>some (put fr i.b JY,st)
   |_=>none
def Kj (self:Self)(drawn:Bool):List Ins->Fr->St->Option (Fr×St)
 |[],fr,st=>some (fr,st)
 | i::r,fr,st=>match Yq self drawn fr st i with
   |some (fr,st)=>Kj self drawn r fr st
   |none=>none
inductive Out where
 |a (fr:Fr) (st:St)
 |b (id:Nat) (fr:Fr) (st:St)
 |c (fr:Fr) (st:St)
def restrict (live:List Nat)(fr:Fr):Fr:=fun i=>if live.contains i then fr i else .y
def Jad (body:Fr->St->Option Out)(live:List Nat):Nat->Fr->St->Option Out
 |0,_,_=>none
 | n+1,fr,st=>match body fr st with
   |some (.a fr st)=>Jad body live n fr st
   |r=>r
def JM (fr:Fr)(chk:List (List Nat×List Nat)):Bool:=
 chk.all fun(xs,ys)=>xs.all fun x=>ys.all fun y=>match rowOf (fr x),rowOf (fr y)with
  |some r,some q=>decide (r≠q)
  |_,_=>true
def evD (self:Self)(lf:Nat):C->Fr->St->Option Out
 | .d,fr,st=>some (.a fr st)
 | .k l,fr,st=>(Kj self false l fr st).map fun(fr,st)=> .a fr st
 | .n l chk,fr,st=>match Kj self true l fr st with
   |some (fr,st)=>if JM fr chk then some (.a fr st)else none
   |none=>none
 | .j a b,fr,st=>match evD self lf a fr st with
   |some (.a fr st)=>evD self lf b fr st
   |r=>r
 | .h _ a b,fr,st=>match evD self lf a fr st with
   |some (.a fr st)=>evD self lf b fr st
   |r=>r
 | .f c a b,fr,st=>match c.A fr with
   | .h t=>if t then evD self lf a fr st else evD self lf b fr st
   |_=>none
 | .e id b,fr,st=>match evD self lf b fr st with
   |some (.b i fr st)=>if i=id then some (.a fr st)else some (.b i fr st)
   |r=>r
 | .g live b,fr,st=>Jad (evD self lf b) live lf fr st
 | .i id,fr,st=>some (.b id fr st)
 | .m,fr,st=>some (.c fr st)
def qG (args:List V):Fr:=fun i=>(args[i]?).getD JY
def jx (fr:Fr)(st:St):RS->Option V
 | .s i=>some (fr i)
 | .b i=>match Kn st 1 (fr i)with
   |some [v]=>some v
   |_=>none
 | .a i n=>(Kn st n (fr i)).map .j
def Ql (res:List RS)(fr:Fr)(st:St):Option V:=
 match res.mapM (jx fr st)with
 |some [v]=>some v
 |some l=>some (.p l)
 |none=>none
def evFn (lf:Nat)(fn:Fn)(self:Self)(args:List V)(st:St):Option (V×St):=
 match evD self lf fn.body (qG args) st with
 |some (.a fr st)=>(Ql fn.a fr st).map fun v=>(v,st)
 |some (.c fr st)=>(Ql fn.a fr st).map fun v=>(v,st)
 |_=>none
abbrev Table :=Nat->Option (Self->List V->St->Option (V×St))
def run (T:Table):Nat->Self
 |0=>fun _ _ _=>none
 | n+1=>fun f args st=>match T f with
   |some b=>b (run T n) args st
   |none=>none
def St.H :St:={h:= .e,b:= .h,t:=0,a:=0}
def ofVal1 :Value->Option V
 | .bool b=>some (.h b)
 | .int k n=>some (.d k n)
 | .string s=>some (.t s.data.toList.length (snum s.data.toList))
 | .pointer none=>some .s
 | .slice none 0 0=>some .e
 | .map none=>some .u
 | .nilFunc=>some .x
 |_=>none
def ofVal :Value->Option V
 | .agg cs=>(cs.toList.mapM ofVal1).map .j
 | .tuple cs=>(cs.toList.mapM ofVal1).map .p
 |v=>ofVal1 v
def opd :Operand->Option Opd
 | .tmp t=>some (.s t)
 | .const v=>(ofVal v).map .c
 | .func f=>some (.c (.D f [] []))
 | .global _=>none
variable (P : Program)
def szT (t:TypeId):Option Nat:=(P.info? t).map (·.size)
def Kf (t:TypeId):Option Bool:=(P.underlying t).map fun d=>match d with
 | .struct _=>true
 | .array _ _=>true
 |_=>false
def Jge (t:TypeId):Option V:=match P.info? t with
 | some i=>match i.zero with
   |some v=>ofVal v
   |none=>none
 |none=>none
def Ky (t:TypeId):Option (List V):=match P.info? t with
 | some i=>match i.zero with
   |some v=>v.cells.toList.mapM ofVal1
   |none=>none
 |none=>none
def Yr (rec:TypeId->Option (List KD)):List Field->Nat->Option (List KD)
 |[],_=>some []
 | f :: fs, off => if f.name = "_" \/ f.offset ≠ off then none else
   match rec f.type with
   | some l=>match Yr rec fs (off+l.length)with
     |some r=>some (l++r)
     |none=>none
   |none=>none
def leaves :Nat->TypeId->Option (List KD)
 |0,_=>none
 | d+1,t=>match P.underlying t with
   |some .bool=>some [.b]
   |some (.int _)=>some [.i]
   |some .string=>some [.s]
   | some (.struct fs)=>if P.stoodInHeld t then none else
     match Yr (leaves d) fs.toList 0 with
     |some l=>if szT P t=some l.length then some l else none
     |none=>none
   | some (.array n e)=>match leaves d e with
     |some l=>if szT P e=some l.length/\szT P t=some (n*l.length)/\n<1000 then some (List.replicate n l).flatten else none
     |none=>none
   |_=>none
def eqk (t:TypeId):Option EK:=match P.underlying t with
 |some .bool=>some (.a .b)
 |some (.int _)=>some (.a .i)
 |some .string=>some (.a .s)
 |some (.pointer _)=>some (.a .p)
 |some (.slice _)=>some (.a .l)
 |some (.map _ _)=>some (.a .m)
 |some (.func _ _ _)=>some (.a .f)
 |some (.struct _)=>if P.eqGuardType P.depth t then none else(leaves P 8 t).map .b
 |some (.array _ _)=>if P.eqGuardType P.depth t then none else(leaves P 8 t).map .b
 |_=>none
def EK.F :EK->Bool
 | .a .b=>true
 | .a .i=>true
 | .a .s=>true
 | .a _=>false
 | .b ks=>ks.all fun k=>k== .b||k== .i||k== .s
def opds (l:Array Operand):Option (List Opd):=l.toList.mapM opd
def opdO :Option Operand->Option (Option Opd)
 |none=>some none
 |some x=>(opd x).map some
def parts (place:Nat->Option (Nat×Nat)):List (Nat×Operand)->Option (List (Nat×Nat×Opd))
 |[]=>some []
 | (i,x)::r=>match place i,opd x,parts place r with
   |some (o,n),some x,some r=>some ((o,n,x)::r)
   |_,_,_=>none
def jy (b:Builtin)(tys:Array TypeId)(args:List Opd):Option Iop:=
 match b,tys.toList,args with
 | .len,t::_,[x]=>match P.underlying t with
   |some .string=>some (.J x)
   |some (.slice _)=>some (.w x)
   |_=>none
 | .append,[t,u],[s,x]=>match P.underlying t,P.underlying u with
   | some (.slice e),some (.slice _)=>match P.info? e with
     |some i=>if i.bytes<=65536/\(i.zero.any fun v=>v.cells.size==i.size)=true then some (.app i.size s x)else none
     |none=>none
   |_,_=>none
 | .copy,t::u::_,[d,x]=>match P.underlying t,P.underlying u with
   |some (.slice e),some (.slice _)=>(szT P e).map fun z=> .copy z d x
   |some (.slice e),some .string=>(szT P e).map fun z=> .copy z d x
   |_,_=>none
 | .clear,t::_,[x]=>match P.underlying t with
   | some (.slice e)=>match szT P e,Ky P e with
     |some z,some zs=>some (.clear z zs x)
     |_,_=>none
   |_=>none
 |_,_,_=>none
def YI (o:Oper):Option Iop:=
 match o.op with
 | .move x=>(opd x).map .Q
 | .assign x=>(opd x).map .Q
 | .pick c a b=>match opd c,opd a,opd b with
   |some c,some a,some b=>some (.pick c a b)
   |_,_,_=>none
 | .alloc t=>(Ky P t).map .alloc
 | .box _ x=>(opd x).map .box
 | .build t ps=>match P.underlying t,Ky P t with
   | some (.struct fs),some zs=>match parts (fun i=>match fs[i]? with
      |some f=>(szT P f.type).map fun n=>(f.offset,n)
      |none=>none) ps.toList with
     |some l=>if(fs.toList.all fun f=>(szT P f.type).isSome)then some (.build zs l)else none
     |none=>none
   | some (.array _ e),some zs=>match szT P e with
     |some n=>(parts (fun i=>some (i*n,n)) ps.toList).map (.build zs)
     |none=>none
   |_,_=>none
 | .buildSlice t n ps=>match P.underlying t with
   | some (.slice e)=>match szT P e,Ky P e with
     | some z,some zs=>match parts (fun i=>some (i*z,z)) ps.toList with
       |some l=>if n*z<=2^24/\zs.length=z then some (.bsl z n (List.replicate n zs).flatten l)else none
       |none=>none
     |_,_=>none
   |_=>none
 | .load t x=>match Kf P t,szT P t,opd x with
   |some true,some n,some x=>some (.p n x)
   |some false,_,some x=>some (.l x)
   |_,_,_=>none
 | .store t x v=>match szT P t,opd x,opd v with
   |some n,some x,some v=>some (.store n x v)
   |_,_,_=>none
 | .nilCheck x=>(opd x).map .q
 | .binOp .eql t x y _=>match eqk P t,opd x,opd y with
   |some e,some x,some y=>some (.S e false x y)
   |_,_,_=>none
 | .binOp .neq t x y _=>match eqk P t,opd x,opd y with
   |some e,some x,some y=>some (.S e true x y)
   |_,_,_=>none
 | .binOp op _ x y _=>match opd x,opd y with
   |some x,some y=>some (.N op x y)
   |_,_=>none
 | .unOp .not _ x=>(opd x).map .not
 | .convert s d x=>match P.underlying s,P.underlying d,opd x with
   |some (.int _),some (.int k),some x=>some (.r k x)
   | some (.slice e),some .string,some x=>match P.underlying e with
     |some (.int .u8)=>if szT P e=some 1 then some (.P x)else none
     |_=>none
   |_,_,_=>none
 | .makeFunc (.func f) a b=>match opds a,opds b with
   |some a,some b=>some (.mkfn f a b)
   |_,_=>none
 | .makeMap _ none=>some .g
 | .makeSlice t n c=>match P.underlying t with
   | some (.slice e)=>match P.info? e,Ky P e,opd n,opd c with
     |some i,some zs,some n,some c=>if i.bytes<=65536 then some (.t i.size zs n c)else none
     |_,_,_,_=>none
   |_=>none
 | .slice t x lo hi mx=>match opd x,opdO lo,opdO hi,opdO mx with
   | some x,some lo,some hi,some mx=>if mx.isSome&&hi.isNone then none else match P.underlying t with
     |some .string=>if mx.isNone then some (.cutS x lo hi)else none
     |some (.slice e)=>(szT P e).map fun z=> .cutL z x lo hi mx
     |some (.array n e)=>(szT P e).map fun z=> .cutA n z x lo hi mx
     |_=>none
   |_,_,_,_=>none
 | .fieldAddr t x f=>match P.underlying t,opd x with
   | some (.struct fs),some x=>match fs[f]? with
     | some f=>match szT P f.type with
       |some n=>if n≠0 then some (.j f.offset x)else none
       |none=>none
     |none=>none
   |_,_=>none
 | .field t x f=>match P.underlying t,opd x with
   | some (.struct fs),some x=>match fs[f]? with
     | some f=>match Kf P f.type,szT P f.type with
       |some true,some n=>some (.O f.offset (some n) x)
       |some false,_=>some (.O f.offset none x)
       |_,_=>none
     |none=>none
   |_,_=>none
 | .indexAddr t x i=>match P.underlying t,opd x,opd i with
   |some (.slice e),some x,some i=>(szT P e).map fun z=> .h z x i
   |_,_,_=>none
 | .index t x i=>match P.underlying t,opd x,opd i with
   |some .string,some x,some i=>some (.u x i)
   |_,_,_=>none
 | .lookup t m k ok=>match P.underlying t,opd m,opd k with
   | some (.map kt et),some m,some k=>match eqk P kt,Jge P et with
     |some e,some z=>some (.lookup e z ok m k)
     |_,_=>none
   |_,_,_=>none
 | .mapUpdate t m k v=>match P.underlying t,opd m,opd k,opd v with
   | some (.map kt _),some m,some k,some v=>match eqk P kt with
     |some e=>if e.F then some (.mupd e m k v)else none
     |none=>none
   |_,_,_,_=>none
 | .insert t m k v=>match P.underlying t,opd m,opd k,opd v with
   | some (.map kt _),some m,some k,some v=>match eqk P kt with
     |some e=>if e.F then some (.mupd e m k v)else none
     |none=>none
   |_,_,_,_=>none
 | .mapEntry t m k=>match P.underlying t,opd m,opd k with
   | some (.map kt et),some m,some k=>match eqk P kt,Jge P et with
     |some e,some z=>if e.F then some (.ment e z m k)else none
     |_,_=>none
   |_,_,_=>none
 | .entryStore _ m s v=>match opd m,opd s,opd v with
   |some m,some s,some v=>some (.ests m s v)
   |_,_,_=>none
 | .range t x=>match P.underlying t,opd x with
   |some .string,some x=>some (.L x)
   |some (.map _ _),some x=>some (.K x)
   |_,_=>none
 | .next x true=>(opd x).map .nextS
 | .next x false=>(opd x).map .nextM
 | .extract x n=>(opd x).map (.M n)
 | .call c=>match opds c.args with
   | some as=>match c.callee with
     | .value (.func f)=>match P.funcs[f]? with
       | some fn => if fn.body.isSome /\ fn.name ≠ "runtime.NumGoroutine" then some (.call f as) else none
       |none=>none
     | .value x=>(opd x).map fun x=> .callv x as
     | .builtin b=>jy P b c.argTypes as
     | .invoke _ _=>none
   |none=>none
 |_=>none
def Iop.H :Iop->Bool
 | .Q _| .pick ..| .build ..| .q _| .S ..| .N ..| .not _| .r ..| .mkfn ..| .cutS ..| .cutL ..| .j ..| .O ..
 | .h ..| .u ..| .M ..| .J _| .w _| .alloc _| .box _| .bsl ..| .g| .t ..| .L _=>true
 |_=>false
def Iop.G :Iop->Bool
 | .store ..| .app ..| .copy ..| .mupd ..| .ment ..| .ests ..| .nextS _| .nextM _| .clear ..| .call ..| .callv ..=>true
 |_=>false
def Opd.B :Opd->List Nat
 | .s i=>[i]
 | .c _=>[]
def Iop.D :Iop->List Nat
 | .store _ x _=>x.B
 | .app _ s _=>s.B
 | .copy _ d _=>d.B
 | .mupd _ m _ _=>m.B
 | .ment _ _ m _=>m.B
 | .ests m _ _=>m.B
 | .nextS x=>x.B
 | .nextM x=>x.B
 | .clear _ _ x=>x.B
 |_=>[]
def Iop.B :Iop->Option (List Nat)
 | .l x=>some x.B
 | .p _ x=>some x.B
 | .P x=>some x.B
 | .cutA _ _ x _ _ _=>some x.B
 | .lookup _ _ _ m _=>some m.B
 | .store _ x _=>some x.B
 | .app _ s x=>some (s.B++x.B)
 | .copy _ d x=>some (d.B++x.B)
 | .mupd _ m _ _=>some m.B
 | .ment _ _ m _=>some m.B
 | .ests m _ _=>some m.B
 | .clear _ _ x=>some x.B
 | .nextS x=>some x.B
 | .K x=>some x.B
 | .nextM _=>none
 | .call ..=>none
 | .callv ..=>none
 |_=>some []
def Opd.D :Opd->Opd->Bool
 | .s i, .s j=>i==j
 |_,_=>false
def twin :Iop->Iop->Bool
 | .lookup e z false m k, .ment e' z' m' k'=>decide (e=e')&&JnW z z'&&m.D m'&&k.D k'
 |_,_=>false
def Jbg :Option Opd->List Opd
 |some x=>[x]
 |none=>[]
def Iop.I :Iop->List Opd
 | .Q x=>[x]
 | .pick c a b=>[c,a,b]
 | .alloc _=>[]
 | .box x=>[x]
 | .build _ ps=>ps.map (·.2.2)
 | .bsl _ _ _ ps=>ps.map (·.2.2)
 | .l x=>[x]
 | .p _ x=>[x]
 | .store _ x v=>[x,v]
 | .q x=>[x]
 | .S _ _ x y=>[x,y]
 | .N _ x y=>[x,y]
 | .not x=>[x]
 | .r _ x=>[x]
 | .P x=>[x]
 | .mkfn _ a b=>a++b
 | .g=>[]
 | .t _ _ n c=>[n,c]
 | .cutS x lo hi=>x::(Jbg lo++Jbg hi)
 | .cutL _ x lo hi mx=>x::(Jbg lo++(Jbg hi++Jbg mx))
 | .cutA _ _ x lo hi mx=>x::(Jbg lo++(Jbg hi++Jbg mx))
 | .j _ x=>[x]
 | .O _ _ x=>[x]
 | .h _ x i=>[x,i]
 | .u x i=>[x,i]
 | .lookup _ _ _ m k=>[m,k]
 | .mupd _ m k v=>[m,k,v]
 | .ment _ _ m k=>[m,k]
 | .ests m s v=>[m,s,v]
 | .L x=>[x]
 | .K x=>[x]
 | .nextS x=>[x]
 | .nextM x=>[x]
 | .M _ x=>[x]
 | .call _ as=>as
 | .callv x as=>x::as
 | .J x=>[x]
 | .w x=>[x]
 | .app _ s x=>[s,x]
 | .copy _ d x=>[d,x]
 | .clear _ _ x=>[x]
def Iop.F (i:Iop):List Nat:=i.I.flatMap Opd.B
def JaW (ops:Array Oper)(o:Oper):List Nat:=match o.guard with
 |some (g,_)=>((ops[g]?).bind (·.dst)).toList
 |none=>[]
def names (ops:Array Oper)(o:Oper)(x:Iop):List Nat:=o.dst.toList++(x.F++JaW ops o)
def Jbv (ops:Array Oper)(l:List Iop):Bool:=
 let b:=Region.before ops
 (List.range ops.size).all fun i=>match ops[i]?,l[i]? with
  | some o,some x=>
    (o.after.all fun e=> !Region.binds .any e||decide (e.on<i))&&
    (match o.guard with
     |none=>true
     |some (j,_)=>decide (j<i))&&
    (List.range ops.size).all fun k=>k==i||match ops[k]? with
     |none=>false
     | some y=>match y.dst with
       |none=>true
       |some d=> !(names ops o x).contains d||(b.getD (max i k) 0).testBit (min i k)
  |_,_=>false
def ordered (b:Array Nat)(i k:Nat):Bool:=(b.getD (max i k) 0).testBit (min i k)
def Jae (ops:Array Oper)(i:Nat):Option Nat:=(ops[i]?).bind (·.dst)
def YJ (ops:Array Oper)(i:Nat)(s:Nat):Bool:=(List.range ops.size).all fun k=>decide (k<i)||Jae ops k !=some s
def Jbw {α:Type}:List (Option (List α))->Option (List α)
 |[]=>some []
 |none::_=>none
 | some x::r=>match Jbw r with
   |some y=>some (x++y)
   |none=>none
def okW1 (ops:Array Oper)(l:List Iop)(b:Array Nat)(e k:Nat):Option (List Nat):=
 match l[k]? with
 | some y=>
   if k==e||y.H||ordered b e k then some []else
   match y.B with
   |none=>none
   |some ys=>if decide (k<e)&& !y.G&&ys.all (YJ ops k)then some ys else none
 |none=>none
def okWs (ops:Array Oper)(l:List Iop)(e:Nat):Option (List Nat):=
 let b:=Region.before ops
 Jbw ((List.range ops.size).map (okW1 ops l b e))
def Jbx (ops:Array Oper)(e k:Nat)(y x:Iop):Bool:=twin y x&&y.F.all (YJ ops (min e k))
def Jr3 (ops:Array Oper)(l:List Iop)(b:Array Nat)(e k:Nat):Option (List (List Nat×List Nat)):=
 match l[e]?,l[k]? with
 | some x,some y=>
   if e==k|| !x.G||x.A||y.H||ordered b e k||Jbx ops e k y x then some []else
   match y.B with
   |none=>none
   | some ys=>
     if !x.D.isEmpty&&(x.D.all (YJ ops e))&&(ys.all (YJ ops k))then some [(x.D,ys)]else none
 |_,_=>none
def JlE (ops:Array Oper)(l:List Iop):Option (List (List Nat×List Nat)):=
 let b:=Region.before ops
 Jbw ((List.range ops.size).map fun e=>Jbw ((List.range ops.size).map (Jr3 ops l b e)))
def jz (ops:Array Oper)(ntmps:Nat)(l:List Iop)(draw:Bool)(i:Nat)(o:Oper)(x:Iop):Option Ins:=
 match o.guard with
 |none=>if o.dst.all (·<ntmps)then some {b:=o.dst,d:=x,a:=none,c:=if draw&&x.A then okWs ops l i else none}else none
 | some (j,want)=>match(ops[j]?).bind (·.dst)with
   |some d=>if o.dst.all (·<ntmps)/\d<ntmps then some {b:=o.dst,d:=x,a:=some (d,want),c:=if draw&&x.A then okWs ops l i else none}else none
   |none=>none
def QL (ops:Array Oper)(ntmps:Nat)(l:List Iop)(draw:Bool):Nat->List Oper->List Iop->Option (List Ins)
 |_,[],[]=>some []
 | i,o::os,x::xs=>match jz ops ntmps l draw i o x,QL ops ntmps l draw (i+1) os xs with
   |some y,some r=>some (y::r)
   |_,_=>none
 |_,_,_=>none
def Jev (ops:Array Oper)(ntmps:Nat)(draw:Bool):Option C:=
 match ops.toList.mapM (YI P)with
 | some l=>if draw&& !Jbv ops l then none else
   match QL ops ntmps l draw 0 ops.toList l with
   |some is=>if draw then(JlE ops l).map (.n is)else some (.k is)
   |none=>none
 |none=>none
def JhL :Code->Bool
 | .cond ..=>true
 | .block ..=>true
 | .loop _=>true
 | .seq a b=>JhL a||JhL b
 |_=>false
def Yj (ntmps:Nat):Code->List (List Nat)->Option (C×List (List Nat))
 | .skip,hs=>some (.d,hs)
 | .region _ ops draw,hs=>(Jev P ops ntmps draw).map fun c=>(c,hs)
 | .seq a b,hs=>
   if JhL a then
    match hs with
    |[]=>none
    | live::hs=>match Yj ntmps a hs with
      | some (x,hs)=>match Yj ntmps b hs with
        |some (y,hs)=>some (.h live x y,hs)
        |none=>none
      |none=>none
   else match Yj ntmps a hs with
    | some (x,hs)=>match Yj ntmps b hs with
      |some (y,hs)=>some (.j x y,hs)
      |none=>none
    |none=>none
 | .cond c a b,hs=>match opd c with
   | some c=>match Yj ntmps a hs with
     | some (x,hs)=>match Yj ntmps b hs with
       |some (y,hs)=>some (.f c x y,hs)
       |none=>none
     |none=>none
   |none=>none
 | .block id b,hs=>(Yj ntmps b hs).map fun(x,hs)=>(.e id x,hs)
 | .loop b,hs=>match hs with
   |[]=>none
   |live::hs=>(Yj ntmps b hs).map fun(x,hs)=>(.g live x,hs)
 | .exit id,hs=>some (.i id,hs)
 | .ret,hs=>some (.m,hs)
 | .rangeFunc _ _ _ _,hs=>some (.f (.c .y) .d .d,hs) 
 |_,_=>none
def jA :ResultVar->Option RS
 | .tmp t=>some (.s t)
 | .cell a t=>match Kf P t,szT P t with
   |some true,some n=>some (.a a n)
   |some false,_=>some (.b a)
   |_,_=>none
def JhM (f:Func)(hs:List (List Nat)):Option Fn:=
 match f.body,f.results.toList.mapM (jA P)with
 | some c,some rs=>if f.params.size+f.nfree<=f.ntmps then
    match Yj P f.ntmps c hs with
    |some (c,_)=>some {b:=f.ntmps,a:=rs,body:=c}
    |none=>none
   else none
 |_,_=>none
end Eva
namespace Eva
open Go Go.RowKit
variable {s:TypeId}{v t:Nat}{e:Value}{n:Array Value}{k:Obj}{z:Nat×Nat}{b:List Value}{d:World}
theorem Pt.D (p:Pt):p.F.A=p.A+1:=by
 induction p with
 |h=>rfl
 |a p _=>rfl
 |b p _=>rfl
 |c p _=>rfl
 |d p e=>simp[Pt.F,Pt.A,e];omega
theorem Pt.H :∀{p q:Pt},p.A=q.A->p=q:=by
 intro p
 induction p with
 |h=>intro q h;cases q<;>simp[Pt.A]at h<;>first|rfl|omega
 |a p e=>intro q h;cases q<;>simp[Pt.A]at h<;>first|exact congrArg Pt.a (e (by omega))|omega
 |b p e=>intro q h;cases q<;>simp[Pt.A]at h<;>first|exact congrArg Pt.b (e (by omega))|omega
 |c p e=>intro q h;cases q<;>simp[Pt.A]at h<;>first|exact congrArg Pt.c (e (by omega))|omega
 |d p e=>intro q h;cases q<;>simp[Pt.A]at h<;>first|exact congrArg Pt.d (e (by omega))|omega
@[simp] theorem Tr.F (p:Pt):Tr.A p .e= .none:=by cases p<;>rfl
theorem Tr.D (p:Pt):∀(r:Row) (t:Tr),Tr.A p (Tr.B p r t)=r:=by
 induction p with
 |h=>intro r t;cases t<;>rfl
 |a p e=>intro r t;cases t<;>simp[Tr.B,Tr.A,e]
 |b p e=>intro r t;cases t<;>simp[Tr.B,Tr.A,e]
 |c p e=>intro r t;cases t<;>simp[Tr.B,Tr.A,e]
 |d p e=>intro r t;cases t<;>simp[Tr.B,Tr.A,e]
theorem Tr.G (p:Pt):∀(q:Pt) (r:Row) (t:Tr),q≠p->Tr.A q (Tr.B p r t)=Tr.A q t:=by
 induction p with
 |h=>intro q r t f;cases q<;>cases t<;>first|rfl|grind|simp[Tr.B,Tr.A,Tr.F]
 |a p g=>intro q r t f;cases q<;>cases t<;>first|rfl|(simp[Tr.B,Tr.A,Tr.F];first|done|(rw[g _ _ _ (fun e=>f (by rw[e]))];first|done|simp[Tr.F]))
 |b p g=>intro q r t f;cases q<;>cases t<;>first|rfl|(simp[Tr.B,Tr.A,Tr.F];first|done|simp_all)
 |c p g=>intro q r t f;cases q<;>cases t<;>first|rfl|(simp[Tr.B,Tr.A,Tr.F];first|done|simp_all)
 |d p g=>intro q r t f;cases q<;>cases t<;>first|rfl|(simp[Tr.B,Tr.A,Tr.F];first|done|simp_all)
def upd {α:Type}(f:Pt->α)(p:Pt)(x:α):Pt->α:=fun q=>if q=p then x else f q
@[simp] theorem JC {α:Type}(f:Pt->α)(p:Pt)(x:α):upd f p x p=x:=by simp[upd]
theorem Jy {α:Type}(f:Pt->α){p q:Pt}(x:α)(h:q≠p):upd f p x q=f q:=by simp[upd,h]
theorem St.F (c:St)(f:Nat->Row):(c.B f).A=upd c.A c.b (f c.t):=by
 funext q;by_cases h:q=c.b
 ·subst h;simp[St.A,St.B,Tr.D]
 ·simp[St.A,St.B,Tr.G _ _ _ _ h,Jy _ _ h]
theorem St.G (st:St)(p:Pt)(t:Nat)(f:Nat->Row):(st.D p t f).A=upd st.A p (f st.t):=by
 funext q;by_cases h:q=p
 ·subst h;simp[St.A,St.D,Tr.D]
 ·simp[St.A,St.D,Tr.G _ _ _ _ h,Jy _ _ h]
def Eff.D (st:St)(c:Pt->Row):Eff->Pt->Row
 | .a=>c
 | .b f=>upd c st.b (f st.t)
 | .d r _ f=>upd c r (f st.t)
 | .e r _ f=>upd (upd c r (.c st.t)) st.b (f (st.t+1))
theorem St.I (c:St)(e:Eff):(c.J e).A=e.D c c.A:=by
 cases e with
 |a=>rfl
 |b f=>exact c.F f
 |d r t f=>exact c.G r t f
 |e r t f=>simp[St.J,St.F,St.G,Eff.D];rfl
theorem Jdz (a b:List UInt8):snum (a++b)=snum a+256^a.length*snum b:=by
 induction a with
 |nil=>simp[snum]
 |cons x a c=>simp[snum,c];grind
theorem JlF (a:List UInt8):snum a<256^a.length:=by
 induction a with
 |nil=>simp[snum]
 | cons x a b=>
   simp[snum];have:x.toNat<256:=x.toNat_lt;omega
theorem jb :∀{a b:List UInt8},a.length=b.length->snum a=snum b->a=b
 |[],[],_,_=>rfl
 | x::a,y::b,c,d=>by
   simp[snum]at d;have g:x.toNat<256:=x.toNat_lt;have h:y.toNat<256:=y.toNat_lt;have e:x.toNat=y.toNat:=by omega
   have f:snum a=snum b:=by omega
   rw[UInt8.toNat_inj.1 e,jb (by grind) f]
 |[],_::_,c,_=>by grind
 |_::_,[],c,_=>by grind
theorem JaX (a:List UInt8)(k:Nat):snum a/256^k=snum (a.drop k):=by
 induction k generalizing a with
 |zero=>simp
 | succ k b=>
   cases a with
   |nil=>simp[snum]
   | cons x a=>
     simp only[Hv,<-b a,snum,HI];have c:x.toNat<256:=x.toNat_lt;rw[Z7 (256^k) 256,<-Nat.div_div_eq_div_mul]
     grind
theorem Jgf (a:List UInt8)(k:Nat):snum a%256^k=snum (a.take k):=by
 have h:=Jdz (a.take k) (a.drop k);rw[X4]at h;by_cases c:k<=a.length
 ·have b:(a.take k).length=k:=by simp[c]
  rw[h,b,Nat.add_mul_mod_self_left];have:=JlF (a.take k);rw[b]at this;exact Gv this
 ·have:a.take k=a:=Xt (by omega);rw[this];exact Gv (Zs (JlF a) (Nat.pow_le_pow_right (by decide) (by omega)))
theorem two8 (k:Nat):(2:Nat)^(8*k)=256^k:=by rw[Nat.pow_mul]
theorem JdA (s:ByteArray):jN s.data.toList.length (snum s.data.toList)=s:=by
 have:((List.range s.data.toList.length).map fun i=>UInt8.ofNat (Yi (snum s.data.toList) i))=s.data.toList:=by
  refine ZT (by simp) fun i b a=> ?_;simp;have:=(s.data.toList[i]).toNat_lt;simp only[Yi,Gd,two8,JaX];rw[Xc a];simp only[snum];simp
 unfold jN;rw[this]
theorem Jb2 (a:List UInt8)(b c:Nat):scut (snum a) b c=snum ((a.drop b).take (c-b)):=by
 simp only[scut,Gd,two8,JaX,Jgf]
theorem JlG (a b:List UInt8):scat a.length (snum a) (snum b)=snum (a++b):=by
 simp only[scat,Nat.shiftLeft_eq,two8,Jdz]
 grind
theorem Jb3 (a:List UInt8)(i:Nat)(x:UInt8)(h:a[i]? =some x):Yi (snum a) i=x.toNat:=by
 simp only[Yi,Gd,two8,JaX];have b:i<a.length:=by grind
 rw[Xc b];have:a[i]=x:=by grind
 rw[this];simp only[snum];simp
theorem Jaq :∀(a b:List UInt8),Jeu a.length (snum a) b.length (snum b)=Op.bytesLess a b
 |[],[]=>by rfl
 |[],_::_=>by rfl
 |_::_,[]=>by rfl
 | x::a,y::b=>by
   have c:=Jaq a b;have d:x.toNat<256:=x.toNat_lt;have e:y.toNat<256:=y.toNat_lt;simp only[XF,Jeu,snum,Op.bytesLess];rw[show(x.toNat+256*snum a)%256=x.toNat by omega,show(y.toNat+256*snum b)%256=y.toNat by omega,
    show(x.toNat+256*snum a)/256=snum a by omega,show(y.toNat+256*snum b)/256=snum b by omega,c]
   congr 1;congr 1;rw[Hm];simp[UInt8.toNat_inj]
structure Loc where
 b:Nat
 o:Nat
 e:Nat
abbrev Locs :=Pt->Option Loc
mutual
def R (γ:Locs)(ρ:Nat->Value):V->Value->Prop
 | .h b,v=>v= .bool b
 | .d k n,v=>v= .int k n
 | .t n s,v=>∃x:ByteArray,v= .string x/\x.data.toList.length=n/\snum x.data.toList=s
 | .s,v=>v= .pointer none
 | .g r o,v=>∃l,γ r=some l/\v= .pointer (some ⟨l.b,l.o+o,none⟩)
 | .e,v=>v= .slice none 0 0
 | .w r o n z,v=>∃l a c,γ r=some l/\v= .slice (some a) n c/\n<=c/\(c≠0->a=⟨l.b,l.o+o,none⟩)/\o+c*z<=l.e
 | .m r o n z c,v=>∃l a,γ r=some l/\v= .slice (some a) n c/\n<=c/\(c≠0->a=⟨l.b,l.o+o,none⟩)/\o+c*z<=l.e
 | .u,v=>v= .map none
 | .q r,v=>∃l,γ r=some l/\v= .map (some l.b)
 | .D f a b,v=>∃xs ys:List Value,v= .func (.func f) xs.toArray ys.toArray/\RL γ ρ a xs/\RL γ ρ b ys
 | .x,v=>v= .nilFunc
 | .j l,v=>∃xs:List Value,v= .agg xs.toArray/\RL γ ρ l xs
 | .p l,v=>∃xs:List Value,v= .tuple xs.toArray/\RL γ ρ l xs
 | .y,_=>True
 | .F i,v=>v=ρ i
def RL (γ:Locs)(ρ:Nat->Value):List V->List Value->Prop
 |[],xs=>xs=[]
 |v::vs,xs=>∃y ys,xs=y::ys/\R γ ρ v y/\RL γ ρ vs ys
end
def Ext (γ γ':Locs):Prop:=∀r l,γ r=some l->γ' r=some l
theorem Ext.A (γ:Locs):Ext γ γ:=fun _ _ h=>h
theorem Ext.D {a b c:Locs}(h:Ext a b)(k:Ext b c):Ext a c:=fun r l x=>k r l (h r l x)
mutual
theorem R.A {γ γ':Locs}{ρ:Nat->Value}(h:Ext γ γ'):∀{v:V} {x:Value},R γ ρ v x->R γ' ρ v x
 | .h _,_,k=>k
 | .d _ _,_,k=>k
 | .t _ _,_,k=>k
 | .s,_,k=>k
 | .g _ _,_,⟨l,a,b⟩=>⟨l,h _ _ a,b⟩
 | .e,_,k=>k
 | .w _ _ _ _,_,⟨l,a,c,k,r⟩=>⟨l,a,c,h _ _ k,r⟩
 | .m _ _ _ _ _,_,⟨l,a,k,r⟩=>⟨l,a,h _ _ k,r⟩
 | .u,_,k=>k
 | .q _,_,⟨l,a,b⟩=>⟨l,h _ _ a,b⟩
 | .D _ _ _,_,⟨f,i,e,a,b⟩=>⟨f,i,e,RL.J h a,RL.J h b⟩
 | .x,_,k=>k
 | .j _,_,⟨f,e,a⟩=>⟨f,e,RL.J h a⟩
 | .p _,_,⟨f,e,a⟩=>⟨f,e,RL.J h a⟩
 | .y,_,_=>trivial
 | .F _,_,k=>k
theorem RL.J {γ γ':Locs}{ρ:Nat->Value}(h:Ext γ γ'):∀{v:List V} {x:List Value},RL γ ρ v x->RL γ' ρ v x
 |[],_,k=>k
 |_::_,_,⟨y,c,e,a,b⟩=>⟨y,c,e,R.A h a,RL.J h b⟩
end
section
variable {γ : Locs} {ρ : Nat -> Value}
theorem RL.A :∀{l:List V} {a:List Value},RL γ ρ l a->a.length=l.length
 |[],_,h=>by simp[RL]at h;grind
 |_::_,_,⟨_,_,e,_,b⟩=>by subst e;simp[RL.A b]
theorem RL.H :∀{l:List V} {c:List Value},RL γ ρ l c->∀{i:Nat} {v:V},l[i]? =some v->∃x,c[i]? =some x/\R γ ρ v x
 |[],_,_,i,v,h=>by simp at h
 |_::_,_,⟨y,d,e,a,b⟩,0,v,h=>by grind
 |_::_,_,⟨y,d,e,a,b⟩,i+1,v,h=>by subst e;simpa using RL.H b (by grind)
theorem RL.D :∀{a:List V} {d:List Value} {b:List V} {c:List Value},RL γ ρ a d->RL γ ρ b c->RL γ ρ (a++b) (d++c)
 |[],_,_,_,h,k=>by simp[RL]at h;grind
 |_::_,_,_,_,⟨y,c,e,a,b⟩,k=>by subst e;exact⟨y,c++_,rfl,a,RL.D b k⟩
theorem RL.I :∀{l:List V} {xs:List Value} (n:Nat),RL γ ρ l xs->RL γ ρ (l.take n) (xs.take n)
 |[],_,n,h=>by simp[RL]at h;subst h;simp[RL]
 |_::_,_,0,_=>by rfl
 |_::_,_,n+1,⟨y,c,e,a,b⟩=>by subst e;exact⟨y,c.take n,rfl,a,RL.I n b⟩
theorem RL.G :∀{l:List V} {c:List Value} (n:Nat),RL γ ρ l c->RL γ ρ (l.drop n) (c.drop n)
 |[],_,n,h=>by simp[RL]at h;subst h;simp[RL]
 |_::_,_,0,h=>by grind
 |_::_,_,n+1,⟨y,d,e,a,b⟩=>by subst e;simpa using RL.G n b
theorem RL.mk :∀{l:List V} {a:List Value},a.length=l.length->(∀(i:Nat) (v:V) (x:Value),l[i]? =some v->a[i]? =some x->R γ ρ v x)->RL γ ρ l a
 |[],a,h,_=>by simp[RL];grind
 |v::l,[],h,_=>by simp at h
 |v::l,x::a,h,k=>⟨x,a,rfl,k 0 v x rfl rfl,RL.mk (by grind) fun i v x b c=>k (i+1) v x (by grind) (by grind)⟩
theorem RL.B {l:List V}{a:List Value}(h:RL γ ρ l a):∀n,RL γ ρ (List.replicate n l).flatten (List.replicate n a).flatten
 |0=>by rfl
 |n+1=>by simp only[ZR,Zf];exact RL.D h (RL.B h n)
theorem R.B {x:Value}{v:V}(h:ofVal1 x=some v):R γ ρ v x:=by
 unfold Eva.ofVal1 at h
 split at h<;>first|(injection h with h;subst h;rfl)|(injection h with h;subst h;exact⟨_,rfl,rfl,rfl⟩)|cases h
theorem RL.F :∀{a:List Value} {l:List V},a.mapM Eva.ofVal1=some l->RL γ ρ l a
 |[],l,h=>by simp at h;subst h;rfl
 | x::a,l,h=>by
   rw[Zt]at h
   cases b:Eva.ofVal1 x with
   |none=>grind
   | some v=>
     cases c:a.mapM Eva.ofVal1 with
     |none=>grind
     |some d=>simp[b,c]at h;subst h;exact⟨x,a,rfl,R.B b,RL.F c⟩
theorem R.D {v:V}(h:ofVal e=some v):R γ ρ v e:=by
 unfold Eva.ofVal at h
 split at h
 ·rename_i a
  cases b:a.toList.mapM Eva.ofVal1 with
  |none=>grind
  |some c=>simp[b]at h;subst h;exact⟨a.toList,by simp,RL.F b⟩
 ·rename_i a
  cases b:a.toList.mapM Eva.ofVal1 with
  |none=>grind
  |some c=>simp[b]at h;subst h;exact⟨a.toList,by simp,RL.F b⟩
 ·exact R.B h
end
def Qu (γ:Locs)(ρ:Nat->Value)(l:Loc)(row:Row)(w:World):Prop:=
 match row with
 | .none=>True
 | .a _ xs=>∃arr elem fz,w.heap[l.b]? =some (.cells arr elem fz)/\l.o+l.e<=arr.size/\xs.length<=l.e/\
    (∀i v,xs[i]? =some v->∃x,arr[l.o+i]? =some x/\R γ ρ v x)/\(∀i,i<l.e->¬(fz.1<=l.o+i/\l.o+i<fz.2))
 | .c _=>True
 | .b _ es=>∃ents,w.heap[l.b]? =some (.map ents es.length)/\ents.size=es.length/\
    ∀i k v,es[i]? =some (k,v)->∃e:MapEntry,ents[i]? =some e/\R γ ρ k e.key/\R γ ρ v e.val/\e.born=i
 | .e _ n v pos=>∃s:ByteArray,w.heap[l.b]? =some (.stringIter s pos)/\s.data.toList.length=n/\snum s.data.toList=v
 | .d _ m n0 cnt=>∃mm seen,w.heap[l.b]? =some (.mapIter mm n0 seen n0)/\seen.size=cnt/\seen.toList.Nodup/\(∀b∈seen.toList,b<n0)/\
    match m with
    |none=>mm=none
    |some r=>∃lm,γ r=some lm/\mm=some lm.b
 | .f xs=>∀i v,xs[i]? =some v->∃arr elem fz x,w.heap[l.b]? =some (.cells arr elem fz)/\arr[l.o+i]? =some x/\R γ ρ v x
def Row.B :Row->Prop
 | .none=>False
 | .c _=>False
 | .f _=>False
 |_=>True
def Row.F :Row->Bool
 | .f _=>true
 |_=>false
def JkI (l q:Loc):Prop:=l.b≠q.b\/l.o+l.e<=q.o\/q.o+q.e<=l.o
structure Bs where
 n:Nat
 w:World
structure Rel (γ:Locs) (ρ:Nat->Value) (base:Bs) (c:Pt->Row) (w:World):Prop where
 y:base.n<=w.heap.size
 j:∀b,b<base.n->w.heap[b]? =base.w.heap[b]?
 d:∀r l,γ r=some l->((c r).F=false->base.n<=l.b)/\l.b<w.heap.size
 f:∀r,c r≠ .none->∃l,γ r=some l/\Qu γ ρ l (c r) w
 z:∀r l,γ r=some l->(match c r with| .b ..=>True| .e ..=>True| .d ..=>True|_=>False)->0<l.e/\l.o=0
 B:∀r q lr lq,r≠q->γ r=some lr->γ q=some lq->(c r).B->(c q).B->JkI lr lq
 H:∀r l,γ r=some l->(c r).F=true->l.b<base.n
theorem Qu.A {γ γ':Locs}{ρ:Nat->Value}{l:Loc}{p:Row}{w w':World}(h:Ext γ γ')(y:w'.heap[l.b]? =w.heap[l.b]?)(k:Qu γ ρ l p w):Qu γ' ρ l p w':=by
 cases p with
 |none=>trivial
 |c _=>trivial
 | a t N=>
   obtain⟨q,g,L,j,o,u,M,K⟩:=k;exact⟨q,g,L,y.trans j,o,u,fun i v z=>let⟨x,O,P⟩:=M i v z;⟨x,O,P.A h⟩,K⟩
 | b t X=>
   obtain⟨J,j,o,u⟩:=k;exact⟨J,y.trans j,o,fun i k v z=>let⟨e,Q,a,b,c⟩:=u i k v z;⟨e,Q,a.A h,b.A h,c⟩⟩
 | e t n v S=>
   obtain⟨s,j,o⟩:=k;exact⟨s,y.trans j,o⟩
 | d t m Y T=>
   obtain⟨U,seen,j,o,u,M,K⟩:=k;refine⟨U,seen,y.trans j,o,u,M, ?_⟩
   cases m with
   |none=>exact K
   |some r=>obtain⟨W,a,b⟩:=K;exact⟨W,h _ _ a,b⟩
 | f N=>
   intro i v z;obtain⟨q,g,L,x,j,o,u⟩:=k i v z;exact⟨q,g,L,x,y.trans j,o,u.A h⟩
section
variable {P : Program} {γ : Locs} {ρ : Nat -> Value} {base : Bs} {c : Pt -> Row} {w : World}
theorem Y1 (b o n:Nat):Addr.add ⟨b,o,none⟩ n=⟨b,o+n,none⟩:=by
 unfold Addr.add;simp
theorem Jf {d:TypeDesc}(h:P.underlying s=some d):(underlying s).run P w= .ok d w:=by
 simp[underlying,h]
theorem QY {i:TypeInfo}(h:P.info? s=some i):(typeInfo s).run P w= .ok i w:=by
 simp[typeInfo,h]
theorem JT (h:szT P s=some v):(Go.sizeOf s).run P w= .ok v w:=by
 unfold szT at h
 cases a:P.info? s with
 |none=>grind
 |some i=>simp[a]at h;simp[Go.sizeOf,QY a,h]
theorem jc {g:Bool}(h:Kf P s=some g):(isAgg s).run P w= .ok g w:=by
 unfold Kf at h
 cases a:P.underlying s with
 |none=>grind
 | some d=>
   simp[a]at h;unfold isAgg;simp[Sem.run_bind,Jf a,Result.andThen_ok];subst h
   cases d<;>rfl
theorem Rel.A {w':World}(h:Rel γ ρ base c w)(e:w'.heap=w.heap):Rel γ ρ base c w':=by
 refine⟨by rw[e];exact h.y,fun b k=>by rw[e];exact h.j b k,fun r l k=>by rw[e];exact h.d r l k,fun r k=> ?_,h.z,h.B,h.H⟩;obtain⟨l,a,b⟩:=h.f r k;exact⟨l,a,b.A (Ext.A _) (by rw[e])⟩
theorem Ext.B {p:Pt}{l:Loc}(h:γ p=none):Ext γ (upd γ p (some l)):=by
 intro r k a;by_cases e:r=p
 ·grind
 ·rw[Jy _ _ e];exact a
def Row.D :Row->Prop
 | .b ..=>True
 | .e ..=>True
 | .d ..=>True
 |_=>False
theorem Rel.F (h:Rel γ ρ base c w){p:Pt}(O:γ p=none){m:Row}{o:Obj}{e:Nat}
  (S:Qu (upd γ p (some ⟨w.heap.size,0,e⟩)) ρ ⟨w.heap.size,0,e⟩ m (w.alloc o)) (P:m.D->0<e) (Q:m.F=false:=by rfl):
  Rel (upd γ p (some ⟨w.heap.size,0,e⟩)) ρ base (upd c p m) (w.alloc o):=by
 have u:Ext γ (upd γ p (some ⟨w.heap.size,0,e⟩)):=Ext.B O;have s:(w.alloc o).heap.size=w.heap.size+1:=World.size_alloc ..;refine⟨by rw[s];have:=h.y;omega,fun b k=>by rw[<-h.j b k];show(w.heap.push o)[b]? =_;rw[Gf,Xa (by have:=h.y;omega)],fun r l k=> ?_,fun r k=> ?_,fun r l i g=> ?_,fun r q v x t i g K L=> ?_,fun r l k g=> ?_⟩
 ·by_cases n:r=p
  ·subst n;rw[JC]at k;injection k with k;subst k;rw[s];exact⟨fun _=>h.y,by simp⟩
  ·rw[Jy _ _ n]at k⊢;have:=h.d r l k;grind
 ·by_cases n:r=p
  ·simp_all
  ·have M:upd c p m r=c r:=Jy _ _ n;rw[M]at k;obtain⟨l,a,b⟩:=h.f r k;rw[M];refine⟨l,u r l a,b.A u ?_⟩;have T:=(h.d r l a).2;show(w.heap.push o)[l.b]? =_
   grind
 ·by_cases n:r=p
  ·subst n;rw[JC]at i g;injection i with i;subst i;exact⟨P (by cases m<;>first|trivial|exact g.elim),rfl⟩
  ·rw[Jy _ _ n]at i g;exact h.z r l i g
 ·by_cases n:r=p
  ·subst n;rw[JC]at i;injection i with i;subst i;rw[Jy _ _ (Ne.symm t)]at g;exact .inl (by have:=(h.d q x g).2;grind)
  ·by_cases N:q=p
   ·subst N;rw[JC]at g;injection g with g;subst g;rw[Jy _ _ n]at i;exact .inl (by have:=(h.d r v i).2;grind)
   ·rw[Jy _ _ n]at i K;rw[Jy _ _ N]at g L;exact h.B r q v x t i g K L
 ·by_cases n:r=p
  ·simp_all
  ·rw[Jy _ _ n]at k g;exact h.H r l k g
abbrev setB (w:World)(b:Nat)(o:Obj):World:={w with heap:=w.heap.setIfInBounds b o}
theorem jZ (h:v<w.heap.size):(setB w v k).heap[v]? =some k:=by
 simp[h]
theorem JhN (h:t≠v):(setB w v k).heap[t]? =w.heap[t]? :=by grind
theorem Below.A {B:Nat}(h:B<=t):Below B w (setB w t k):=
 ⟨rfl,rfl,rfl,by simp,fun a c=>JhN (by omega)⟩
theorem Rel.G (h:Rel γ ρ base c w){p:Pt}{l:Loc}(hp:γ p=some l){row:Row}{L:Array Value}{Y:Nat×Nat}
  (hb:w.heap[l.b]? =some (.cells n s Y)) (hs:L.size=n.size) (Z:∃t xs,c p= .a t xs)
  (ho:∀i,i<l.o\/l.o+l.e<=i->L[i]? =n[i]?) (hr:Qu γ ρ l row (setB w l.b (.cells L s Y))) (hk:¬row.D) (af:row.F=false:=by rfl):
  Rel γ ρ base (upd c p row) (setB w l.b (.cells L s Y)):=by
 obtain⟨t,xs,Z⟩:=Z;have T:=h.d p l hp;have hl:base.n<=l.b/\l.b<w.heap.size:=⟨T.1 (by rw[Z];rfl),T.2⟩
 have N:(c p).B:=by rw[Z];trivial
 refine⟨by grind,fun b k=>by rw[<-h.j b k];grind,fun r k e=> ?_,fun r k=> ?_,fun r k U O=> ?_,fun r q Q lq aa U O a1 a2=> ?_,fun r k U O=> ?_⟩
 ·refine⟨fun hr=> ?_,by simpa[Eva.setB]using(h.d r k e).2⟩;by_cases P:r=p
  ·grind
  ·rw[Jy _ _ P]at hr;exact(h.d r k e).1 hr
 ·by_cases P:r=p
  ·simp_all
  ·rw[Jy _ _ P]at k⊢;obtain⟨Q,a,b⟩:=h.f r k;refine⟨Q,a, ?_⟩;by_cases eb:Q.b=l.b
   ·have W:(c r).B->JkI Q l:=fun al=>h.B r p Q l P a hp al N
    cases M:c r with
    |none=>trivial
    |c _=>trivial
    | a t' X=>
      rw[M]at b W;obtain⟨ad,ab,ag,S,h2,h3,h4,h5⟩:=b;rw[eb,hb]at S;injection S with S;injection S with e1 e2 e3;subst e1;subst e2;subst e3;refine⟨L,s,Y,by grind,by omega,h3,fun i v hv=> ?_,h5⟩;obtain⟨x,hx,hR⟩:=h4 i v hv;have hi:i<X.length:=by grind
      refine⟨x, ?_,hR⟩;rw[ho]
      ·exact hx
      ·rcases W trivial with h6|h6|h6
       ·omega
       ·omega
       omega
    |b t' es=>rw[M]at b;obtain⟨ae,S,_⟩:=b;grind
    |e t' u v ah=>rw[M]at b;obtain⟨K,S,_⟩:=b;grind
    |d t' m n0 ai=>rw[M]at b;obtain⟨mm,seen,S,_⟩:=b;grind
    |f X=>have:=h.H r Q a (by rw[M];rfl);omega
   ·exact b.A (Ext.A _) (JhN eb)
 ·by_cases P:r=p
  ·subst P;rw[JC]at O;exact absurd (by cases row<;>first|trivial|exact O.elim) hk
  ·rw[Jy _ _ P]at O;exact h.z r k U O
 ·have g:∀x,(upd c p row x).B->(c x).B:=fun x hx=>by
   by_cases ex:x=p
   ·grind
   ·rwa [Jy _ _ ex]at hx
  exact h.B r q Q lq aa U O (g r a1) (g q a2)
 ·by_cases P:r=p
  ·simp_all
  ·rw[Jy _ _ P]at O;exact h.H r k U O
theorem Rel.D (h:Rel γ ρ base c w){p:Pt}{l:Loc}(U:γ p=some l){N:Row}{o:Obj}
  (t:(c p).D) (Z:Qu γ ρ l N (setB w l.b o)) (ae:N.F=false:=by rfl):
  Rel γ ρ base (upd c p N) (setB w l.b o):=by
 have T:=h.d p l U;have hl:base.n<=l.b/\l.b<w.heap.size:=⟨T.1 (by cases s:c p<;>rw[s]at t<;>first|rfl|exact t.elim),T.2⟩
 have O:(c p).B:=by cases s:c p<;>rw[s]at t<;>first|trivial|exact t.elim
 have ad:=h.z p l U (by cases s:c p<;>rw[s]at t<;>first|trivial|exact t.elim);refine⟨by grind,fun b k=>by rw[<-h.j b k];grind,fun r k e=> ?_,fun r k=> ?_,fun r k M u=> ?_,fun r q Q lq aa M u a1 a2=> ?_,fun r k M u=> ?_⟩
 ·refine⟨fun Z=> ?_,by simpa[Eva.setB]using(h.d r k e).2⟩;by_cases P:r=p
  ·grind
  ·rw[Jy _ _ P]at Z;exact(h.d r k e).1 Z
 ·by_cases P:r=p
  ·simp_all
  ·rw[Jy _ _ P]at k⊢;obtain⟨Q,a,b⟩:=h.f r k;refine⟨Q,a, ?_⟩;by_cases eb:Q.b=l.b
   ·have W:∀S K fz,w.heap[l.b]?≠some (.cells S K fz):=by
     intro S K fz e;obtain⟨l',M,u⟩:=h.f p (fun e=>by rw[e]at t;exact t);rw[U]at M;injection M with M;subst M
     cases s:c p with
     |none=>rw[s]at t;exact t
     |c _=>rw[s]at t;exact t
     |a _ _=>rw[s]at t;exact t
     |b _ _=>rw[s]at u;obtain⟨_,k3,_⟩:=u;grind
     |e _ _ _ _=>rw[s]at u;obtain⟨_,k3,_⟩:=u;grind
     |d _ _ _ _=>rw[s]at u;obtain⟨_,_,k3,_⟩:=u;grind
     |f _=>rw[s]at t;exact t
    have i:(c r).D->False:=by
     intro X;have h1:=h.z r Q a (by cases s:c r<;>rw[s]at X<;>first|trivial|exact X.elim);have Y:=h.B r p Q l P a U (by cases s:c r<;>rw[s]at X<;>first|trivial|exact X.elim) O;rcases Y with Y|Y|Y
     ·omega
     ·omega
     ·omega
    cases L:c r with
    |none=>grind
    |c _=>trivial
    |a t' ab=>rw[L]at b;obtain⟨S,K,fz,h1,_⟩:=b;grind
    |b t' es=>rw[L]at i;exact(i trivial).elim
    |e t' n v af=>rw[L]at i;exact(i trivial).elim
    |d t' m n0 ag=>rw[L]at i;exact(i trivial).elim
    |f ab=>have:=h.H r Q a (by rw[L];rfl);omega
   ·exact b.A (Ext.A _) (JhN eb)
 ·by_cases P:r=p
  ·grind
  ·rw[Jy _ _ P]at u;exact h.z r k M u
 ·have g:∀x,(upd c p N x).B->(c x).B:=fun x s=>by
   by_cases ex:x=p
   ·grind
   ·rwa [Jy _ _ ex]at s
  exact h.B r q Q lq aa M u (g r a1) (g q a2)
 ·by_cases P:r=p
  ·simp_all
  ·rw[Jy _ _ P]at u;exact h.H r k M u
end
section
variable {P : Program} {γ : Locs} {ρ : Nat -> Value} {base : Bs} {c : Pt -> Row} {w : World}
theorem JhO (h:w.heap[v]? =some (.cells n s z)):w.cell? ⟨v,t,none⟩=n[t]? :=by
 simp[World.cell?,h]
theorem Jnm (h:w.heap[v]? =some (.cells n s z)):w.frozen? ⟨v,t,none⟩=(decide (z.1<=t)&&decide (t<z.2)):=by
 simp[World.frozen?,h]
theorem Jb4 {l:Loc}{e:List V}(h:Qu γ ρ l (.a v e) w){n:Nat}(K:t+n<=e.length):
  ∃g:List Value,RL γ ρ ((e.drop t).take n) g/\(loadCells ⟨l.b,l.o+t,none⟩ n).run P w= .ok g.toArray w:=by
 obtain⟨d,k,L,q,M,N,O,_⟩:=h;have m:∀j,j<n->∃c x,e[t+j]? =some c/\d[l.o+t+j]? =some x/\R γ ρ c x:=fun j p=>by
  have r:e[t+j]? =some (e[t+j]'(by omega)):=Xg (by omega)
  grind
 refine⟨(List.range n).map fun j=>d.getD (l.o+t+j) undef, ?_, ?_⟩
 ·refine RL.mk (by grind) fun i c x r Q=> ?_;have s:i<n:=by grind
  obtain⟨u,y,z,f,J⟩:=m i s
  simp_all
 ·refine run_loadCells w _ n (fun j=>d.getD (l.o+t+j) undef) fun j p=> ?_;obtain⟨u,y,z,f,J⟩:=m j p;rw[Y1,JhO q,f];simp[f]
theorem Jc4 {l:Loc}{c:List V}(h:Qu γ ρ l (.f c) w)(y:v+t<=c.length):
  ∃e:List Value,RL γ ρ ((c.drop v).take t) e/\(loadCells ⟨l.b,l.o+v,none⟩ t).run P w= .ok e.toArray w:=by
 have m:∀j,j<t->∃a x,c[v+j]? =some a/\w.cell? ⟨l.b,l.o+v+j,none⟩=some x/\R γ ρ a x:=fun j g=>by
  have d:c[v+j]? =some (c[v+j]'(by omega)):=Xg (by omega);obtain⟨p,k,z,x,q,r,s⟩:=h _ _ d;exact⟨_,x,d,by rw[JhO q,ZZ];exact r,s⟩
 refine⟨(List.range t).map fun j=>(w.cell? ⟨l.b,l.o+v+j,none⟩).getD undef, ?_, ?_⟩
 ·refine RL.mk (by grind) fun i a x d J=> ?_
  grind
 ·refine run_loadCells w _ t (fun j=>(w.cell? ⟨l.b,l.o+v+j,none⟩).getD undef) fun j g=> ?_;obtain⟨K,L,M,u,N⟩:=m j g;rw[Y1,u];rfl
theorem Jaf (b:Kf P s=some true)(c:szT P s=some v){a:Addr}(h:(loadCells a v).run P w= .ok n w):
  (loadVar s a).run P w= .ok (.agg n) w:=by
 simp[loadVar,jc b,JT c,h]
theorem Jag (b:Kf P s=some false){a:Addr}(h:(load a).run P w= .ok e w):
  (loadVar s a).run P w= .ok e w:=by
 simp only[loadVar,Sem.run_bind,jc b,Result.andThen_ok,ZC,X8,h]
theorem Jgg {v:V}(d:∀i,(ρ i).oneCell'=true)(b:v.B=true)(h:R γ ρ v e):e.oneCell'=true:=by
 cases v<;>simp[V.B]at b<;>simp[R]at h
 ·subst h;rfl
 ·subst h;rfl
 ·obtain⟨e,h,_⟩:=h;subst h;rfl
 ·subst h;rfl
 ·obtain⟨l,_,h⟩:=h;subst h;rfl
 ·subst h;rfl
 ·obtain⟨l,a,c,_,h,_⟩:=h;subst h;rfl
 ·obtain⟨l,a,_,h,_⟩:=h;subst h;rfl
 ·subst h;rfl
 ·obtain⟨l,_,h⟩:=h;subst h;rfl
 ·obtain⟨f,g,h,_⟩:=h;subst h;rfl
 ·subst h;rfl
 grind
theorem Jb5 (h:w.heap[v]? =some (.cells n s z)):
  w.setCell ⟨v,t,none⟩ e=setB w v (.cells (n.setIfInBounds t e) s z):=by
 have a:v<w.heap.size:=(Xy.1 h).1;have c:w.heap[v]= .cells n s z:=(Xy.1 h).2;unfold World.setCell Eva.setB;congr 1
 grind
theorem Jnn {a:Obj}:setB (setB w v k) v a=setB w v a:=by simp
theorem Jno (h:w.heap[v]? =some k):setB w v k=w:=by
 unfold Eva.setB;have a:v<w.heap.size:=(Xy.1 h).1;have c:w.heap[v]=k:=(Xy.1 h).2;have:w.heap.setIfInBounds v k=w.heap:=by grind
 rw[this]
theorem Ys {b o:Nat}{elem:TypeId}{fz:Nat×Nat}:∀(d:List Value) (i:Nat) (w:World) (a:Array Value),
  w.heap[b]? =some (.cells a elem fz)->o+i+d.length<=a.size->(∀j,j<d.length->¬(fz.1<=o+i+j/\o+i+j<fz.2))->(∀v∈d,v.oneCell'=true)->
  ∃c:Array Value,c.size=a.size/\(∀j,j<o+i\/o+i+d.length<=j->c[j]? =a[j]?)/\(∀(j:Nat) (v:Value),d[j]? =some v->c[o+i+j]? =some v)/\
   (storeCells ⟨b,o,none⟩ d i).run P w= .ok () (setB w b (.cells c elem fz))
 |[],i,w,a,h,_,_,_=>⟨a,rfl,fun _ _=>rfl,fun j v r=>by grind,by rw[Jno h];rfl⟩
 | v::d,i,w,a,h,s,g,k=>by
   have m:o+i<a.size:=by grind
   have t:b<w.heap.size:=(Xy.1 h).1;have e:(w.setCell ⟨b,o+i,none⟩ v).heap[b]? =some (.cells (a.setIfInBounds (o+i) v) elem fz):=by rw[Jb5 h];grind
   obtain⟨c,u,y,z,n⟩:=Ys (b:=b) (o:=o) (elem:=elem) (fz:=fz) d (i+1) (w.setCell ⟨b,o+i,none⟩ v) (a.setIfInBounds (o+i) v) e (by grind)
    (fun j p=>by have:=g (j+1) (by grind);omega) (fun x l=>k x (by simp[l]))
   refine⟨c,by grind,fun j p=> ?_,fun j x l=> ?_, ?_⟩
   ·grind
   ·grind
   ·have f:w.frozen? ⟨b,o+i,none⟩=false:=by
     rw[Jnm h];have:=g 0 (by simp)
     grind
    have q:w.cell? ⟨b,o+i,none⟩=some a[o+i]:=by rw[JhO h];simp
    simp only[storeCells,Sem.run_bind,Y1,run_store P w _ v _ (k v (by simp)),q,f,ZC,X8,Result.andThen_ok,n];rw[Jb5 h,Jnn]
theorem Jbh {l a:List V}(h:v+a.length<=l.length):(Jw l v a).length=l.length:=by
 simp[Jw];omega
theorem JkJ {l b:List V}(h:v+b.length<=l.length){a:V}(c:(Jw l v b)[t]? =some a):
  (v<=t/\b[t-v]? =some a)\/((t<v\/v+b.length<=t)/\l[t]? =some a):=by
 unfold Jw at c;by_cases d:t<v
 ·grind
 ·by_cases e:t<v+b.length
  ·grind
  ·right;rw[X3 (by grind),ZY]at c
   grind
theorem jP (hρ:∀i,(ρ i).oneCell'=true)(h:Rel γ ρ base c w){p:Pt}{l:Loc}(y:γ p=some l){u:Nat}{J m:List V}(K:c p= .a v J){o:Nat}
  (T:o+m.length<=J.length) (L:Kc m=true)  (M:RL γ ρ m b):
  ∃N,(storeCells ⟨l.b,l.o+o,none⟩ b).run P w= .ok () N/\Rel γ ρ base (upd c p (.a u (Jw J o m))) N/\Below base.n w N:=by
 obtain⟨l',z,U⟩:=h.f p (by grind);rw[y]at z;injection z with z;subst z;rw[K]at U;obtain⟨O,k,W,X,h2,h3,h4,Y⟩:=U;have Z:=M.A;have hb:l.b<w.heap.size:=(h.d p l y).2;obtain⟨q,e1,e2,e3,e4⟩:=Ys (P:=P) (b:=l.b) (o:=l.o+o) (elem:=k) (fz:=W) b 0 w O X (by omega)
  (fun j hj=>by have:=Y (o+j) (by omega);omega)
  (fun g Q=>by
   obtain⟨i,hi⟩:=Gs.1 Q;have r:i<m.length:=by grind
   have S:m[i]? =some m[i]:=Xg r;obtain⟨x,s,hr⟩:=M.H S;rw[hi]at s;injection s with s;subst s;exact Jgg hρ (Ze.1 L _ (Xh r)) hr)
 simp at e2 e3;refine⟨_,e4,h.G y X e1 ⟨_,_,K⟩ (fun i hi=>e2 i (by omega)) ⟨q,k,W,jZ hb,by omega,by rw[Jbh T];exact h3,fun i g Q=> ?_,Y⟩ (by intro e;exact e),
  Below.A ((h.d p l y).1 (by rw[K];rfl))⟩
 rcases JkJ T Q with⟨h6,h7⟩|⟨h6,h7⟩
 ·obtain⟨x,s,hr⟩:=M.H h7
  grind
 grind
end
def FR (γ:Locs)(ρ:Nat->Value)(fr:Fr)(a:Act):Prop:=∀i,R γ ρ (fr i) (a.tmps.getD i undef)
def Eff.A :Eff->Bool
 | .b _=>true
 | .e _ _ _=>true
 |_=>false
def Full (γ:Locs)(c:Pt->Row)(st:St):Prop:=∀r,γ r≠none->st.A r≠ .none->c r=st.A r
def Jah (γ:Locs)(c:Pt->Row)(st:St)(fr:Fr)(i:Iop):Prop:=
 match i.B with
 |none=>Full γ c st
 |some l=>∀s∈l,∀r,rowOf (fr s)=some r->γ r≠none->st.A r≠ .none->c r=st.A r
def JnX (γ:Locs)(ρ:Nat->Value)(v:V)(x:Next):Prop:=(∃y,x= .value y/\R γ ρ v y)\/(x= .skip/\v=JY)
def OpOK (P:Program)(γ:Locs)(ρ:Nat->Value)(base:Bs)(st:St)(c:Pt->Row)(w:World)(v:V)(e:Eff)(s:Sem Next):Prop:=
 ∃x w' γ',s.run P w= .ok x w'/\JnX γ' ρ v x/\Rel γ' ρ base (e.D st c) w'/\Ext γ γ'/\(∀r,γ' r≠none->γ r≠none\/(r=st.b/\e.A=true))/\Below base.n w w'
section
variable {P : Program} {γ : Locs} {ρ : Nat -> Value} {base : Bs} {st : St} {c : Pt -> Row} {w : World} {fr : Fr} {a : Act}
theorem OpOK.A {v:V}{y:Value}{s:Sem Next}(h:Rel γ ρ base c w)(b:s.run P w= .ok (.value y) w)(d:R γ ρ v y):OpOK P γ ρ base st c w v .a s:=
 ⟨_,w,γ,b, .inl ⟨y,rfl,d⟩,h,Ext.A _,fun _ k=> .inl k,Below.refl _ _⟩
theorem OpOK.D {v:V}{y:Value}{s:Sem Next}{f:Nat->Row}{o:Obj}{e:Nat}{w':World}(h:Rel γ ρ base c w)(a:γ st.b=none)(i:∃n,w'={w.alloc o with drawn:=n})(j:s.run P w= .ok (.value y) w')
  (l:R (upd γ st.b (some ⟨w.heap.size,0,e⟩)) ρ v y) (m:Qu (upd γ st.b (some ⟨w.heap.size,0,e⟩)) ρ ⟨w.heap.size,0,e⟩ (f st.t) (w.alloc o)) (p:(f st.t).D->0<e) (d:(f st.t).F=false:=by rfl):
  OpOK P γ ρ base st c w v (.b f) s:=by
 obtain⟨n,rfl⟩:=i;refine⟨_,_,_,j, .inl ⟨y,rfl,l⟩,(h.F a m p d).A rfl,Ext.B a,fun r k=> ?_, ?_⟩
 ·by_cases g:r=st.b
  ·exact .inr ⟨g,rfl⟩
  ·rw[Jy _ _ g]at k;grind
 ·have:=(Below.refl base.n w).alloc h.y o;exact⟨this.os,this.tape,this.output,this.size,this.block⟩
theorem Jk {x:Operand}{y:Opd}(h:opd x=some y)(b:FR γ ρ fr a):R γ ρ (y.A fr) (a.eval x):=by
 cases x with
 |tmp t=>simp[opd]at h;subst h;exact b t
 | const v=>
   simp[opd]at h
   cases c:ofVal v with
   |none=>grind
   |some z=>simp[c]at h;subst h;exact R.D c
 |global g=>simp[opd]at h
 |func f=>simp[opd]at h;subst h;exact⟨[],[],rfl,by rfl,by rfl⟩
theorem Jiu {v:V}(h:ofVal e=some v):rowOf v=none:=by
 unfold ofVal at h
 split at h
 ·rename_i a;cases b:a.toList.mapM ofVal1 with
  |none=>grind
  |some c=>simp[b]at h;subst h;rfl
 ·rename_i a;cases b:a.toList.mapM ofVal1 with
  |none=>grind
  |some c=>simp[b]at h;subst h;rfl
 ·unfold ofVal1 at h
  split at h<;>first|(injection h with h;subst h;rfl)|cases h
theorem JqI {x:Operand}{y:Opd}(h:opd x=some y){r:Pt}(a:rowOf (y.A fr)=some r):∃s,y.B=[s]/\y.A fr=fr s:=by
 cases x with
 |tmp t=>simp[opd]at h;subst h;exact⟨t,rfl,rfl⟩
 | const v=>
   simp[opd]at h
   cases b:ofVal v with
   |none=>grind
   |some z=>simp[b]at h;subst h;rw[show(Opd.c z).A fr=z from rfl,Jiu b]at a;cases a
 |global g=>simp[opd]at h
 |func f=>simp[opd]at h;subst h;simp[Opd.A,rowOf]at a
theorem Jnp {l:List Operand}:∀{c:List Opd},l.mapM opd=some c->FR γ ρ fr a->RL γ ρ (evs fr c) (l.map a.eval):=by
 induction l with
 |nil=>intro c h _;simp at h;subst h;rfl
 | cons x l f=>
   intro c h b;rw[Zt]at h
   cases d:opd x with
   |none=>grind
   | some v=>
     cases e:l.mapM opd with
     |none=>grind
     |some g=>simp[d,e]at h;subst h;exact⟨a.eval x,_,rfl,Jk d b,f e b⟩
theorem Jew {l:Array Operand}{c:List Opd}(h:opds l=some c)(b:FR γ ρ fr a):RL γ ρ (evs fr c) (l.map a.eval).toList:=by
 rw[Z8];exact Jnp h b
theorem Jar (N:∀i,(ρ i).oneCell'=true){v:V}{L:List V}{x:Value}(h:v.A=some L)(J:R γ ρ v x):RL γ ρ L x.cells.toList:=by
 have K:∀{u:V} {y:Value},R γ ρ u y->(∀z,y≠ .agg z)->RL γ ρ [u] y.cells.toList:=by
  intro u y O S
  cases y<;>first|exact⟨_,[],rfl,O,by rfl⟩|grind
 cases v with
 |j l=>simp[V.A]at h;subst h;obtain⟨P,e,k⟩:=J;subst e;simpa[Value.cells]using k
 |y=>simp[V.A]at h
 | F i=>
   simp[V.A]at h;subst h;refine K J fun z e=> ?_;have Q:x=ρ i:=J;have M:=N i;rw[<-Q,e]at M;simp[Value.oneCell']at M
 |p l=>simp[V.A]at h;subst h;refine K J fun z e=> ?_;subst e;obtain⟨P,e,_⟩:=J;cases e
 |h b=>simp[V.A]at h;subst h;refine K J fun z e=> ?_;subst e;simp[R]at J
 |d k n=>simp[V.A]at h;subst h;refine K J fun z e=> ?_;subst e;simp[R]at J
 |t m n=>simp[V.A]at h;subst h;refine K J fun z e=> ?_;subst e;simp[R]at J
 |s=>simp[V.A]at h;subst h;refine K J fun z e=> ?_;subst e;simp[R]at J
 |g r o=>simp[V.A]at h;subst h;refine K J fun z e=> ?_;subst e;simp[R]at J
 |e=>simp[V.A]at h;subst h;refine K J fun z e=> ?_;subst e;simp[R]at J
 |w r o n z=>simp[V.A]at h;subst h;refine K J fun z e=> ?_;subst e;simp[R]at J
 |m r o n z c=>simp[V.A]at h;subst h;refine K J fun z e=> ?_;subst e;simp[R]at J
 |u=>simp[V.A]at h;subst h;refine K J fun z e=> ?_;subst e;simp[R]at J
 |q r=>simp[V.A]at h;subst h;refine K J fun z e=> ?_;subst e;simp[R]at J
 |D f a b=>simp[V.A]at h;subst h;refine K J fun z e=> ?_;subst e;simp[R]at J
 |x=>simp[V.A]at h;subst h;refine K J fun z e=> ?_;subst e;simp[R]at J
theorem JaY {c:List V}{γ':Locs}(d:RL γ' ρ c n.toList)(f:t=n.size):
  Qu γ' ρ ⟨w.heap.size,0,t⟩ (.a v c) (w.alloc (.cells n s)):=by
 subst f;have g:=d.A;simp at g;refine⟨n,s,(0,0), ?_,by simp,by grind,fun i b h=> ?_,fun i _=>by simp⟩
 ·show(w.heap.push _)[w.heap.size]? =_;simp
 ·obtain⟨x,j,k⟩:=d.H h
  grind
theorem KY {a:List V}(h:Ky P s=some a):∃z,(∀w,(zeroValue s).run P w= .ok z w)/\∀γ,RL γ ρ a z.cells.toList:=by
 unfold Ky at h
 cases b:P.info? s with
 |none=>grind
 | some i=>
   cases c:i.zero with
   |none=>grind
   | some z=>
     simp[b,c]at h;exact⟨z,fun w=>by simp[zeroValue,QY b,c],fun γ=>RL.F h⟩
theorem Jex {z:V}(h:Jge P s=some z):∃x,(∀w,(zeroValue s).run P w= .ok x w)/\∀γ,R γ ρ z x:=by
 unfold Jge at h
 cases a:P.info? s with
 |none=>grind
 | some i=>
   cases b:i.zero with
   |none=>grind
   | some x=>
     simp[a,b]at h;exact⟨x,fun w=>by simp[zeroValue,QY a,b],fun γ=>R.D h⟩
theorem Jby (t:TypeId)(a:Array Value):(newRow t a).run P w= .ok ⟨w.heap.size,0,none⟩ (w.alloc (.cells a t)):=rfl
theorem JnY {i:List V}(h:Ky P s=some i)(d:Rel γ ρ base c w)(f:γ st.b=none):
  OpOK P γ ρ base st c w (.g st.b 0) (.b fun s=> .a s i) (do pure (.value (<-Instr.alloc s true (.tuple #[])))):=by
 obtain⟨z,j,k⟩:=KY (ρ:=ρ) h;refine OpOK.D (o:= .cells z.cells s) (e:=z.cells.size) (w':=w.alloc (.cells z.cells s)) d f ⟨w.drawn,rfl⟩ (y:= .pointer (some ⟨w.heap.size,0,none⟩)) ?_ ⟨_,JC _ _ _,rfl⟩ (JaY (k _) rfl) (fun h=>h.elim);simp[Instr.alloc,j,newVar,Jby]
theorem Js3 (k:∀i,(ρ i).oneCell'=true){v:V}{j:List V}(l:v.A=some j)(m:R γ ρ v e)(d:Rel γ ρ base c w)(f:γ st.b=none):
  OpOK P γ ρ base st c w (.g st.b 0) (.b fun s=> .a s j) (do pure (.value (<-Instr.box s e))):=by
 refine OpOK.D (o:= .cells e.cells s) (e:=e.cells.size) (w':=w.alloc (.cells e.cells s)) d f ⟨w.drawn,rfl⟩ (y:= .pointer (some ⟨w.heap.size,0,none⟩)) ?_ ⟨_,JC _ _ _,rfl⟩ (JaY ((Jar k l m).J (Ext.B f)) rfl) (fun h=>h.elim);rfl
theorem Jnq (a:Array Value)(b:List Value)(o:Nat):∀(k:Nat),(h:o+k+b.length<=a.size)->
  ((b.zipIdx k).foldl (fun a (p:Value×Nat)=>a.setIfInBounds (o+p.2) p.1) a).toList=a.toList.take (o+k)++b++a.toList.drop (o+k+b.length):=by
 induction b generalizing a with
 |nil=>simp
 | cons y b c=>
   intro k h;simp only[List.zipIdx_cons,Zz];rw[c (a.setIfInBounds (o+k) y) (k+1) (by grind)];simp only[Array.toList_setIfInBounds];apply Z3;intro i;simp only[XF]at h;have d:a.toList.length=a.size:=Gg;by_cases f:i<o+k
   ·rw[Za,XG (by grind),Za,XG (by grind)]
    grind
   ·by_cases e:i=o+k
    ·subst e;rw[Za,XG (by grind),Za,X3 (by grind)]
     grind
    ·by_cases g:i<o+k+1+b.length
     ·rw[Za,X3 (by grind),XG (by grind)]
      grind
     ·rw[X3 (by grind),X3 (by grind),ZY,ZY];simp[d]
      grind
theorem qH (J:∀i,(ρ i).oneCell'=true)(b:Nat->Option (Nat×Nat)):∀(l:List (Nat×Operand)) (q:List (Nat×Nat×Opd)) (g c:List V) (d:Array Value),
  parts b l=some q->FR γ ρ fr a->RL γ ρ g d.toList->YZ g (evps fr q)=some c->
  ∃e,Instr.fill b d (l.map fun(i,x)=>(i,a.eval x))=some e/\RL γ ρ c e.toList/\c.length=g.length
 | [],q,g,c,d,h,_,j,f=>by
   simp[parts]at h;subst h;simp[evps,YZ]at f;subst f;exact⟨d,rfl,j,rfl⟩
 | (i,x)::l,q,g,c,d,h,k,j,f=>by
   simp[parts]at h
   cases K:b i with
   |none=>grind
   | some Q=>
     obtain⟨o,n⟩:=Q
     cases L:opd x with
     |none=>grind
     | some y=>
       cases M:parts b l with
       |none=>grind
       | some r=>
         simp[K,L,M]at h;subst h;simp[evps,YZ]at f
         cases N:(y.A fr).A with
         |none=>grind
         | some O=>
           simp only[N]at f
           split at f
           ·rename_i s
            have P:=Jar J N (Jk L k);have t:=P.A;have u:=j.A;simp at t u;have v:o+0+(a.eval x).cells.toList.length<=d.size:=by grind
            have w:=Jnq d (a.eval x).cells.toList o 0 v;have m:RL γ ρ (Jw g o O) (((a.eval x).cells.zipIdx.foldl (fun d (p:Value×Nat)=>d.setIfInBounds (o+p.2) p.1) d).toList):=by
             rw[<-GL,Array.toList_zipIdx,w];simp only[GI,Jw];have z:o+(a.eval x).cells.toList.length=o+O.length:=by grind
             rw[z];exact RL.D (RL.D (j.I _) P) (j.G _)
            obtain⟨e,U,S,T⟩:=qH J b l r _ c _ M k m f;refine⟨e, ?_,S,T.trans (Jbh (by omega))⟩;simp[Instr.fill,K]
            grind
           grind
end
end Eva
