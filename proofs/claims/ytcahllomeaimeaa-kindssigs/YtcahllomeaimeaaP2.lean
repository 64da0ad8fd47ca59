/- Arguments that are types, schemas: opened. A schema turned: one of its elements set. The document's table: in memory, plainly. The document's table: rows of one's own beside it. The document's way to tell which types fit: memory, nodes well made. The document's table made of a schema: what is stored beside its nodes. Types that may be, and small: they are added without fail; their nodes are wel -/
import Derived.Test.YtcahllomeaimeaaP1
import Derived.ChangeArms
set_option linter.unusedVariables false
set_option linter.unusedSimpArgs false
set_option maxRecDepth 100000
namespace Eva
open Go Go.RowKit
section
variable {H : Type} {enc : TypeId × Value -> H} {P : Program} {W : World} {ρ : Nat -> Value}
structure TyTy (P:Program) (t ti tr tn tk:TypeId):Prop where
 ty:∃f0 f1 f2 f3:Field,P.underlying t=some (.struct #[f0,f1,f2,f3])/\(f0.type=ti/\f0.offset=0)/\(f1.type=tr/\f1.offset=1)/\(f2.type=tn/\f2.offset=2)/\(f3.type=tk/\f3.offset=3)
 int:P.underlying ti=some (.int .i64)
 str:P.underlying tr=some .string
 names:P.underlying tn=some (.slice tr)
 kids:P.underlying tk=some (.slice t)
 ct:P.cellsOf t=4
 ci:P.cellsOf ti=1
 cr:P.cellsOf tr=1
 cn:P.cellsOf tn=1
 ck:P.cellsOf tk=1
structure SchTy (P:Program) (ts tts tgs tnm tsg:TypeId) (t ti tr tn tk:TypeId):Prop where
 ty:TyTy P t ti tr tn tk
 sch:∃f0 f1 f2:Field,P.underlying ts=some (.struct #[f0,f1,f2])/\(f0.type=t/\f0.offset=0)/\(f1.type=tts/\f1.offset=4)/\(f2.type=tgs/\f2.offset=5)
 nm:∃f0 f1:Field,P.underlying tnm=some (.struct #[f0,f1])/\(f0.type=tr/\f0.offset=0)/\(f1.type=t/\f1.offset=1)
 sg:∃f0 f1 f2:Field,P.underlying tsg=some (.struct #[f0,f1,f2])/\(f0.type=tr/\f0.offset=0)/\(f1.type=tk/\f1.offset=1)/\(f2.type=t/\f2.offset=2)
 types:P.underlying tts=some (.slice tnm)
 sigs:P.underlying tgs=some (.slice tsg)
 c6:P.cellsOf ts=6
 cts:P.cellsOf tts=1
 cgs:P.cellsOf tgs=1
 c5:P.cellsOf tnm=5
 cs6:P.cellsOf tsg=6
end
end Eva
namespace Eva
open Go Go.RowKit
theorem JhY {e R vs:List V}{off:Nat}(h:off+vs.length<=e.length):splice (e++R) off vs=splice e off vs++R:=by
 rw[Kn,Kn,List.take_append_of_le_length (by omega),List.drop_append_of_le_length h];simp only[List.append_assoc]
theorem Jgd {e R vs:List V}{m:Nat}:splice (e++R) (e.length+m) vs=e++splice R m vs:=by
 rw[Kn,Kn,List.take_append,List.drop_append,List.take_of_length_le (by omega),List.drop_eq_nil_of_le (by omega)]
 rw[show e.length+m-e.length=m by omega,show e.length+m+vs.length-e.length=m+vs.length by omega]
 simp
theorem JhZ {z:Nat}:∀{es:List (List V)},(∀e∈es,e.length=z)->∀{k:Nat} (hk:k<es.length) {off:Nat} {vs:List V},off+vs.length<=z->splice es.flatten (k*z+off) vs=(es.set k (splice es[k] off vs)).flatten
 |[],_,k,hk,_,_,_=>absurd hk (by simp)
 | e::r,hz,k,hk,off,vs,ho=>by
   have he:=hz e (by simp)
   rw[List.flatten_cons]
   cases k with
   | zero=>
     rw[Nat.zero_mul,Nat.zero_add,JhY (by omega)]
     rfl
   | succ k=>
     have ih:=JhZ (es:=r) (fun x hx=>hz x (List.mem_cons_of_mem _ hx)) (k:=k) (by simpa using hk) ho
     rw[show(k+1)*z+off=e.length+(k*z+off) by rw[Nat.succ_mul,he];omega,Jgd,ih]
     rfl
theorem Jnc {S0 S:St}{v:V}{z:Nat}{es:List (List V)}(h:SlF S0 S v z es){k:Nat}(hk:k<es.length):
  ∃r t,rowOf v=some r/\S0.row r= .none/\S.row r= .cells t es.flatten/\iaddrSV z v (.int .i64 (k:Int))=some (.ptr r (k*z), .no)/\es[k].length=z/\
   ∀(S':St) (t' off:Nat) (vs:List V),off+vs.length<=z->S'.row r= .cells t' (splice es.flatten (k*z+off) vs)->SlF S0 S' v z (es.set k (splice es[k] off vs)):=by
 have hz:=h.1
 rcases h.2 with⟨_,rfl⟩|⟨r,t,h1,h2,h3⟩
 ·exact absurd hk (by simp)
 refine⟨r,t, ?_,h1,h2, ?_,hz _ (List.getElem_mem hk),fun S' t' off vs ho hr=>⟨fun e he=> ?_, .inr ⟨r,t',h1, ?_, ?_⟩⟩⟩
 ·rcases h3 with rfl|rfl<;>rfl
 ·rcases h3 with rfl|rfl
  ·rw[YT,if_pos (by omega)];simp
  ·rw[ji,if_pos (by omega)];simp
 ·rcases List.mem_or_eq_of_mem_set he with he|rfl
  ·exact hz e he
  ·rw[Kn]
   have:=hz _ (List.getElem_mem hk)
   simp
   omega
 ·rw[hr,JhZ hz hk ho]
 ·rw[List.length_set];exact h3
section
variable {st S S' : St} {c : List V} {tv sv : V} {s : Sch}
theorem SchF.add (h:SchF st S c tv sv s){v':V}{es':List (List V)}{l':List (Str×Ty)}(hS:∀q,S.row q≠ .none->rowOf tv≠some q->S'.row q=S.row q)(hsl:SlF st S' v' 5 es')(hl:es'.length=l'.length)
  (hel:∀i (h:i<es'.length) (h':i<l'.length),NmC (fun _=>True) S' es'[i] l'[i]):SchC (fun _=>True) S' (c++[v',sv]) ⟨s.main,l',s.sigs⟩:=by
 obtain⟨m,_,⟨gs,g1,g2,g3⟩,ap⟩:=h
 have k:∀q,Own st tv sv q->S.row q≠ .none->True/\S'.row q=S.row q:=fun q p e=>⟨trivial,hS q e p.2.1⟩
 exact⟨c,v',sv,rfl,m.imp k,⟨es',hsl.at.imp fun _ _ _=>⟨trivial,rfl⟩,hl,hel⟩,⟨gs,(g1.keep (st':=S') fun q e=>hS q (g1.some e) fun e2=>ap q e2 e).at.imp fun _ _ _=>⟨trivial,rfl⟩,g2,fun i a b=>(g3 i a b).imp k⟩⟩
theorem SchF.gr (h:SchF st S c tv sv s)(g:Gr S S'):SchF st S' c tv sv s:=by
 obtain⟨m,⟨es,t1,t2,t3⟩,⟨gs,g1,g2,g3⟩,ap⟩:=h
 have k:∀q,Own st tv sv q->S.row q≠ .none->Own st tv sv q/\S'.row q=S.row q:=fun q p e=>⟨p,g.same q e⟩
 exact⟨m.imp k,⟨es,t1.gr g,t2,fun i a b=>(t3 i a b).imp k⟩,⟨gs,g1.gr g,g2,fun i a b=>(g3 i a b).imp k⟩,ap⟩
end
end Eva
namespace Eva
open Go Go.RowKit
structure RT (Sb S:St) (ru:Pt) (lv tv:V) (rest:List V) (O:Pt->Prop) (nodes:List Nd) (trees:List Ty):Prop where
 g:Gr Sb S
 ru0:Sb.row ru= .none
 cell:∃t,S.row ru= .cells t (lv::tv::rest)
 l:∃es,SlF Sb S lv 4 es/\es.length=nodes.length/\∀i (h:i<es.length) (h':i<nodes.length),NdC O S es[i] nodes[i]
 t:∃es,SlF Sb S tv 4 es/\es.length=trees.length/\∀i (h:i<es.length) (h':i<trees.length),TyC (fun r=>Sb.row r≠ .none) S es[i] trees[i]
 apl:∀r,rowOf lv=some r->rowOf tv≠some r/\r≠ru
 apt:∀r,rowOf tv=some r->r≠ru
 o:∀r,O r->S.row r≠ .none/\Sb.row r= .none/\r≠ru/\rowOf lv≠some r/\rowOf tv≠some r
def Bt (ru:Pt)(lv tv:V)(O:Pt->Prop)(r:Pt):Prop:=r=ru\/rowOf lv=some r\/rowOf tv=some r\/O r
structure Kp (B B':Pt->Prop) (st S:St):Prop where
 same:∀r,st.row r≠ .none->¬B r->S.row r=st.row r
 sub:∀r,B' r->B r\/st.row r= .none
theorem Kp.refl (B:Pt->Prop)(st:St):Kp B B st st:=⟨fun _ _ _=>rfl,fun _ h=> .inl h⟩
theorem Kp.gr {B:Pt->Prop}{st S:St}(g:Gr st S):Kp B B st S:=⟨fun r e _=>g.same r e,fun _ h=> .inl h⟩
theorem Kp.dead {B B':Pt->Prop}{st S:St}(h:Kp B B' st S){r:Pt}(e:S.row r= .none):B r\/st.row r= .none:=by
 by_cases b:B r
 ·exact .inl b
 ·exact .inr (Classical.byContradiction fun n=>n ((h.same r n b)▸e))
theorem Kp.trans {B B' B'':Pt->Prop}{st S S':St}(h:Kp B B' st S)(k:Kp B' B'' S S'):Kp B B'' st S':=by
 refine⟨fun r e b=> ?_,fun r e=> ?_⟩
 ·have a:=h.same r e b
  rw[k.same r (by rw[a];exact e) fun x=>(h.sub r x).elim b e,a]
 ·rcases k.sub r e with x|x
  ·exact h.sub r x
  ·exact h.dead x
section
variable {Sb st S S' : St} {ru : Pt} {lv tv lv' tv' lv'' tv'' : V} {rest : List V} {O O' O'' : Pt -> Prop} {nodes : List Nd} {trees : List Ty}
theorem RT.keep (h:RT Sb S ru lv tv rest O nodes trees)(g:Gr Sb S')(k:∀r,r=ru\/rowOf lv=some r\/rowOf tv=some r\/O r->S'.row r=S.row r):RT Sb S' ru lv tv rest O nodes trees:=by
 obtain⟨es,l1,l2,l3⟩:=h.l
 obtain⟨ts,t1,t2,t3⟩:=h.t
 obtain⟨t,c⟩:=h.cell
 refine⟨g,h.ru0,⟨t,by rw[k ru (.inl rfl),c]⟩,⟨es,l1.keep fun r e=>k r (.inr (.inl e)),l2,fun i a b=>(l3 i a b).imp fun r p _=>⟨p,k r (.inr (.inr (.inr p)))⟩⟩,⟨ts,t1.keep fun r e=>k r (.inr (.inr (.inl e))),t2,fun i a b=>(t3 i a b).imp fun r p _=>⟨p,by rw[g.same r p,h.g.same r p]⟩⟩,h.apl,h.apt,fun r p=> ?_⟩
 obtain⟨a,b⟩:=h.o r p
 exact⟨by rw[k r (.inr (.inr (.inr p)))];exact a,b⟩
theorem RT.alive (h:RT Sb S ru lv tv rest O nodes trees):∀r,r=ru\/rowOf lv=some r\/rowOf tv=some r\/O r->S.row r≠ .none:=fun r e=>by
 obtain⟨es,l1,_⟩:=h.l
 obtain⟨ts,t1,_⟩:=h.t
 obtain⟨t,c⟩:=h.cell
 rcases e with rfl|e|e|e
 ·exact Je c
 ·exact l1.some e
 ·exact t1.some e
 ·exact(h.o r e).1
theorem RT.gr (h:RT Sb S ru lv tv rest O nodes trees)(g:Gr S S'):RT Sb S' ru lv tv rest O nodes trees:=h.keep (h.g.trans g) fun r e=>g.same r (h.alive r e)
end
structure TreesOf (nodes:List Nd) (trees:List Ty):Prop where
 len:trees.length=nodes.length
 look:∀i (h:i<trees.length),lookT nodes trees[i]=some i
 fit:∀t∈trees,fitT t=true
 few:nodes.length<=120
theorem TreesOf.nil :TreesOf [] []:=⟨rfl,fun i h=>absurd h (by simp),fun t h=>(nomatch h),Nat.zero_le _⟩
theorem TreesOf.at {nodes:List Nd}{trees:List Ty}(h:TreesOf nodes trees){X:Ty}{i:Nat}(hi:i<trees.length):trees[i]=X<->lookT nodes X=some i:=by
 constructor
 ·intro e;rw[<-e];exact h.look i hi
 ·intro e;exact JhQ (h.look i hi) e
theorem TreesOf.snoc {nodes:List Nd}{trees:List Ty}(h:TreesOf nodes trees){k:Int}{n:Str}{ns:List Str}{ks:List Ty}{ids:List Nat}(hk:looksT nodes ks=some ids)(hn:idx ⟨k,n,ns,ids⟩ nodes 0=none)(hf:fitT (.mk k n ns ks)=true)(hl:nodes.length<120):TreesOf (nodes++[⟨k,n,ns,ids⟩]) (trees++[.mk k n ns ks]):=by
 refine⟨by simp[h.len],fun i hi=> ?_,fun t ht=> ?_,by simp;omega⟩
 ·by_cases e:i<trees.length
  ·rw[List.getElem_append_left e]
   exact YE _ (h.look i e)
  ·have e2:i=trees.length:=by simp at hi;omega
   subst e2
   rw[List.getElem_append_right (Nat.le_refl _)]
   simp only[Nat.sub_self,List.getElem_cons_zero]
   rw[lookT,kP _ hk]
   simp only
   rw[Jf6 hn,Nat.zero_add,h.len]
 ·rcases List.mem_append.1 ht with ht|ht
  ·exact h.fit t ht
  ·rw[List.mem_singleton.1 ht];exact hf
theorem Jmj {t:Ty}{r:List Ty}{left:Int}{tb:Tb}(h:(addTs (t::r) left tb).2.2.1=0):
  (addT t left tb).2.2.1=0/\(addTs r (addT t left tb).2.2.2 (addT t left tb).1).2.2.1=0/\(addTs (t::r) left tb).1=(addTs r (addT t left tb).2.2.2 (addT t left tb).1).1/\(addTs (t::r) left tb).2.1=(addT t left tb).2.1::(addTs r (addT t left tb).2.2.2 (addT t left tb).1).2.1:=by
 rw[Kb]at h⊢
 generalize addT t left tb=x at h⊢
 obtain⟨tb1,i,e,l1⟩:=x
 by_cases he:e=0
 ·subst he
  exact⟨rfl,h,rfl,rfl⟩
 ·have h:(if e≠0 then(tb1,[],e,l1)else((addTs r l1 tb1).1,i::(addTs r l1 tb1).2.1,(addTs r l1 tb1).2.2.1,(addTs r l1 tb1).2.2.2):Tb×List Nat×Int×Int).2.2.1=0:=h
  rw[if_pos he]at h
  exact absurd h he
theorem Jnd {k:Int}{n:Str}{ns:List Str}{ks:List Ty}{left:Int}{tb:Tb}(h:(addT (.mk k n ns ks) left tb).2.2.1=0):
  ks.length<=8/\ns.length<=8/\(addTs ks (left-1) tb).2.2.1=0/\(layS (addTs ks (left-1) tb).1 ⟨k,n,ns,(addTs ks (left-1) tb).2.1⟩).2.2=0/\(addT (.mk k n ns ks) left tb).1=(layS (addTs ks (left-1) tb).1 ⟨k,n,ns,(addTs ks (left-1) tb).2.1⟩).1/\(addT (.mk k n ns ks) left tb).2.1=(layS (addTs ks (left-1) tb).1 ⟨k,n,ns,(addTs ks (left-1) tb).2.1⟩).2.1:=by
 rw[Qj]at h⊢
 by_cases c:left-1<0\/8<ks.length\/8<ns.length
 ·rw[if_pos c]at h;cases h
 rw[if_neg c]at h⊢
 generalize addTs ks (left-1) tb=x at h⊢
 obtain⟨t1,ids,e,l1⟩:=x
 by_cases e0:e=0
 ·subst e0
  exact⟨by omega,by omega,rfl,h,rfl,rfl⟩
 ·have h:(if e≠0 then(t1,0,e,l1)else((layS t1 ⟨k,n,ns,ids⟩).1,(layS t1 ⟨k,n,ns,ids⟩).2.1,(layS t1 ⟨k,n,ns,ids⟩).2.2,l1):Tb×Nat×Int×Int).2.2.1=0:=h
  rw[if_pos e0]at h
  exact absurd h e0
end Eva
namespace Eva
open Go Go.RowKit
def Own5 (S:St)(B W:Pt->Prop):Prop:=∀r,W r->S.row r≠ .none/\¬B r
section
variable {Sb st S S' : St} {ru : Pt} {lv tv lv' tv' lv'' tv'' : V} {rest : List V} {O O' O'' W W' B B' B'' : Pt -> Prop} {nodes : List Nd} {trees : List Ty}
theorem Own5.kp (h:Own5 S B W)(k:Kp B B' S S'):Own5 S' B' W/\∀r,W r->S'.row r=S.row r:=by
 have e:∀r,W r->S'.row r=S.row r:=fun r w=>k.same r (h r w).1 (h r w).2
 exact⟨fun r w=>⟨by rw[e r w];exact(h r w).1,fun x=>(k.sub r x).elim (h r w).2 (h r w).1⟩,e⟩
theorem RT.own (h:RT Sb S ru lv tv rest O nodes trees)(o:Own5 S (Bt ru lv tv O) W)(g:Gr Sb S')(k:∀r,S.row r≠ .none->¬W r->S'.row r=S.row r):RT Sb S' ru lv tv rest O nodes trees:=
 h.keep g fun r e=>k r (h.alive r e) fun w=>(o r w).2 e
theorem Kp.own (h:Kp B B' st S)(hW:∀r,W r->B r\/st.row r= .none)(k:∀r,S.row r≠ .none->¬W r->S'.row r=S.row r):Kp B B' st S':=
 ⟨fun r e b=>by rw[k r (by rw[h.same r e b];exact e) fun w=>(hW r w).elim b e,h.same r e b],h.sub⟩
theorem SlF.mine {v:V}{z:Nat}{es:List (List V)}(h:SlF st S v z es):SlAt (fun r=>rowOf v=Option.some r) S v z es:=by
 have a:=h.at
 refine⟨a.1, ?_⟩
 rcases h.2 with h2|⟨r,t,h2,h3,h4⟩
 ·exact .inl h2
 ·have hr:rowOf v=Option.some r:=by rcases h4 with rfl|rfl<;>rfl
  rcases a.2 with b|⟨q,o,b1,b2,b3⟩
  ·exact .inl b
  ·refine .inr ⟨q,o, ?_,b2,b3⟩
   rcases b2 with rfl|⟨c,_,rfl⟩<;>rfl
structure Mid5 (Sb st S:St) (ru p3 p6:Pt) (lv tv lv' tv':V) (rest:List V) (O O':Pt->Prop) (nodes:List Nd) (trees:List Ty) (c3 c6:List V) (v1 kv:V) (ns:List Str) (ids:List Nat):Prop where
 rt:RT Sb S ru lv' tv' rest O' nodes trees
 kp:Kp (Bt ru lv tv O) (Bt ru lv' tv' O') st S
 own:Own5 S (Bt ru lv' tv' O') fun r=>r=p3\/r=p6\/rowOf v1=Option.some r\/rowOf kv=Option.some r
 r3:∃t,S.row p3= .cells t c3
 r6:∃t,S.row p6= .cells t (c6++[v1,kv])
 nm:SlF Sb S v1 1 (strs ns)
 kd:SlF Sb S kv 1 (ints ids)
 fs:∀r,rowOf v1=Option.some r\/rowOf kv=Option.some r->Bt ru lv tv O r\/st.row r= .none
 apk:∀r,rowOf kv=Option.some r->r≠p3/\r≠p6/\rowOf v1≠Option.some r
 ap1:∀r,rowOf v1=Option.some r->r≠p3/\r≠p6
 ap6:p3≠p6
 f3:st.row p3= .none
 f6:st.row p6= .none
section
variable {p3 p6 : Pt} {c3 c6 : List V} {v1 kv kv' : V} {ns : List Str} {ids : List Nat} {nodes' : List Nd} {trees' : List Ty}
theorem Mid5.call (h:Mid5 Sb st S ru p3 p6 lv tv lv' tv' rest O O' nodes trees c3 c6 v1 kv ns ids)(r:RT Sb S' ru lv'' tv'' rest O'' nodes' trees')(k:Kp (Bt ru lv' tv' O') (Bt ru lv'' tv'' O'') S S'):
  Mid5 Sb st S' ru p3 p6 lv tv lv'' tv'' rest O O'' nodes' trees' c3 c6 v1 kv ns ids:=by
 obtain⟨o,e⟩:=h.own.kp k
 obtain⟨t3,r3⟩:=h.r3
 obtain⟨t6,r6⟩:=h.r6
 exact{h with rt:=r,kp:=h.kp.trans k,own:=o,r3:=⟨t3,by rw[e _ (.inl rfl),r3]⟩,r6:=⟨t6,by rw[e _ (.inr (.inl rfl)),r6]⟩,nm:=h.nm.keep fun r a=>e r (.inr (.inr (.inl a))),kd:=h.kd.keep fun r a=>e r (.inr (.inr (.inr a)))}
theorem Mid5.gr (h:Mid5 Sb st S ru p3 p6 lv tv lv' tv' rest O O' nodes trees c3 c6 v1 kv ns ids)(g:Gr S S'):Mid5 Sb st S' ru p3 p6 lv tv lv' tv' rest O O' nodes trees c3 c6 v1 kv ns ids:=
 h.call (h.rt.gr g) (Kp.gr g)
theorem Mid5.push {S1 S2:St}(h:Mid5 Sb st S ru p3 p6 lv tv lv' tv' rest O O' nodes trees c3 c6 v1 kv ns ids){id:Nat}
  (hk:SlF Sb S1 kv' 1 (ints (ids++[id]))) (hr:rowOf kv'=Option.some S.nx) (k1:∀r,S.row r≠ .none->rowOf kv≠Option.some r->S1.row r=S.row r) (k2:∀r,r≠p6->S2.row r=S1.row r)
  (h6:∃t,S2.row p6= .cells t (c6++[v1,kv'])) (g:Gr Sb S2):Mid5 Sb st S2 ru p3 p6 lv tv lv' tv' rest O O' nodes trees c3 c6 v1 kv' ns (ids++[id]):=by
 have n6:S.nx≠p6:=fun e=>by
  obtain⟨t,r⟩:=h.r6
  have:=KQ h.rt.g.wf
  rw[e,r]at this;cases this
 have n3:S.nx≠p3:=fun e=>by
  obtain⟨t,r⟩:=h.r3
  have:=KQ h.rt.g.wf
  rw[e,r]at this;cases this
 have dead:S.row S.nx= .none:=KQ h.rt.g.wf
 have k:∀r,S.row r≠ .none->¬(r=p3\/r=p6\/rowOf v1=Option.some r\/rowOf kv=Option.some r)->S2.row r=S.row r:=fun r e n=>by
  rw[k2 r fun x=>n (.inr (.inl x)),k1 r e fun x=>n (.inr (.inr (.inr x)))]
 have w:∀r,(r=p3\/r=p6\/rowOf v1=Option.some r\/rowOf kv=Option.some r)->Bt ru lv tv O r\/st.row r= .none:=fun r e=>by
  rcases e with rfl|rfl|e|e
  ·exact .inr h.f3
  ·exact .inr h.f6
  ·exact h.fs r (.inl e)
  ·exact h.fs r (.inr e)
 obtain⟨t3,r3⟩:=h.r3
 have e3:S2.row p3=S.row p3:=by
  rw[k2 _ h.ap6,k1 _ (Je r3) fun x=>(h.apk _ x).1 rfl]
 have e1:∀r,rowOf v1=Option.some r->S2.row r=S.row r:=fun r x=>by
  rw[k2 _ (h.ap1 r x).2,k1 _ (h.nm.some x) fun y=>(h.apk _ y).2.2 x]
 refine{h with rt:=h.rt.own h.own g k,kp:=h.kp.own w k,own:=fun r e=> ?_,r3:=⟨t3,by rw[e3,r3]⟩,r6:=h6,nm:=h.nm.keep e1,kd:=hk.keep fun r e=>k2 r fun x=>by rw[hr]at e;injection e with e;exact n6 (e.trans x),apk:=fun r e=> ?_,fs:=fun r e=> ?_}
 ·rcases e with e|e|e|e
  ·have a:=h.own r (.inl e)
   exact⟨by rw[e,e3];exact Je r3,a.2⟩
  ·have a:=h.own r (.inr (.inl e))
   obtain⟨t,q⟩:=h6
   exact⟨by rw[e];exact Je q,a.2⟩
  ·have a:=h.own r (.inr (.inr (.inl e)))
   exact⟨by rw[e1 r e];exact a.1,a.2⟩
  ·rw[hr]at e
   injection e with e
   subst e
   have q:=h.rt.alive
   exact⟨by rw[k2 _ n6];exact hk.some hr,fun x=>q _ x dead⟩
 ·rcases e with e|e
  ·exact h.fs r (.inl e)
  ·rw[hr]at e
   injection e with e
   subst e
   exact h.kp.dead dead
 ·rw[hr]at e
  injection e with e
  subst e
  exact⟨n3,n6,fun x=>h.nm.some x dead⟩
theorem Mid5.done {k:Int}{n:Str}{v5 v9:V}{es ts:List (List V)}{E:List V}{X:Ty}(h:Mid5 Sb st S ru p3 p6 lv tv lv' tv' rest O O' nodes trees c3 c6 v1 kv ns ids)
  (g:Gr Sb S') (hc:∃t,S'.row ru= .cells t (v5::v9::rest))
  (l1:es.length=nodes.length) (l2:∀i (a:i<es.length) (b:i<nodes.length),NdC O' S es[i] nodes[i]) (l5:SlF Sb S' v5 4 (es++[[.int .i64 k,ofL n,v1,kv]]))
  (t1:ts.length=trees.length) (t2:∀i (a:i<ts.length) (b:i<trees.length),TyC (fun r=>Sb.row r≠ .none) S ts[i] trees[i]) (t9:SlF Sb S' v9 4 (ts++[E])) (hE:TyC (fun r=>Sb.row r≠ .none) S E X)
  (r5:∀r,rowOf v5=Option.some r->S.row r= .none) (r9:∀r,rowOf v9=Option.some r->S.row r= .none) (a59:∀r,rowOf v5=Option.some r->rowOf v9≠Option.some r)
  (keep:∀p,S.row p≠ .none->p≠ru->rowOf lv'≠Option.some p->rowOf tv'≠Option.some p->S'.row p=S.row p):
  RT Sb S' ru v5 v9 rest (fun r=>O' r\/rowOf v1=Option.some r\/rowOf kv=Option.some r) (nodes++[⟨k,n,ns,ids⟩]) (trees++[X])/\Kp (Bt ru lv tv O) (Bt ru v5 v9 fun r=>O' r\/rowOf v1=Option.some r\/rowOf kv=Option.some r) st S':=by
 have hal:=h.rt.alive
 have mine:∀r,(O' r\/rowOf v1=Option.some r\/rowOf kv=Option.some r)->S.row r≠ .none/\Sb.row r= .none/\r≠ru/\rowOf lv'≠Option.some r/\rowOf tv'≠Option.some r:=fun r e=>by
  rcases e with e|e|e
  ·exact h.rt.o r e
  ·have a:=h.own r (.inr (.inr (.inl e)))
   exact⟨a.1,(h.nm.row e).1,fun x=>a.2 (.inl x),fun x=>a.2 (.inr (.inl x)),fun x=>a.2 (.inr (.inr (.inl x)))⟩
  ·have a:=h.own r (.inr (.inr (.inr e)))
   exact⟨a.1,(h.kd.row e).1,fun x=>a.2 (.inl x),fun x=>a.2 (.inr (.inl x)),fun x=>a.2 (.inr (.inr (.inl x)))⟩
 have same:∀r,(O' r\/rowOf v1=Option.some r\/rowOf kv=Option.some r)->S'.row r=S.row r:=fun r e=>by
  obtain⟨a,b,c,d,f⟩:=mine r e
  exact keep r a c d f
 have sb:∀r,Sb.row r≠ .none->S'.row r=S.row r:=fun r e=>by rw[g.same r e,h.rt.g.same r e]
 refine⟨⟨g,h.rt.ru0,hc,⟨_,l5,by simp[l1],fun i a b=> ?_⟩,⟨_,t9,by simp[t1],fun i a b=> ?_⟩,fun r e=>⟨a59 r e,fun x=>hal r (.inl x) (r5 r e)⟩,fun r e x=>hal r (.inl x) (r9 r e),fun r e=> ?_⟩,⟨fun r e b=> ?_,fun r e=> ?_⟩⟩
 ·by_cases hi:i<es.length
  ·rw[List.getElem_append_left hi,List.getElem_append_left (by omega)]
   exact(l2 i hi (by omega)).imp fun r p _=>⟨.inl p,same r (.inl p)⟩
  ·have e:i=es.length:=by simp at a;omega
   subst e
   rw[List.getElem_append_right (Nat.le_refl _),List.getElem_append_right (by omega)]
   simp only[Nat.sub_self,l1,List.getElem_cons_zero]
   exact⟨v1,kv,rfl,h.nm.mine.imp fun r p _=>⟨.inr (.inl p),same r (.inr (.inl p))⟩,h.kd.mine.imp fun r p _=>⟨.inr (.inr p),same r (.inr (.inr p))⟩⟩
 ·by_cases hi:i<ts.length
  ·rw[List.getElem_append_left hi,List.getElem_append_left (by omega)]
   exact(t2 i hi (by omega)).imp fun r p _=>⟨p,sb r p⟩
  ·have e:i=ts.length:=by simp at a;omega
   subst e
   rw[List.getElem_append_right (Nat.le_refl _),List.getElem_append_right (by omega)]
   simp only[Nat.sub_self,t1,List.getElem_cons_zero]
   exact hE.imp fun r p _=>⟨p,sb r p⟩
 ·obtain⟨a,b,c,d,f⟩:=mine r e
  exact⟨by rw[same r e];exact a,b,c,fun x=>a (r5 r x),fun x=>a (r9 r x)⟩
 ·have al:=h.kp.same r e b
  have nb:¬Bt ru lv' tv' O' r:=fun x=>(h.kp.sub r x).elim b e
  rw[keep r (by rw[al];exact e) (fun x=>nb (.inl x)) (fun x=>nb (.inr (.inl x))) (fun x=>nb (.inr (.inr (.inl x)))),al]
 ·rcases e with e|e|e|e|e|e
  ·exact h.kp.sub r (.inl e)
  ·exact h.kp.dead (r5 r e)
  ·exact h.kp.dead (r9 r e)
  ·exact h.kp.sub r (.inr (.inr (.inr e)))
  ·exact h.fs r (.inl e)
  ·exact h.fs r (.inr e)
end
end
end Eva
namespace Eva
open Go Go.RowKit
theorem Jne {st:St}{z:Nat}{v vx:V}{R:V->St->Prop}(w:WF st)(h:wW (appV st z v vx) st R):wW (appV st z v vx) st fun v' S'=>R v' S'/\∀p,st.row p≠ .none->S'.row p≠ .none:=by
 have new:∀(f:Nat->List V) p,st.row p≠ .none->(st.new fun t=> .cells t (f t)).row p≠ .none:=fun f p hp=>by rw[JZ w _ hp];exact hp
 have wr:∀(f:Nat->Row) (hf:∀u,f u≠ .none) r t p,st.row p≠ .none->(st.wr r t f).row p≠ .none:=fun f hf r t p hp=>by
  by_cases e:p=r
  ·rw[Jx,if_pos e];exact hf _
  ·rw[Jm _ _ _ e];exact hp
 have dn:∀(f:Nat->List V) r t,st.row r≠ .none->(st.row r).time=t->∀p,st.row p≠ .none->((st.wr r t .dead).new fun t=> .cells t (f t)).row p≠ .none:=fun f r t hr ht p hp=>by
  have w2:WF (st.wr r t .dead):=(Q6 w hr ht fun u=>⟨rfl,fun e=>by cases e⟩).wf
  have a:=wr .dead (fun u e=>by cases e) r t p hp
  rw[JZ w2 _ a];exact a
 have app:∀k new' s v' e,Jz st z k new' s=some (v',e)->∀p,st.row p≠ .none->(st.ap e).row p≠ .none:=by
  intro k new' s v' e he p hp
  unfold Jz at he
  split at he
  ·split at he
   ·injection he with he;injection he with _ he;subst he;exact hp
   ·cases he
  split at he
  ·injection he with he;injection he with _ he;subst he;exact new _ p hp
  ·split at he
   ·cases he
   split at he
   ·rename_i hr
    split at he
    ·injection he with he;injection he with _ he;subst he;exact dn _ _ _ (Je hr) (by rw[hr];rfl) p hp
    ·cases he
   ·cases he
  ·split at he
   ·cases he
   split at he
   ·rename_i hr
    split at he
    ·split at he
     ·split at he
      ·injection he with he;injection he with _ he;subst he;exact wr _ (fun u e=>by cases e) _ _ p hp
      ·cases he
     ·injection he with he;injection he with _ he;subst he;exact new _ p hp
    ·cases he
   ·cases he
  ·cases he
 unfold wW at h⊢
 split at h
 ·rename_i v' e he
  refine⟨h, ?_⟩
  unfold appV at he
  split at he
  ·split at he
   ·split at he
    ·exact app _ _ _ _ _ he
    ·cases he
   ·cases he
  ·cases he
 ·exact absurd h id
theorem Jpr {x:Option (V×Eff)}{st:St}{R Q:V->St->Prop}(h:wW x st R)(k:∀v S,R v S->Q v S):wW x st Q:=by
 unfold wW at h⊢
 split at h
 ·exact k _ _ h
 ·exact h
end Eva
namespace Eva
open Go Go.RowKit
def NdW (n:Nd):Prop:=n.kind≠9/\(n.kind=4\/n.kind=5\/n.kind=6->n.kids.length=1)/\(n.kind=7\/n.kind=8->n.kids.length=n.names.length)/\(1<=n.kind/\n.kind<=3->n.kids=[])/\(1<=n.kind/\n.kind<=9)/\n.names.length<=8/\n.kids.length<=8
def prs (l:Was):List (List V):=l.map fun p=>[.int .i64 (p.1:Nat), .int .i64 (p.2:Nat)]
structure Tb6 (S:St) (ru:Pt) (lv:V) (nodes:List Nd):Prop where
 cell:∃t a b c d e f g h i j,S.row ru= .cells t [lv,a,b,c,d,e,f,g,h,i,j]
 l:LstAt (NdC (fun r=>S.row r≠ .none) S) (fun r=>S.row r≠ .none) S lv 4 nodes
 w:∀n∈nodes,NdW n
 k:∀n∈nodes,∀x∈n.kids,x<nodes.length
 few:nodes.length<=120
structure Fz (a b:St):Prop where
 wf:WF b
 t:a.t<=b.t
 nx:a.nx.num<=b.nx.num
 row:∀r,b.row r≠a.row r->a.t<=(b.row r).time/\b.row r≠ .none
 born:∀r,a.row r= .none->b.row r≠ .none->a.nx.num<=r.num
 same:∀r,a.row r≠ .none->b.row r=a.row r
theorem Fz.of {W:Pt->Prop}{a b:St}(h:Ch W a b)(hW:∀r,W r->a.row r= .none):Fz a b:=⟨h.wf,h.mono.t,h.mono.nx,h.mono.row,h.mono.born,fun r e=>h.same r e fun w=>e (hW r w)⟩
theorem Fz.gr {a b:St}(h:Fz a b):Gr {a with low:=b.low} b:=
 ⟨⟨h.wf,h.t,h.nx,h.row,Nat.le_refl _,fun r e n=>absurd (h.same r e) n,h.born⟩,h.same,fun _=>rfl⟩
theorem Fz.back {a b:St}{k:Nat}(g:Gr {a with low:=k} b):Fz a b:=⟨g.wf,g.mono.t,g.mono.nx,g.mono.row,g.mono.born,g.same⟩
theorem Fz.ch {W:Pt->Prop}{a b c:St}(h:Fz a b)(k:Ch W b c)(hW:∀r,W r->a.row r= .none):Fz a c:=
 ⟨k.wf,Nat.le_trans h.t k.mono.t,Nat.le_trans h.nx k.mono.nx,fun r e=>by
   by_cases x:c.row r=b.row r
   ·rw[x]at e⊢;exact h.row r e
   ·have:=k.mono.row r x
    exact⟨Nat.le_trans h.t this.1,this.2⟩,fun r e n=>by
   by_cases x:b.row r= .none
   ·exact Nat.le_trans h.nx (k.mono.born r x n)
   ·exact h.born r e x,fun r e=>by
   have:=h.same r e
   rw[k.same r (by rw[this];exact e) fun w=>e (hW r w),this]⟩
theorem Fz.low {a b:St}(h:Fz a b)(k:Nat):Fz a {b with low:=k}:=⟨JB h.wf _,h.t,h.nx,h.row,h.born,h.same⟩
structure Wk6 (Sl S:St) (ru kr:Pt) (was:Was) (lw:V):Prop where
 g:Fz Sl S
 cell:∃t,S.row kr= .cells t [.ptr ru 0,lw]
 l:SlF Sl S lw 2 (prs was)
 k0:Sl.row kr= .none
 ap:rowOf lw≠some kr
section
variable {Sl S S' : St} {ru kr : Pt} {lv lw : V} {nodes : List Nd} {was : Was}
theorem Tb6.keep (h:Tb6 S ru lv nodes)(g:∀r,S.row r≠ .none->S'.row r=S.row r):Tb6 S' ru lv nodes:=by
 obtain⟨t,a,b,c,d,e,f,i,j,k,l,r⟩:=h.cell
 obtain⟨es,l1,l2,l3⟩:=h.l
 have kk:∀r,S.row r≠ .none->S.row r≠ .none->S'.row r≠ .none/\S'.row r=S.row r:=fun r p _=>⟨by rw[g r p];exact p,g r p⟩
 exact⟨⟨t,a,b,c,d,e,f,i,j,k,l,by rw[g _ (Je r),r]⟩,⟨es,l1.imp kk,l2,fun i a b=>(l3 i a b).imp kk⟩,h.w,h.k,h.few⟩
theorem Tb6.gr (h:Tb6 S ru lv nodes)(g:Gr S S'):Tb6 S' ru lv nodes:=h.keep g.same
theorem Tb6.node (h:Tb6 S ru lv nodes){i:Nat}(hi:i<nodes.length):∃r q e,iaddrSV 4 lv (.int .i64 i)=some (.ptr r q, .no)/\ldn (S.row r) q 4=some (.agg e, .no)/\NdC (fun r=>S.row r≠ .none) S e nodes[i]/\ld1 (S.row r) q=some (.int .i64 nodes[i].kind, .no):=by
 obtain⟨r,q,e,a1,a2,a3,a4,hE,e4,a5⟩:=h.l.elem hi
 obtain⟨nv,kv,rfl,_,_⟩:=hE
 exact⟨r,q,_,a1,a4,⟨nv,kv,rfl,‹_›,‹_›⟩,a5 0 (by simp)⟩
theorem Wk6.gr (h:Wk6 Sl S ru kr was lw)(g:Gr S S'):Wk6 Sl S' ru kr was lw:=by
 obtain⟨t,c⟩:=h.cell
 exact⟨h.g.ch (Ch.of (fun _=>False) g) (fun _ w=>w.elim),⟨t,g.cells c⟩,h.l.gr g,h.k0,h.ap⟩
theorem Wk6.low (h:Wk6 Sl S ru kr was lw)(k:Nat):Wk6 Sl {S with low:=k} ru kr was lw:=⟨h.g.low k,h.cell,h.l.keep fun _ _=>rfl,h.k0,h.ap⟩
end
theorem Jge {n:Str}{l:List Str}{j m:Nat}(h:idxN n l 0=some j)(hm:m=l.length):j<m:=by
 have:∀(l:List Str) (k j:Nat),idxN n l k=some j->k<=j/\j<k+l.length:=by
  intro l
  induction l with
  |nil=>intro k j h;cases h
  | cons a r ih=>
    intro k j h
    rw[idxN]at h
    split at h
    ·injection h with h;subst h;simp
    ·have:=ih _ _ h;simp;omega
 have:=this _ _ _ h
 omega
theorem Jh0 {x y:Nd}(first:Bool){n:Str}{i:Nat}(hx:x.kids.length=x.names.length)(hi:i<y.kids.length):pairN x y first n i=(idxN n x.names 0).map fun j=>if first=true then(x.kids.getD j 0,y.kids.getD i 0)else(y.kids.getD i 0,x.kids.getD j 0):=by
 unfold pairN
 cases h:idxN n x.names 0 with
 |none=>rfl
 | some j=>
   have hj:=Jge h rfl
   simp only[Option.map_some]
   rw[if_pos ⟨by omega,hi⟩]
theorem Jh1 {f:Was->Nat->Nat->Option (Bool×Was)}{G:Was->Prop}{n:Nat}(hf:∀W a b r,f W a b=some r->a<n->b<n->G W->W.length<=r.2.length/\G r.2):∀(l:List (Option (Nat×Nat))) (W:Was) (r:Bool×Was),(∀q,some q∈l->q.1<n/\q.2<n)->asksS f l W=some r->G W->W.length<=r.2.length/\G r.2
 |[],W,r,_,h,g=>by injection h with h;subst h;exact⟨Nat.le_refl _,g⟩
 |none::l,W,r,_,h,g=>by injection h with h;subst h;exact⟨Nat.le_refl _,g⟩
 | some p::l,W,r,hl,h,g=>by
   rw[asksS]at h
   have hp:=hl p List.mem_cons_self
   cases e:f W p.1 p.2 with
   |none=>rw[e]at h;cases h
   | some x=>
     have k:=hf W p.1 p.2 x e hp.1 hp.2 g
     rw[e]at h
     obtain⟨x,W'⟩:=x
     cases x with
     |false=>injection h with h;subst h;exact k
     | true=>
       have:=Jh1 hf l W' r (fun q hq=>hl q (List.mem_cons_of_mem _ hq)) h k.2
       exact⟨Nat.le_trans k.1 this.1,this.2⟩
def WasG (n:Nat)(W:Was):Prop:=W.Nodup/\∀p∈W,p.1<n/\p.2<n
theorem Jec :∀(m:Nat) (l:List Nat),l.Nodup->(∀x∈l,x<m)->l.length<=m
 | 0,l,_,h=>by
   cases l with
   |nil=>exact Nat.le_refl _
   |cons a r=>exact absurd (h a List.mem_cons_self) (Nat.not_lt_zero _)
 | m+1,l,hd,h=>by
   by_cases e:m∈l
   ·have:=Jec m (l.erase m) (hd.erase _) fun x hx=>by
     have h1:=(hd.mem_erase_iff.1 hx)
     have:=h x h1.2
     have:=h1.1
     omega
    rw[List.length_erase_of_mem e]at this
    omega
   ·have:=Jec m l hd fun x hx=>by
     have:=h x hx
     have:x≠m:=fun k=>e (k▸hx)
     omega
    omega
theorem WasG.len {n:Nat}{W:Was}(h:WasG n W):W.length<=n*n:=by
 have hm:(W.map fun p=>p.1*n+p.2).Nodup:=by
  rw[List.nodup_iff_pairwise_ne,List.pairwise_map]
  refine(List.Pairwise.and_mem.1 (List.nodup_iff_pairwise_ne.1 h.1)).imp fun{p q} hpq e=> ?_
  obtain⟨hp,hq,hne⟩:=hpq
  obtain⟨a1,a2⟩:=h.2 p hp
  obtain⟨b1,b2⟩:=h.2 q hq
  have e1:p.1=q.1:=by
   have c1:(p.1*n+p.2)/n=p.1:=by rw[Nat.mul_comm,Nat.mul_add_div (by omega),Nat.div_eq_of_lt a2];rfl
   have c2:(q.1*n+q.2)/n=q.1:=by rw[Nat.mul_comm,Nat.mul_add_div (by omega),Nat.div_eq_of_lt b2];rfl
   rw[<-c1,<-c2,e]
  have e2:p.2=q.2:=by rw[e1]at e;omega
  exact hne (Prod.ext e1 e2)
 have:=Jec (n*n) _ hm fun x hx=>by
  obtain⟨p,hp,rfl⟩:=List.mem_map.1 hx
  obtain⟨a1,a2⟩:=h.2 p hp
  have:p.1*n+n<=n*n:=by
   have:=Nat.mul_le_mul_right n (show p.1+1<=n from a1)
   rw[Nat.add_mul,Nat.one_mul]at this
   exact this
  omega
 simpa using this
theorem Jmk {tb:Tb}(hA:Acy tb){a b:Nat}(ha:a<tb.nodes.length)(hb:b<tb.nodes.length){l:List (Option (Nat×Nat))}(h:plan tb a b=some l)(q:Nat×Nat)(hq:some q∈l):q.1<tb.nodes.length/\q.2<tb.nodes.length:=by
 rw[kR hA (List.getElem?_eq_getElem ha) (List.getElem?_eq_getElem hb)]at h
 obtain⟨h1,h2⟩:=Jfs h q hq
 have k1:=(hA a _ (List.getElem?_eq_getElem ha)).2
 have k2:=(hA b _ (List.getElem?_eq_getElem hb)).2
 have:=k2 _ h2
 rcases h1 with h1|h1
 ·omega
 ·have:=k1 _ h1
  omega
theorem WasG.snoc {n:Nat}{W:Was}(h:WasG n W){a b:Nat}(ha:a<n)(hb:b<n)(hn:(a,b)∉W):WasG n (W++[(a,b)]):=by
 refine⟨?_,fun p hp=> ?_⟩
 ·rw[List.nodup_append]
  exact⟨h.1,by simp,fun x hx y hy e=>hn (by rw[List.mem_singleton.1 hy]at e;exact e▸hx)⟩
 ·rcases List.mem_append.1 hp with hp|hp
  ·exact h.2 p hp
  ·rw[List.mem_singleton.1 hp];exact⟨ha,hb⟩
theorem Y8 {tb:Tb}(hA:Acy tb):∀(f:Nat) (W:Was) (a b:Nat) (r:Bool×Was),fitsS tb f W a b=some r->a<tb.nodes.length->b<tb.nodes.length->WasG tb.nodes.length W->W.length<=r.2.length/\WasG tb.nodes.length r.2
 |0,_,_,_,_,h,_,_,_=>by cases h
 | f+1,W,a,b,r,h,ha,hb,g=>by
   rw[fitsS]at h
   by_cases c:a=b\/(a,b)∈W
   ·rw[if_pos c]at h
    injection h with h;subst h
    exact⟨Nat.le_refl _,g⟩
   ·rw[if_neg c]at h
    have g2:=g.snoc ha hb fun k=>c (.inr k)
    cases hp:plan tb a b with
    | none=>
      rw[hp]at h
      injection h with h;subst h
      exact⟨by simp,g2⟩
    | some l=>
      rw[hp]at h
      have:=Jh1 (Y8 hA f) l _ r (Jmk hA ha hb hp) h g2
      rw[List.length_append]at this
      exact⟨by omega,this.2⟩
theorem Jml (a b c d:Nat):eqV (.many [.i, .i]) false (.agg [.int .i64 (a:Int), .int .i64 (b:Int)]) (.agg [.int .i64 (c:Int), .int .i64 (d:Int)])=some (.bool (decide ((a,b)=(c,d))), .no):=by
 have h:=Jf2 (a,b) (c,d)
 unfold encP at h
 simp only[eqV,h]
 simp
theorem JpM {T:Table}{lf:Nat}{c:C}{K:Out->Prop}(I:Fr->St->Prop){fr:Fr}{st:St}(h:I fr st)(k:∀f s,I f s->wC T lf c f s K):wC T lf c fr st K:=k fr st h
theorem Jed {g:Was->Nat->Nat->Option (Bool×Was)}{p:Nat×Nat}{w:Was}{r:Bool×Was}(h:asksS g [some p] w=some r):g w p.1 p.2=some r:=by
 rw[asksS]at h
 cases e:g w p.1 p.2 with
 |none=>rw[e]at h;cases h
 | some x=>
   rw[e]at h
   obtain⟨x,w'⟩:=x
   cases x with
   |false=>exact h
   |true=>simpa[asksS]using h
theorem Jj5 {l:List Nat}(h:l.length=1):l=[l.getD 0 0]:=by
 obtain⟨a,rfl⟩:=List.length_eq_one_iff.1 h
 rfl
structure Lo6 (Sl S0 S:St) (ru kr p8 p9:Pt) (lw0:V) (n:Nat) (xs ys:List V) (was:Was) (lw:V):Prop where
 w:Wk6 Sl S ru kr was lw
 r8:∃t,S.row p8= .cells t xs
 r9:∃t,S.row p9= .cells t ys
 n8:p8≠kr/\rowOf lw≠some p8
 n9:p9≠kr/\rowOf lw≠some p9
 keep:∀r,S0.row r≠ .none->¬(r=kr\/rowOf lw0=some r)->S.row r=S0.row r
 sub:∀q,rowOf lw=some q->rowOf lw0=some q\/S0.row q= .none
 g:WasG n was
theorem Lo6.next {Sl S0 S S2:St}{ru kr p8 p9:Pt}{lw0 lw lw2:V}{n:Nat}{xs ys:List V}{was w2:Was}(h:Lo6 Sl S0 S ru kr p8 p9 lw0 n xs ys was lw)(c:Ch (fun q=>q=kr\/rowOf lw=some q) S S2)(k:Wk6 Sl S2 ru kr w2 lw2)
  (s:∀q,rowOf lw2=some q->rowOf lw=some q\/S.row q= .none) (g:WasG n w2):Lo6 Sl S0 S2 ru kr p8 p9 lw0 n xs ys w2 lw2:=by
 obtain⟨t8,r8⟩:=h.r8
 obtain⟨t9,r9⟩:=h.r9
 refine⟨k,⟨t8, ?_⟩,⟨t9, ?_⟩,⟨h.n8.1,fun e=>(s _ e).elim h.n8.2 (Je r8)⟩,⟨h.n9.1,fun e=>(s _ e).elim h.n9.2 (Je r9)⟩,fun r e m=> ?_,fun q e=> ?_,g⟩
 ·rw[c.same p8 (Je r8) fun x=>x.elim h.n8.1 h.n8.2,r8]
 ·rw[c.same p9 (Je r9) fun x=>x.elim h.n9.1 h.n9.2,r9]
 ·have a:=h.keep r e m
  rw[c.same r (by rw[a];exact e) fun x=>x.elim (fun y=>m (.inl y)) fun y=>(h.sub r y).elim (fun z=>m (.inr z)) e,a]
 ·rcases s q e with x|x
  ·exact h.sub q x
  ·refine Classical.byContradiction fun y=> ?_
   have n1:¬rowOf lw0=some q:=fun z=>y (.inl z)
   have n2:¬S0.row q= .none:=fun z=>y (.inr z)
   have n3:q≠kr:=fun z=>by
    obtain⟨t,c⟩:=h.w.cell
    exact Je c (z▸x)
   have:=h.keep q n2 fun z=>z.elim n3 n1
   exact n2 (this▸x)
theorem Lo6.low {Sl S0 S:St}{ru kr p8 p9:Pt}{lw0 lw:V}{n:Nat}{xs ys:List V}{was:Was}(h:Lo6 Sl S0 S ru kr p8 p9 lw0 n xs ys was lw)(k:Nat):Lo6 Sl S0 {S with low:=k} ru kr p8 p9 lw0 n xs ys was lw:=
 ⟨h.w.low k,h.r8,h.r9,h.n8,h.n9,h.keep,h.sub,h.g⟩
theorem Lo6.gr {Sl S0 S S2:St}{ru kr p8 p9:Pt}{lw0 lw:V}{n:Nat}{xs ys:List V}{was:Was}(h:Lo6 Sl S0 S ru kr p8 p9 lw0 n xs ys was lw)(g:Gr S S2):Lo6 Sl S0 S2 ru kr p8 p9 lw0 n xs ys was lw:=
 h.next (Ch.of _ g) (h.w.gr g) (fun _ e=> .inl e) h.g
end Eva
namespace Eva
open Go Go.RowKit
section
variable {Sb S S' : St} {ru : Pt} {lv tv : V} {rest rest' : List V} {O : Pt -> Prop} {nodes : List Nd} {trees : List Ty}
theorem RT.set (h:RT Sb S ru lv tv rest O nodes trees)(g:Gr Sb S')(c:∃t,S'.row ru= .cells t (lv::tv::rest'))(k:∀r,S.row r≠ .none->r≠ru->S'.row r=S.row r):RT Sb S' ru lv tv rest' O nodes trees:=by
 obtain⟨es,l1,l2,l3⟩:=h.l
 obtain⟨ts,t1,t2,t3⟩:=h.t
 have al:=h.alive
 refine⟨g,h.ru0,c,⟨es,l1.keep fun r e=>k r (al r (.inr (.inl e))) (h.apl r e).2,l2,fun i a b=>(l3 i a b).imp fun r p _=>⟨p,k r (al r (.inr (.inr (.inr p)))) (h.o r p).2.2.1⟩⟩,⟨ts,t1.keep fun r e=>k r (al r (.inr (.inr (.inl e)))) (h.apt r e),t2,fun i a b=>(t3 i a b).imp fun r p _=>⟨p,by rw[g.same r p,h.g.same r p]⟩⟩,h.apl,h.apt,fun r p=> ?_⟩
 obtain⟨a,b,c,d⟩:=h.o r p
 exact⟨by rw[k r a c];exact a,b,c,d⟩
theorem RT.tb6 (h:RT Sb S ru lv tv rest O nodes trees)(hr:∃c d e f g h i j k,rest=[c,d,e,f,g,h,i,j,k])(hw:∀n∈nodes,NdW n)(hk:∀n∈nodes,∀x∈n.kids,x<nodes.length)(h120:nodes.length<=120):Tb6 S ru lv nodes:=by
 obtain⟨t,c⟩:=h.cell
 obtain⟨q1,q2,q3,q4,q5,q6,q7,q8,q9,rfl⟩:=hr
 obtain⟨es,l1,l2,l3⟩:=h.l
 refine⟨⟨t,_,_,_,_,_,_,_,_,_,_,c⟩,⟨es,l1.mine.imp fun r p e=>⟨e,rfl⟩,l2,fun i a b=>(l3 i a b).imp fun r p e=>⟨e,rfl⟩⟩,hw,hk,h120⟩
end
def tbM (z:Ty):Tb:={(addT z 400 emptyTb).1 with main:=(addT z 400 emptyTb).2.1}
theorem Jbj (z:Ty):∀(ts:List Ty) (tb:Tb),(addList (ts++[z]) tb).2.2=0->(addList ts tb).2.2=0/\(addT z 400 (addList ts tb).1).2.2.1=0/\(addList (ts++[z]) tb).1=(addT z 400 (addList ts tb).1).1
 | [],tb,h=>by
   simp only[List.nil_append,addList]at h⊢
   by_cases e:(addT z 400 tb).2.2.1=0
   ·simp only[e,ne_eq,not_true_eq_false,if_false]at h⊢
    exact⟨trivial,trivial,trivial⟩
   ·simp only[e,ne_eq,not_false_eq_true,if_true]at h
 | a::ts,tb,h=>by
   simp only[List.cons_append,addList]at h⊢
   by_cases e:(addT a 400 tb).2.2.1=0
   ·simp only[e,ne_eq,not_true_eq_false,if_false]at h⊢
    exact Jbj z ts _ h
   ·simp only[e,ne_eq,not_false_eq_true,if_true]at h
theorem JiL {t:Ty}{r:List Ty}{tb:Tb}(h:(addList (t::r) tb).2.2=0):(addT t 400 tb).2.2.1=0/\(addList r (addT t 400 tb).1).2.2=0/\(addList (t::r) tb).1=(addList r (addT t 400 tb).1).1:=by
 simp only[addList]at h⊢
 by_cases e:(addT t 400 tb).2.2.1=0
 ·simp only[e,ne_eq,not_true_eq_false,if_false]at h⊢
  exact⟨trivial,h,trivial⟩
 ·simp only[e,ne_eq,not_false_eq_true,if_true]at h
structure Sg5 (Sb S:St) (ru p:Pt) (lv tv:V) (rest:List V) (O:Pt->Prop) (nodes:List Nd) (trees:List Ty) (nm pv x:V) (ids:List Nat):Prop where
 rt:RT Sb S ru lv tv rest O nodes trees
 own:Own5 S (Bt ru lv tv O) fun r=>r=p\/rowOf pv=some r
 c:∃t,S.row p= .cells t [nm,pv,x]
 l:SlF Sb S pv 1 (ints ids)
 p0:Sb.row p= .none
 ap:rowOf pv≠some p
section
variable {Sb S S1 S2 : St} {ru p : Pt} {lv tv lv' tv' nm pv pv' x x' : V} {rest : List V} {O O' : Pt -> Prop} {nodes nodes' : List Nd} {trees trees' : List Ty} {ids : List Nat}
theorem Sg5.call (h:Sg5 Sb S ru p lv tv rest O nodes trees nm pv x ids)(r:RT Sb S2 ru lv' tv' rest O' nodes' trees')(k:Kp (Bt ru lv tv O) (Bt ru lv' tv' O') S S2):Sg5 Sb S2 ru p lv' tv' rest O' nodes' trees' nm pv x ids:=by
 obtain⟨o,e⟩:=h.own.kp k
 obtain⟨t,c⟩:=h.c
 exact{h with rt:=r,own:=o,c:=⟨t,by rw[e _ (.inl rfl),c]⟩,l:=h.l.keep fun r a=>e r (.inr a)}
theorem Sg5.push (h:Sg5 Sb S ru p lv tv rest O nodes trees nm pv x ids){id:Nat}(hk:SlF Sb S1 pv' 1 (ints (ids++[id])))(hr:rowOf pv'=some S.nx)(k1:∀r,S.row r≠ .none->rowOf pv≠some r->S1.row r=S.row r)(k2:∀r,r≠p->S2.row r=S1.row r)
  (c:∃t,S2.row p= .cells t [nm,pv',x]) (g:Gr Sb S2):Sg5 Sb S2 ru p lv tv rest O nodes trees nm pv' x (ids++[id]):=by
 have dead:S.row S.nx= .none:=KQ h.rt.g.wf
 obtain⟨t0,c0⟩:=h.c
 have np:S.nx≠p:=fun e=>Je c0 (e▸dead)
 refine{h with rt:=h.rt.own h.own g fun r e n=>by rw[k2 r fun x=>n (.inl x),k1 r e fun x=>n (.inr x)],own:=fun r e=> ?_,c:=c,l:=hk.keep fun r e=>k2 r fun x=>by rw[hr]at e;injection e with e;exact np (e.trans x),ap:=fun e=>by rw[hr]at e;injection e with e;exact np e}
 rcases e with e|e
 ·obtain⟨t,c⟩:=c
  exact⟨by rw[e];exact Je c,e▸(h.own p (.inl rfl)).2⟩
 ·rw[hr]at e
  injection e with e
  subst e
  exact⟨by rw[k2 _ np];exact hk.some hr,fun x=>h.rt.alive _ x dead⟩
theorem Sg5.store (h:Sg5 Sb S ru p lv tv rest O nodes trees nm pv x ids)(k2:∀r,r≠p->S2.row r=S.row r)(c:∃t,S2.row p= .cells t [nm,pv,x'])(g:Gr Sb S2):Sg5 Sb S2 ru p lv tv rest O nodes trees nm pv x' ids:=by
 refine{h with rt:=h.rt.own h.own g fun r e n=>k2 r fun x=>n (.inl x),own:=fun r e=> ?_,c:=c,l:=h.l.keep fun r e=>k2 r fun x=>h.ap (x▸e)}
 have:=h.own r e
 rcases e with e|e
 ·obtain⟨t,c⟩:=c
  exact⟨by rw[e];exact Je c,this.2⟩
 ·exact⟨by rw[k2 r fun x=>h.ap (x▸e)];exact this.1,this.2⟩
end
end Eva
namespace Eva
open Go Go.RowKit
mutual
def wfT :Ty->Prop
 | .mk k n ns ks=>(k≠9/\(k=4\/k=5\/k=6->ks.length=1)/\(k=7\/k=8->ks.length=ns.length)/\(1<=k/\k<=3->ks.length=0)/\(1<=k/\k<=9)/\ns.length<=8/\ks.length<=8)/\wfTs ks
def wfTs :List Ty->Prop
 |[]=>True
 |t::r=>wfT t/\wfTs r
end
mutual
theorem Jmm (has:Str->Bool):∀(t:Ty) (deep met:Nat),noName t=true->(mayS has t deep met).1=0->wfT t
 | .mk k n ns ks,deep,met,hn,h=>by
   rw[noName,Bool.and_eq_true]at hn
   have k9:k≠9:=of_decide_eq_true hn.1
   rw[qB]at h
   split at h
   ·cases h
   split at h
   ·cases h
   split at h
   ·cases h
   rename_i c1
   split at h
   ·cases h
   rename_i c2
   split at h
   ·cases h
   split at h
   ·rename_i c3;exact absurd h c3
   rename_i c4
   have hf:ns.length<=8:=by
    by_cases x:8<ns.length
    ·exfalso;apply c4;unfold fieldsS;rw[if_pos (show 8<(Ty.mk k n ns ks).names.length from x)];decide
    ·omega
   have hl:ks.length=kidsS (.mk k n ns ks):=Classical.byContradiction fun x=>c2 (.inl x)
   have hl:ks.length=if k=4\/k=5\/k=6 then 1 else if k=7\/k=8 then ns.length else 0:=hl
   rw[wfT]
   refine⟨⟨k9,fun x=>by rw[hl,if_pos x],fun x=>by rw[hl,if_neg (by omega),if_pos x],fun x=>by rw[hl,if_neg (by omega),if_neg (by omega)],by omega,hf, ?_⟩,Jj6 has ks _ _ hn.2 h⟩
   rw[hl]
   split
   ·decide
   ·split<;>omega
theorem Jj6 (has:Str->Bool):∀(l:List Ty) (deep met:Nat),noNames l=true->(maysS has l deep met).1=0->wfTs l
 |[],_,_,_,_=>by rw[wfTs];trivial
 | t::r,deep,met,hn,h=>by
   rw[noNames,Bool.and_eq_true]at hn
   rw[JE]at h
   by_cases c:(mayS has t deep met).1=0
   ·rw[if_neg (fun x=>x c)]at h
    rw[wfTs]
    exact⟨Jmm has t _ _ hn.1 c,Jj6 has r _ _ hn.2 h⟩
   ·rw[if_pos c]at h
    exact absurd h c
end
mutual
theorem Jh2 :∀t:Ty,sizeT t=cntT t
 | .mk k n ns ks=>by rw[sizeT,cntT,JfH ks,Nat.add_comm]
theorem JfH :∀l:List Ty,sizesT l=cntTs l
 |[]=>by rw[sizesT,cntTs]
 |t::r=>by rw[sizesT,cntTs,Jh2 t,JfH r]
end
theorem JfI {nodes:List Nd}:∀{ts:List Ty} {ids:List Nat},looksT nodes ts=some ids->ids.length=ts.length
 |[],ids,h=>by rw[looksT]at h;injection h with h;subst h;rfl
 | t::r,ids,h=>by
   obtain⟨a,b,rfl,h1,h2⟩:=QS h
   simp[JfI h2]
theorem Jnf (tb:Tb)(n:Nd):(layS tb n).1.nodes.length<=tb.nodes.length+1:=by
 unfold layS
 split
 ·simp
 ·split<;>simp
theorem Jmn {tb:Tb}{n:Nd}(h:tb.nodes.length<120):(layS tb n).2.2=0:=by
 unfold layS
 split
 ·rfl
 ·rw[if_neg (by omega)]
theorem Jng {P:Nd->Prop}{tb:Tb}{n:Nd}(h:∀x∈tb.nodes,P x)(hn:P n):∀x∈(layS tb n).1.nodes,P x:=by
 unfold layS
 split
 ·exact h
 ·split
  ·exact h
  ·intro x hx
   rcases List.mem_append.1 hx with hx|hx
   ·exact h x hx
   ·rw[List.mem_singleton.1 hx];exact hn
mutual
theorem Jb0 :∀(t:Ty) {left:Int} {tb:Tb},wfT t->(sizeT t:Int)<=left->tb.nodes.length+sizeT t<=120->(∀x∈tb.nodes,NdW x)->
  (addT t left tb).2.2.1=0/\(addT t left tb).1.nodes.length<=tb.nodes.length+sizeT t/\∀x∈(addT t left tb).1.nodes,NdW x
 | .mk k n ns ks,left,tb,hw,hl,hn,hx=>by
   rw[wfT]at hw
   rw[sizeT]at hl hn⊢
   obtain⟨⟨w0,w1,w2,w3,w4,w5,w6⟩,ws⟩:=hw
   obtain⟨a1,a2,a3⟩:=Jee ks (left:=left-1) ws (by omega) (by omega) hx
   have a4:=(kQ ks a1)
   obtain⟨_,_,lk,_⟩:=a4
   have li:=JfI lk
   rw[Qj,if_neg (by omega)]
   generalize addTs ks (left-1) tb=A at a1 a2 a3 li⊢
   obtain⟨t1,ids,e,l1⟩:=A
   simp only at a1 a2 a3 li
   subst a1
   simp only[ne_eq,not_true_eq_false,if_false]
   have b:=Jnf t1 ⟨k,n,ns,ids⟩
   refine⟨Jmn (by omega),by omega,Jng a3 ⟨w0,fun h=>by show ids.length=1;rw[li];exact w1 h,fun h=>by show ids.length=_;rw[li];exact w2 h,fun h=>List.length_eq_zero_iff.1 (by show ids.length=0;rw[li];exact w3 h),w4,w5,by show ids.length<=8;omega⟩⟩
theorem Jee :∀(l:List Ty) {left:Int} {tb:Tb},wfTs l->(sizesT l:Int)<=left->tb.nodes.length+sizesT l<=120->(∀x∈tb.nodes,NdW x)->
  (addTs l left tb).2.2.1=0/\(addTs l left tb).1.nodes.length<=tb.nodes.length+sizesT l/\∀x∈(addTs l left tb).1.nodes,NdW x
 |[],left,tb,_,_,_,hx=>by rw[Kv];exact⟨rfl,by simp,hx⟩
 | t::r,left,tb,hw,hl,hn,hx=>by
   rw[wfTs]at hw
   rw[sizesT]at hl hn⊢
   obtain⟨a1,a2,a3⟩:=Jb0 t (left:=left) hw.1 (by omega) (by omega) hx
   obtain⟨_,_,_,a5⟩:=Yx t a1
   rw[Kb]
   generalize addT t left tb=A at a1 a2 a3 a5⊢
   obtain⟨t1,i,e,l1⟩:=A
   simp only at a1 a2 a3 a5
   subst a1
   have b:=Jee r (left:=l1) (tb:=t1) hw.2 (by omega) (by omega) a3
   simp only[ne_eq,not_true_eq_false,if_false]
   exact⟨b.1,by omega,b.2.2⟩
end
theorem YW (q:Rw):wfT (treeS [] 3 q)/\sizeT (treeS [] 3 q)<=21:=by
 have h:=Jeb (has:=fun _=>false) (nms:=[]) (fun n h=>by cases h) 2 q 1 0 (by decide) (by decide)
 refine⟨Jmm _ _ _ _ (QR 3 q) h.1, ?_⟩
 have:=kO _ _ _ _ h.1
 have h2:=h.2
 rw[this,show nT 2=21 from rfl,Nat.zero_add,Nat.zero_add]at h2
 rw[Jh2]
 exact h2
theorem Jbk :∀(l:List Ty) {tb:Tb},(∀t∈l,wfT t/\sizeT t<=21/\noName t=true)->tb.nodes.length+21*l.length<=120->(∀x∈tb.nodes,NdW x)->Acy tb->
  (addList l tb).2.2=0/\(addList l tb).1.nodes.length<=tb.nodes.length+21*l.length/\(∀x∈(addList l tb).1.nodes,NdW x)/\Acy (addList l tb).1
 |[],tb,_,_,hx,ha=>⟨rfl,by simp[addList],hx,ha⟩
 | t::r,tb,ht,hl,hx,ha=>by
   obtain⟨t1,t2,t3⟩:=ht t List.mem_cons_self
   simp only[List.length_cons]at hl
   obtain⟨a1,a2,a3⟩:=Jb0 t (left:=400) (tb:=tb) t1 (by omega) (by omega) hx
   have a4:=(Ja9 t (left:=400) t3 ha).1
   obtain⟨b1,b2,b3,b4⟩:=Jbk r (tb:=(addT t 400 tb).1) (fun u hu=>ht u (List.mem_cons_of_mem _ hu)) (by omega) a3 a4
   simp only[addList,a1,ne_eq,not_true_eq_false,if_false,List.length_cons]
   exact⟨b1,by omega,b3,b4⟩
theorem JkE :Acy emptyTb:=fun i nd h=>by
 have:emptyTb.nodes=[]:=rfl
 rw[this]at h
 simp at h
theorem Jnh {x y z:Ty}(nm:Str)(ht:∀t∈[x,y,z],wfT t/\sizeT t<=21/\noName t=true):
  (addT z 400 emptyTb).2.2.1=0/\(addList [x,y,z] (tbM z)).2.2=0/\((checkS ⟨z,[],[⟨nm,[x,y],z⟩]⟩≠0/\newS ⟨z,[],[⟨nm,[x,y],z⟩]⟩=(none,checkS ⟨z,[],[⟨nm,[x,y],z⟩]⟩))\/
   (checkS ⟨z,[],[⟨nm,[x,y],z⟩]⟩=0/\∃tb,newS ⟨z,[],[⟨nm,[x,y],z⟩]⟩=(some tb,0)/\tb.nodes=(addList [x,y,z] (tbM z)).1.nodes/\Acy tb/\tb.nodes.length<=120/\∀n∈tb.nodes,NdW n)):=by
 obtain⟨z1,z2,z3⟩:=ht z (by simp)
 obtain⟨a1,a2,a3⟩:=Jb0 z (left:=400) (tb:=emptyTb) z1 (by omega) (by show 0+_<=120;omega) (fun x h=>by cases h)
 have a4:=(Ja9 z (left:=400) z3 JkE).1
 have a2:(addT z 400 emptyTb).1.nodes.length<=0+sizeT z:=a2
 obtain⟨b1,b2,b3,b4⟩:=Jbk [x,y,z] (tb:=tbM z) ht (by show(addT z 400 emptyTb).1.nodes.length+_<=120;simp;omega) a3 a4
 have b2:(addList [x,y,z] (tbM z)).1.nodes.length<=(addT z 400 emptyTb).1.nodes.length+21*3:=b2
 refine⟨a1,b1, ?_⟩
 by_cases hc:checkS ⟨z,[],[⟨nm,[x,y],z⟩]⟩=0
 ·refine .inr ⟨hc,{(addList [x,y,z] (tbM z)).1 with sigs:=setI nm (addList [x,y,z] (tbM z)).2.1 (addList [x,y,z] (tbM z)).1.sigs}, ?_,rfl,b4,by show(addList [x,y,z] (tbM z)).1.nodes.length<=120;omega,b3⟩
  have hs:addSigs [⟨nm,[x,y],z⟩] (tbM z)=({(addList [x,y,z] (tbM z)).1 with sigs:=setI nm (addList [x,y,z] (tbM z)).2.1 (addList [x,y,z] (tbM z)).1.sigs},0):=by
   simp only[addSigs,List.cons_append,List.nil_append,b1,ne_eq,not_true_eq_false,if_false]
  have e1:newS ⟨z,[],[⟨nm,[x,y],z⟩]⟩=(if checkS ⟨z,[],[⟨nm,[x,y],z⟩]⟩≠0 then(none,checkS ⟨z,[],[⟨nm,[x,y],z⟩]⟩)else if(0:Int)≠0 then(none,0)else if(addT z 400 emptyTb).2.2.1≠0 then(none,(addT z 400 emptyTb).2.2.1)else
   if(addSigs [⟨nm,[x,y],z⟩] (tbM z)).2≠0 then(none,(addSigs [⟨nm,[x,y],z⟩] (tbM z)).2)else(some (addSigs [⟨nm,[x,y],z⟩] (tbM z)).1,0)):=rfl
  rw[e1,if_neg (fun h=>h hc),if_neg (fun h=>h rfl),if_neg (fun h=>h a1),hs,if_neg (fun h=>h rfl)]
 ·refine .inl ⟨hc, ?_⟩
  rw[newS,if_pos hc]
end Eva
namespace Eva
open Go Go.RowKit
theorem Jgf {T:Table}{lf:Nat}{c:C}{fr:Fr}{S:St}{Q:Out->Prop}(h:∀S',S'=S->wC T lf c fr S' Q):wC T lf c fr S Q:=h S rfl
theorem Jas {T:Table}{m:Bool}{okW:Option (List Nat)}{f:Nat}{args:List V}{fr:Fr}{S:St}{Q:V->St->Prop}(h:∀S',S'=S->wCall T m okW f args fr S' Q):wCall T m okW f args fr S Q:=h S rfl
theorem Jj7 (a:Int){n:Nat}(hn:0<n):∃k:Nat,a%(n:Int)=k/\k<n:=by
 have:=Int.emod_lt_of_pos a (show(0:Int)<n by omega)
 have:=Int.emod_nonneg a (show(n:Int)≠0 by omega)
 exact⟨(a%(n:Int)).toNat,by omega,by omega⟩
end Eva
