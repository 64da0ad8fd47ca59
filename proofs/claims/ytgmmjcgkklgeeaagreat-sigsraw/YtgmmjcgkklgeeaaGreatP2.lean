/- The types that raw trees make may be. The document's table: in memory, plainly. The doc -/
import Derived.Test.YtgmmjcgkklgeeaaGreatP1
set_option linter.unusedVariables false
set_option linter.unusedSimpArgs false
set_option linter.unusedSectionVars false
set_option maxRecDepth 100000
namespace Eva
open Go Go.RowKit
theorem Jf4 (n:Str):∀(l:List Str) (h:JV n l<l.length),Op.bytesLess l[JV n l] n=false
 |[],h=>absurd h (by simp)
 | a::r,h=>by
   by_cases c:Op.bytesLess a n=true
   ·have e:JV n (a::r)=JV n r+1:=by rw[JV,if_pos c]
    have h2:JV n r<r.length:=by rw[e]at h;simpa using h
    simp only[e,List.getElem_cons_succ];exact Jf4 n r h2
   ·have e:JV n (a::r)=0:=by rw[JV,if_neg c]
    simp only[e,List.getElem_cons_zero];simpa using c
def JgJ (l:List Str):Prop:=l.Pairwise fun a b=>Op.bytesLess a b=true
theorem JgK {n:Str}{l:List Str}(hs:JgJ l)(hn:l[JV n l]?≠some n):JgJ (l.take (JV n l)++n::l.drop (JV n l)):=by
 unfold JgJ;rw[List.pairwise_append,List.pairwise_cons];have h1:∀a∈l.take (JV n l),Op.bytesLess a n=true:=fun a ha=>by
  obtain⟨i,hi,e⟩:=List.getElem_of_mem ha;rw[List.getElem_take]at e;rw[List.length_take]at hi;rw[<-e];exact Jcf n l i (by omega) (by omega)
 have h2:∀b∈l.drop (JV n l),Op.bytesLess n b=true:=fun b hb=>by
  by_cases hp:JV n l<l.length
  ·have hd:=List.drop_eq_getElem_cons hp;have hfirst:Op.bytesLess n l[JV n l]=true:=by
    have:=Ja9 l[JV n l] n;rw[Jf4 n l hp]at this;rw[List.getElem?_eq_getElem hp]at hn;have hne:¬l[JV n l]=n:=fun e=>hn (by rw[e]);rw[decide_eq_false hne]at this;simpa using this.symm
   have hs2:=hs.sublist (List.drop_sublist (JV n l) l);rw[hd,List.pairwise_cons]at hs2;rw[hd]at hb;rcases List.mem_cons.1 hb with rfl|hb
   ·exact hfirst
   ·exact kQ hfirst (hs2.1 b hb)
  ·rw[List.drop_eq_nil_of_le (by omega)]at hb;cases hb
 refine⟨hs.sublist (List.take_sublist _ _),⟨h2,hs.sublist (List.drop_sublist _ _)⟩,fun a ha b hb=> ?_⟩;rcases List.mem_cons.1 hb with rfl|hb
 ·exact h1 a ha
 ·exact kQ (h1 a ha) (h2 b hb)
structure PutI (k:Int) (G:Ty->Prop) (i:Nat) (t:Ty):Prop where
 kind:t.kind=k
 name:t.name=[]
 len:t.names.length=t.kids.length
 few:t.names.length<=i
 pos:0<i->0<t.names.length
 sorted:JgJ t.names
 ident:∀n∈t.names,Kb n=true
 kids:∀x∈t.kids,G x
theorem PutI.put {k:Int}{G:Ty->Prop}{i:Nat}{t:Ty}(h:PutI k G i t){n:Str}{x:Ty}(hn:Kb n=true)(hx:G x):PutI k G (i+1) (putS t n x):=by
 have hf:=h.few;have hl:=h.len;unfold putS;have hple:=Jaq n t.names;by_cases c:t.names[JV n t.names]? =some n
 ·rw[if_pos c];refine⟨h.kind,h.name,h.len,by omega,fun _=> ?_,h.sorted,h.ident,h.kids⟩;have:=(List.getElem?_eq_some_iff.1 c).1;omega
 ·rw[if_neg c];refine⟨h.kind,h.name, ?_, ?_,fun _=> ?_, ?_,fun m hm=> ?_,fun y hy=> ?_⟩
  ·show(t.names.take _++n::t.names.drop _).length=(t.kids.take _++x::t.kids.drop _).length;simp only[List.length_append,List.length_cons,List.length_take,List.length_drop];omega
  ·show(t.names.take _++n::t.names.drop _).length<=i+1;simp only[List.length_append,List.length_cons,List.length_take,List.length_drop];omega
  ·show 0<(t.names.take _++n::t.names.drop _).length;simp only[List.length_append,List.length_cons];omega
  ·exact JgK h.sorted c
  ·have hm:m∈t.names.take (JV n t.names)++n::t.names.drop (JV n t.names):=hm;rcases List.mem_append.1 hm with hm|hm
   ·exact h.ident m (List.mem_of_mem_take hm)
   ·rcases List.mem_cons.1 hm with rfl|hm
    ·exact hn
    ·exact h.ident m (List.mem_of_mem_drop hm)
  ·have hy:y∈t.kids.take (JV n t.names)++x::t.kids.drop (JV n t.names):=hy;rcases List.mem_append.1 hy with hy|hy
   ·exact h.kids y (List.mem_of_mem_take hy)
   ·rcases List.mem_cons.1 hy with rfl|hy
    ·exact hx
    ·exact h.kids y (List.mem_of_mem_drop hy)
structure RT (Sb S:St) (ru:Pt) (lv tv:V) (rest:List V) (O:Pt->Prop) (nodes:List Nd) (trees:List Ty):Prop where
 g:Gr Sb S
 ru0:Sb.row ru= .none
 cell:∃t,S.row ru= .cells t (lv::tv::rest)
 l:∃es,SlF Sb S lv 4 es/\es.length=nodes.length/\∀i (h:i<es.length) (h':i<nodes.length),NdC O S es[i] nodes[i]
 t:∃es,SlF Sb S tv 4 es/\es.length=trees.length/\∀i (h:i<es.length) (h':i<trees.length),TyC (fun r=>Sb.row r≠ .none) S es[i] trees[i]
 apl:∀r,rowOf lv=some r->rowOf tv≠some r/\r≠ru
 apt:∀r,rowOf tv=some r->r≠ru
 o:∀r,O r->S.row r≠ .none/\Sb.row r= .none/\r≠ru/\rowOf lv≠some r/\rowOf tv≠some r
def Bt (ru:Pt)(lv tv:V)(O:Pt->Prop)(r:Pt):Prop:=r=ru\/rowOf lv=some r\/rowOf tv=some r\/O r
structure Kp (B B':Pt->Prop) (st S:St):Prop where
 same:∀r,st.row r≠ .none->¬B r->S.row r=st.row r
 sub:∀r,B' r->B r\/st.row r= .none
theorem Kp.refl (B:Pt->Prop)(st:St):Kp B B st st:=⟨fun _ _ _=>rfl,fun _ h=> .inl h⟩
theorem Kp.gr {B:Pt->Prop}{st S:St}(g:Gr st S):Kp B B st S:=⟨fun r e _=>g.same r e,fun _ h=> .inl h⟩
theorem Kp.dead {B B':Pt->Prop}{st S:St}(h:Kp B B' st S){r:Pt}(e:S.row r= .none):B r\/st.row r= .none:=by
 by_cases b:B r
 ·exact .inl b
 ·exact .inr (Classical.byContradiction fun n=>n ((h.same r n b)▸e))
theorem Kp.trans {B B' B'':Pt->Prop}{st S S':St}(h:Kp B B' st S)(k:Kp B' B'' S S'):Kp B B'' st S':=by
 refine⟨fun r e b=> ?_,fun r e=> ?_⟩
 ·have a:=h.same r e b;rw[k.same r (by rw[a];exact e) fun x=>(h.sub r x).elim b e,a]
 ·rcases k.sub r e with x|x
  ·exact h.sub r x
  ·exact h.dead x
section
variable {Sb st S S' : St} {ru : Pt} {lv tv lv' tv' lv'' tv'' : V} {rest : List V} {O O' O'' : Pt -> Prop} {nodes : List Nd} {trees : List Ty}
theorem RT.keep (h:RT Sb S ru lv tv rest O nodes trees)(g:Gr Sb S')(k:∀r,r=ru\/rowOf lv=some r\/rowOf tv=some r\/O r->S'.row r=S.row r):RT Sb S' ru lv tv rest O nodes trees:=by
 obtain⟨es,l1,l2,l3⟩:=h.l;obtain⟨ts,t1,t2,t3⟩:=h.t;obtain⟨t,c⟩:=h.cell;refine⟨g,h.ru0,⟨t,by rw[k ru (.inl rfl),c]⟩,⟨es,l1.keep fun r e=>k r (.inr (.inl e)),l2,fun i a b=>(l3 i a b).imp fun r p _=>⟨p,k r (.inr (.inr (.inr p)))⟩⟩,⟨ts,t1.keep fun r e=>k r (.inr (.inr (.inl e))),t2,fun i a b=>(t3 i a b).imp fun r p _=>⟨p,by rw[g.same r p,h.g.same r p]⟩⟩,h.apl,h.apt,fun r p=> ?_⟩;obtain⟨a,b⟩:=h.o r p;exact⟨by rw[k r (.inr (.inr (.inr p)))];exact a,b⟩
theorem RT.alive (h:RT Sb S ru lv tv rest O nodes trees):∀r,r=ru\/rowOf lv=some r\/rowOf tv=some r\/O r->S.row r≠ .none:=fun r e=>by
 obtain⟨es,l1,_⟩:=h.l;obtain⟨ts,t1,_⟩:=h.t;obtain⟨t,c⟩:=h.cell;rcases e with rfl|e|e|e
 ·exact Jc c
 ·exact l1.some e
 ·exact t1.some e
 ·exact(h.o r e).1
theorem RT.gr (h:RT Sb S ru lv tv rest O nodes trees)(g:Gr S S'):RT Sb S' ru lv tv rest O nodes trees:=h.keep (h.g.trans g) fun r e=>g.same r (h.alive r e)
end
structure Qa (nodes:List Nd) (trees:List Ty):Prop where
 len:trees.length=nodes.length
 look:∀i (h:i<trees.length),Ki nodes trees[i]=some i
 fit:∀t∈trees,fitT t=true
 few:nodes.length<=120
theorem Qa.nil :Qa [] []:=⟨rfl,fun i h=>absurd h (by simp),fun t h=>(nomatch h),Nat.zero_le _⟩
theorem Qa.at {nodes:List Nd}{trees:List Ty}(h:Qa nodes trees){X:Ty}{i:Nat}(hi:i<trees.length):trees[i]=X<->Ki nodes X=some i:=by
 constructor
 ·intro e;rw[<-e];exact h.look i hi
 ·intro e;exact Jet (h.look i hi) e
theorem Qa.snoc {nodes:List Nd}{trees:List Ty}(h:Qa nodes trees){k:Int}{n:Str}{ns:List Str}{ks:List Ty}{ids:List Nat}(hk:JS nodes ks=some ids)(hn:idx ⟨k,n,ns,ids⟩ nodes 0=none)(hf:fitT (.mk k n ns ks)=true)(hl:nodes.length<120):Qa (nodes++[⟨k,n,ns,ids⟩]) (trees++[.mk k n ns ks]):=by
 refine⟨by simp[h.len],fun i hi=> ?_,fun t ht=> ?_,by simp;omega⟩
 ·by_cases e:i<trees.length
  ·rw[List.getElem_append_left e];exact QT _ (h.look i e)
  ·have e2:i=trees.length:=by simp at hi;omega
   subst e2;rw[List.getElem_append_right (Nat.le_refl _)];simp only[Nat.sub_self,List.getElem_cons_zero];rw[Ki,kz _ hk];simp only;rw[JgC hn,Nat.zero_add,h.len]
 ·rcases List.mem_append.1 ht with ht|ht
  ·exact h.fit t ht
  ·rw[List.mem_singleton.1 ht];exact hf
theorem Jn5 {t:Ty}{r:List Ty}{left:Int}{tb:Tb}(h:(Jw (t::r) left tb).2.2.1=0):
  (addT t left tb).2.2.1=0/\(Jw r (addT t left tb).2.2.2 (addT t left tb).1).2.2.1=0/\(Jw (t::r) left tb).1=(Jw r (addT t left tb).2.2.2 (addT t left tb).1).1/\(Jw (t::r) left tb).2.1=(addT t left tb).2.1::(Jw r (addT t left tb).2.2.2 (addT t left tb).1).2.1:=by
 rw[Ku]at h⊢;generalize addT t left tb=x at h⊢;obtain⟨tb1,i,e,l1⟩:=x;by_cases he:e=0
 ·subst he;exact⟨rfl,h,rfl,rfl⟩
 ·have h:(if e≠0 then(tb1,[],e,l1)else((Jw r l1 tb1).1,i::(Jw r l1 tb1).2.1,(Jw r l1 tb1).2.2.1,(Jw r l1 tb1).2.2.2):Tb×List Nat×Int×Int).2.2.1=0:=h;rw[if_pos he]at h;exact absurd h he
theorem JpA {k:Int}{n:Str}{ns:List Str}{ks:List Ty}{left:Int}{tb:Tb}(h:(addT (.mk k n ns ks) left tb).2.2.1=0):
  ks.length<=8/\ns.length<=8/\(Jw ks (left-1) tb).2.2.1=0/\(layS (Jw ks (left-1) tb).1 ⟨k,n,ns,(Jw ks (left-1) tb).2.1⟩).2.2=0/\(addT (.mk k n ns ks) left tb).1=(layS (Jw ks (left-1) tb).1 ⟨k,n,ns,(Jw ks (left-1) tb).2.1⟩).1/\(addT (.mk k n ns ks) left tb).2.1=(layS (Jw ks (left-1) tb).1 ⟨k,n,ns,(Jw ks (left-1) tb).2.1⟩).2.1:=by
 rw[K0]at h⊢;by_cases c:left-1<0\/8<ks.length\/8<ns.length
 ·rw[if_pos c]at h;cases h
 rw[if_neg c]at h⊢;generalize Jw ks (left-1) tb=x at h⊢;obtain⟨t1,ids,e,l1⟩:=x;by_cases e0:e=0
 ·subst e0;exact⟨by omega,by omega,rfl,h,rfl,rfl⟩
 ·have h:(if e≠0 then(t1,0,e,l1)else((layS t1 ⟨k,n,ns,ids⟩).1,(layS t1 ⟨k,n,ns,ids⟩).2.1,(layS t1 ⟨k,n,ns,ids⟩).2.2,l1):Tb×Nat×Int×Int).2.2.1=0:=h;rw[if_pos e0]at h;exact absurd h e0
def Own5 (S:St)(B W:Pt->Prop):Prop:=∀r,W r->S.row r≠ .none/\¬B r
section
variable {Sb st S S' : St} {ru : Pt} {lv tv lv' tv' lv'' tv'' : V} {rest : List V} {O O' O'' W W' B B' B'' : Pt -> Prop} {nodes : List Nd} {trees : List Ty}
theorem Own5.kp (h:Own5 S B W)(k:Kp B B' S S'):Own5 S' B' W/\∀r,W r->S'.row r=S.row r:=by
 have e:∀r,W r->S'.row r=S.row r:=fun r w=>k.same r (h r w).1 (h r w).2;exact⟨fun r w=>⟨by rw[e r w];exact(h r w).1,fun x=>(k.sub r x).elim (h r w).2 (h r w).1⟩,e⟩
theorem RT.own (h:RT Sb S ru lv tv rest O nodes trees)(o:Own5 S (Bt ru lv tv O) W)(g:Gr Sb S')(k:∀r,S.row r≠ .none->¬W r->S'.row r=S.row r):RT Sb S' ru lv tv rest O nodes trees:=
 h.keep g fun r e=>k r (h.alive r e) fun w=>(o r w).2 e
theorem Kp.own (h:Kp B B' st S)(hW:∀r,W r->B r\/st.row r= .none)(k:∀r,S.row r≠ .none->¬W r->S'.row r=S.row r):Kp B B' st S':=
 ⟨fun r e b=>by rw[k r (by rw[h.same r e b];exact e) fun w=>(hW r w).elim b e,h.same r e b],h.sub⟩
theorem SlF.mine {v:V}{z:Nat}{es:List (List V)}(h:SlF st S v z es):SlAt (fun r=>rowOf v=Option.some r) S v z es:=by
 have a:=h.at;refine⟨a.1, ?_⟩;rcases h.2 with h2|⟨r,t,h2,h3,h4⟩
 ·exact .inl h2
 ·have hr:rowOf v=Option.some r:=by rcases h4 with rfl|rfl<;>rfl
  rcases a.2 with b|⟨q,o,b1,b2,b3⟩
  ·exact .inl b
  ·refine .inr ⟨q,o, ?_,b2,b3⟩;rcases b2 with rfl|⟨c,_,rfl⟩<;>rfl
structure Mid5 (Sb st S:St) (ru p3 p6:Pt) (lv tv lv' tv':V) (rest:List V) (O O':Pt->Prop) (nodes:List Nd) (trees:List Ty) (c3 c6:List V) (v1 kv:V) (ns:List Str) (ids:List Nat):Prop where
 rt:RT Sb S ru lv' tv' rest O' nodes trees
 kp:Kp (Bt ru lv tv O) (Bt ru lv' tv' O') st S
 own:Own5 S (Bt ru lv' tv' O') fun r=>r=p3\/r=p6\/rowOf v1=Option.some r\/rowOf kv=Option.some r
 r3:∃t,S.row p3= .cells t c3
 r6:∃t,S.row p6= .cells t (c6++[v1,kv])
 nm:SlF Sb S v1 1 (strs ns)
 kd:SlF Sb S kv 1 (ints ids)
 fs:∀r,rowOf v1=Option.some r\/rowOf kv=Option.some r->Bt ru lv tv O r\/st.row r= .none
 apk:∀r,rowOf kv=Option.some r->r≠p3/\r≠p6/\rowOf v1≠Option.some r
 ap1:∀r,rowOf v1=Option.some r->r≠p3/\r≠p6
 ap6:p3≠p6
 f3:st.row p3= .none
 f6:st.row p6= .none
section
variable {p3 p6 : Pt} {c3 c6 : List V} {v1 kv kv' : V} {ns : List Str} {ids : List Nat} {nodes' : List Nd} {trees' : List Ty}
theorem Mid5.call (h:Mid5 Sb st S ru p3 p6 lv tv lv' tv' rest O O' nodes trees c3 c6 v1 kv ns ids)(r:RT Sb S' ru lv'' tv'' rest O'' nodes' trees')(k:Kp (Bt ru lv' tv' O') (Bt ru lv'' tv'' O'') S S'):
  Mid5 Sb st S' ru p3 p6 lv tv lv'' tv'' rest O O'' nodes' trees' c3 c6 v1 kv ns ids:=by
 obtain⟨o,e⟩:=h.own.kp k;obtain⟨t3,r3⟩:=h.r3;obtain⟨t6,r6⟩:=h.r6;exact{h with rt:=r,kp:=h.kp.trans k,own:=o,r3:=⟨t3,by rw[e _ (.inl rfl),r3]⟩,r6:=⟨t6,by rw[e _ (.inr (.inl rfl)),r6]⟩,nm:=h.nm.keep fun r a=>e r (.inr (.inr (.inl a))),kd:=h.kd.keep fun r a=>e r (.inr (.inr (.inr a)))}
theorem Mid5.gr (h:Mid5 Sb st S ru p3 p6 lv tv lv' tv' rest O O' nodes trees c3 c6 v1 kv ns ids)(g:Gr S S'):Mid5 Sb st S' ru p3 p6 lv tv lv' tv' rest O O' nodes trees c3 c6 v1 kv ns ids:=
 h.call (h.rt.gr g) (Kp.gr g)
theorem Mid5.push {S1 S2:St}(h:Mid5 Sb st S ru p3 p6 lv tv lv' tv' rest O O' nodes trees c3 c6 v1 kv ns ids){id:Nat}
  (hk:SlF Sb S1 kv' 1 (ints (ids++[id]))) (hr:rowOf kv'=Option.some S.nx) (k1:∀r,S.row r≠ .none->rowOf kv≠Option.some r->S1.row r=S.row r) (k2:∀r,r≠p6->S2.row r=S1.row r)
  (h6:∃t,S2.row p6= .cells t (c6++[v1,kv'])) (g:Gr Sb S2):Mid5 Sb st S2 ru p3 p6 lv tv lv' tv' rest O O' nodes trees c3 c6 v1 kv' ns (ids++[id]):=by
 have n6:S.nx≠p6:=fun e=>by
  obtain⟨t,r⟩:=h.r6;have:=Kj h.rt.g.wf;rw[e,r]at this;cases this
 have n3:S.nx≠p3:=fun e=>by
  obtain⟨t,r⟩:=h.r3;have:=Kj h.rt.g.wf;rw[e,r]at this;cases this
 have dead:S.row S.nx= .none:=Kj h.rt.g.wf;have k:∀r,S.row r≠ .none->¬(r=p3\/r=p6\/rowOf v1=Option.some r\/rowOf kv=Option.some r)->S2.row r=S.row r:=fun r e n=>by
  rw[k2 r fun x=>n (.inr (.inl x)),k1 r e fun x=>n (.inr (.inr (.inr x)))]
 have w:∀r,(r=p3\/r=p6\/rowOf v1=Option.some r\/rowOf kv=Option.some r)->Bt ru lv tv O r\/st.row r= .none:=fun r e=>by
  rcases e with rfl|rfl|e|e
  ·exact .inr h.f3
  ·exact .inr h.f6
  ·exact h.fs r (.inl e)
  ·exact h.fs r (.inr e)
 obtain⟨t3,r3⟩:=h.r3;have e3:S2.row p3=S.row p3:=by
  rw[k2 _ h.ap6,k1 _ (Jc r3) fun x=>(h.apk _ x).1 rfl]
 have e1:∀r,rowOf v1=Option.some r->S2.row r=S.row r:=fun r x=>by
  rw[k2 _ (h.ap1 r x).2,k1 _ (h.nm.some x) fun y=>(h.apk _ y).2.2 x]
 refine{h with rt:=h.rt.own h.own g k,kp:=h.kp.own w k,own:=fun r e=> ?_,r3:=⟨t3,by rw[e3,r3]⟩,r6:=h6,nm:=h.nm.keep e1,kd:=hk.keep fun r e=>k2 r fun x=>by rw[hr]at e;injection e with e;exact n6 (e.trans x),apk:=fun r e=> ?_,fs:=fun r e=> ?_}
 ·rcases e with e|e|e|e
  ·have a:=h.own r (.inl e);exact⟨by rw[e,e3];exact Jc r3,a.2⟩
  ·have a:=h.own r (.inr (.inl e));obtain⟨t,q⟩:=h6;exact⟨by rw[e];exact Jc q,a.2⟩
  ·have a:=h.own r (.inr (.inr (.inl e)));exact⟨by rw[e1 r e];exact a.1,a.2⟩
  ·rw[hr]at e;injection e with e;subst e;have q:=h.rt.alive;exact⟨by rw[k2 _ n6];exact hk.some hr,fun x=>q _ x dead⟩
 ·rcases e with e|e
  ·exact h.fs r (.inl e)
  ·rw[hr]at e;injection e with e;subst e;exact h.kp.dead dead
 ·rw[hr]at e;injection e with e;subst e;exact⟨n3,n6,fun x=>h.nm.some x dead⟩
theorem Mid5.done {k:Int}{n:Str}{v5 v9:V}{es ts:List (List V)}{E:List V}{X:Ty}(h:Mid5 Sb st S ru p3 p6 lv tv lv' tv' rest O O' nodes trees c3 c6 v1 kv ns ids)
  (g:Gr Sb S') (hc:∃t,S'.row ru= .cells t (v5::v9::rest))
  (l1:es.length=nodes.length) (l2:∀i (a:i<es.length) (b:i<nodes.length),NdC O' S es[i] nodes[i]) (l5:SlF Sb S' v5 4 (es++[[.int .i64 k,ofL n,v1,kv]]))
  (t1:ts.length=trees.length) (t2:∀i (a:i<ts.length) (b:i<trees.length),TyC (fun r=>Sb.row r≠ .none) S ts[i] trees[i]) (t9:SlF Sb S' v9 4 (ts++[E])) (hE:TyC (fun r=>Sb.row r≠ .none) S E X)
  (r5:∀r,rowOf v5=Option.some r->S.row r= .none) (r9:∀r,rowOf v9=Option.some r->S.row r= .none) (a59:∀r,rowOf v5=Option.some r->rowOf v9≠Option.some r)
  (keep:∀p,S.row p≠ .none->p≠ru->rowOf lv'≠Option.some p->rowOf tv'≠Option.some p->S'.row p=S.row p):
  RT Sb S' ru v5 v9 rest (fun r=>O' r\/rowOf v1=Option.some r\/rowOf kv=Option.some r) (nodes++[⟨k,n,ns,ids⟩]) (trees++[X])/\Kp (Bt ru lv tv O) (Bt ru v5 v9 fun r=>O' r\/rowOf v1=Option.some r\/rowOf kv=Option.some r) st S':=by
 have hal:=h.rt.alive;have mine:∀r,(O' r\/rowOf v1=Option.some r\/rowOf kv=Option.some r)->S.row r≠ .none/\Sb.row r= .none/\r≠ru/\rowOf lv'≠Option.some r/\rowOf tv'≠Option.some r:=fun r e=>by
  rcases e with e|e|e
  ·exact h.rt.o r e
  ·have a:=h.own r (.inr (.inr (.inl e)));exact⟨a.1,(h.nm.row e).1,fun x=>a.2 (.inl x),fun x=>a.2 (.inr (.inl x)),fun x=>a.2 (.inr (.inr (.inl x)))⟩
  ·have a:=h.own r (.inr (.inr (.inr e)));exact⟨a.1,(h.kd.row e).1,fun x=>a.2 (.inl x),fun x=>a.2 (.inr (.inl x)),fun x=>a.2 (.inr (.inr (.inl x)))⟩
 have same:∀r,(O' r\/rowOf v1=Option.some r\/rowOf kv=Option.some r)->S'.row r=S.row r:=fun r e=>by
  obtain⟨a,b,c,d,f⟩:=mine r e;exact keep r a c d f
 have sb:∀r,Sb.row r≠ .none->S'.row r=S.row r:=fun r e=>by rw[g.same r e,h.rt.g.same r e]
 refine⟨⟨g,h.rt.ru0,hc,⟨_,l5,by simp[l1],fun i a b=> ?_⟩,⟨_,t9,by simp[t1],fun i a b=> ?_⟩,fun r e=>⟨a59 r e,fun x=>hal r (.inl x) (r5 r e)⟩,fun r e x=>hal r (.inl x) (r9 r e),fun r e=> ?_⟩,⟨fun r e b=> ?_,fun r e=> ?_⟩⟩
 ·by_cases hi:i<es.length
  ·rw[List.getElem_append_left hi,List.getElem_append_left (by omega)];exact(l2 i hi (by omega)).imp fun r p _=>⟨.inl p,same r (.inl p)⟩
  ·have e:i=es.length:=by simp at a;omega
   subst e;rw[List.getElem_append_right (Nat.le_refl _),List.getElem_append_right (by omega)];simp only[Nat.sub_self,l1,List.getElem_cons_zero];exact⟨v1,kv,rfl,h.nm.mine.imp fun r p _=>⟨.inr (.inl p),same r (.inr (.inl p))⟩,h.kd.mine.imp fun r p _=>⟨.inr (.inr p),same r (.inr (.inr p))⟩⟩
 ·by_cases hi:i<ts.length
  ·rw[List.getElem_append_left hi,List.getElem_append_left (by omega)];exact(t2 i hi (by omega)).imp fun r p _=>⟨p,sb r p⟩
  ·have e:i=ts.length:=by simp at a;omega
   subst e;rw[List.getElem_append_right (Nat.le_refl _),List.getElem_append_right (by omega)];simp only[Nat.sub_self,t1,List.getElem_cons_zero];exact hE.imp fun r p _=>⟨p,sb r p⟩
 ·obtain⟨a,b,c,d,f⟩:=mine r e;exact⟨by rw[same r e];exact a,b,c,fun x=>a (r5 r x),fun x=>a (r9 r x)⟩
 ·have al:=h.kp.same r e b;have nb:¬Bt ru lv' tv' O' r:=fun x=>(h.kp.sub r x).elim b e;rw[keep r (by rw[al];exact e) (fun x=>nb (.inl x)) (fun x=>nb (.inr (.inl x))) (fun x=>nb (.inr (.inr (.inl x)))),al]
 ·rcases e with e|e|e|e|e|e
  ·exact h.kp.sub r (.inl e)
  ·exact h.kp.dead (r5 r e)
  ·exact h.kp.dead (r9 r e)
  ·exact h.kp.sub r (.inr (.inr (.inr e)))
  ·exact h.fs r (.inl e)
  ·exact h.fs r (.inr e)
end
end
theorem JpB {st:St}{z:Nat}{v vx:V}{R:V->St->Prop}(w:WF st)(h:wW (appV st z v vx) st R):wW (appV st z v vx) st fun v' S'=>R v' S'/\∀p,st.row p≠ .none->S'.row p≠ .none:=by
 have new:∀(f:Nat->List V) p,st.row p≠ .none->(st.new fun t=> .cells t (f t)).row p≠ .none:=fun f p hp=>by rw[Ko w _ hp];exact hp
 have wr:∀(f:Nat->Row) (hf:∀u,f u≠ .none) r t p,st.row p≠ .none->(st.wr r t f).row p≠ .none:=fun f hf r t p hp=>by
  by_cases e:p=r
  ·rw[Jk,if_pos e];exact hf _
  ·rw[Jl _ _ _ e];exact hp
 have dn:∀(f:Nat->List V) r t,st.row r≠ .none->(st.row r).time=t->∀p,st.row p≠ .none->((st.wr r t .dead).new fun t=> .cells t (f t)).row p≠ .none:=fun f r t hr ht p hp=>by
  have w2:WF (st.wr r t .dead):=(QW w hr ht fun u=>⟨rfl,fun e=>by cases e⟩).wf;have a:=wr .dead (fun u e=>by cases e) r t p hp;rw[Ko w2 _ a];exact a
 have app:∀k new' s v' e,JE st z k new' s=some (v',e)->∀p,st.row p≠ .none->(st.ap e).row p≠ .none:=by
  intro k new' s v' e he p hp;unfold JE at he
  split at he
  ·split at he
   ·injection he with he;injection he with _ he;subst he;exact hp
   ·cases he
  split at he
  ·injection he with he;injection he with _ he;subst he;exact new _ p hp
  ·split at he
   ·cases he
   split at he
   ·rename_i hr
    split at he
    ·injection he with he;injection he with _ he;subst he;exact dn _ _ _ (Jc hr) (by rw[hr];rfl) p hp
    ·cases he
   ·cases he
  ·split at he
   ·cases he
   split at he
   ·rename_i hr
    split at he
    ·split at he
     ·split at he
      ·injection he with he;injection he with _ he;subst he;exact wr _ (fun u e=>by cases e) _ _ p hp
      ·cases he
     ·injection he with he;injection he with _ he;subst he;exact new _ p hp
    ·cases he
   ·cases he
  ·cases he
 unfold wW at h⊢
 split at h
 ·rename_i v' e he
  refine⟨h, ?_⟩;unfold appV at he
  split at he
  ·split at he
   ·split at he
    ·exact app _ _ _ _ _ he
    ·cases he
   ·cases he
  ·cases he
 ·exact absurd h id
theorem Jrn {x:Option (V×Eff)}{st:St}{R Q:V->St->Prop}(h:wW x st R)(k:∀v S,R v S->Q v S):wW x st Q:=by
 unfold wW at h⊢
 split at h
 ·exact k _ _ h
 ·exact h
def Jc4 (k:Int)(n:Str)(ns:List Str)(r:List Ty)(li:Int)(tb:Tb)(ids:List Nat):Int:=
 if(Jw r li tb).2.2.1≠0 then(Jw r li tb).2.2.1 else(layS (Jw r li tb).1 ⟨k,n,ns,ids++(Jw r li tb).2.1⟩).2.2
theorem JlY {k:Int}{n:Str}{ns:List Str}{ks:List Ty}{left:Int}{tb:Tb}(hf:fitT (.mk k n ns ks)=true)(hl:(YZ (.mk k n ns ks):Int)<=left):(addT (.mk k n ns ks) left tb).2.2.1=Jc4 k n ns ks (left-1) tb []:=by
 obtain⟨h1,h2,_⟩:=qf hf;rw[YZ]at hl;rw[K0,if_neg (by push_cast at hl;omega)];unfold Jc4;generalize Jw ks (left-1) tb=x;obtain⟨t1,ids,e,l1⟩:=x;by_cases e0:e=0
 ·subst e0;rfl
 ·simp only[List.nil_append];rw[if_pos e0,if_pos e0]
theorem JjL {k:Int}{n:Str}{ns:List Str}{t:Ty}{r:List Ty}{li:Int}{tb:Tb}{ids:List Nat}(h:(addT t li tb).2.2.1=0):Jc4 k n ns (t::r) li tb ids=Jc4 k n ns r (addT t li tb).2.2.2 (addT t li tb).1 (ids++[(addT t li tb).2.1]):=by
 unfold Jc4;rw[Ku];generalize addT t li tb=x at h;obtain⟨t1,i,e,l1⟩:=x;have h:e=0:=h;subst h;simp only[ne_eq,not_true_eq_false,if_false,List.append_assoc,List.singleton_append]
theorem JjM {k:Int}{n:Str}{ns:List Str}{li:Int}{tb:Tb}{ids:List Nat}(h:Jc4 k n ns [] li tb ids≠0):idx ⟨k,n,ns,ids⟩ tb.nodes 0=none/\120<=tb.nodes.length:=by
 unfold Jc4 at h;rw[KJ]at h;simp only[ne_eq,not_true_eq_false,if_false,List.append_nil]at h;have hl:layS tb ⟨k,n,ns,ids⟩=match idx ⟨k,n,ns,ids⟩ tb.nodes 0 with
  |some i=>(tb,i,0)
  |none=>if 120<=tb.nodes.length then(tb,0,20)else({tb with nodes:=tb.nodes++[⟨k,n,ns,ids⟩]},tb.nodes.length,0):=rfl
 rw[hl]at h
 cases e:idx ⟨k,n,ns,ids⟩ tb.nodes 0 with
 |some i=>rw[e]at h;simp at h
 | none=>
   rw[e]at h;by_cases c:120<=tb.nodes.length
   ·exact⟨rfl,c⟩
   ·simp[c]at h
theorem JeB {l:List Nd}{t:Ty}{i:Nat}(hi:Ki l t=some i):∀{ts:List Ty} {ids:List Nat},JS l ts=some ids->JS l (ts++[t])=some (ids++[i])
 | [],ids,h=>by
   rw[JS]at h;injection h with h;subst h;rw[List.nil_append,JS,hi,JS];rfl
 | a::r,ids,h=>by
   obtain⟨x,y,rfl,h1,h2⟩:=kT h;rw[List.cons_append,JS,h1,JeB hi h2];rfl
mutual
theorem Jlk (has:Str->Bool):∀(t:Ty) (deep met:Nat),(mayS has t deep met).1=0->fitT t=true
 | .mk k n ns ks,deep,met,h=>by
   rw[Jap]at h
   split at h
   ·cases h
   split at h
   ·cases h
   split at h
   ·cases h
   split at h
   ·cases h
   rename_i c
   split at h
   ·cases h
   split at h
   ·rename_i c;exact absurd h c
   rename_i c2
   have hk:ks.length=KX (.mk k n ns ks):=Classical.byContradiction fun e=>c (.inl e);have hf:KW (.mk k n ns ks)=0:=by simpa using c2
   have hns:ns.length<=8:=by
    unfold KW at hf;by_cases e:8<(Ty.mk k n ns ks).names.length
    ·rw[if_pos e]at hf;cases hf
    ·exact Nat.le_of_not_lt e
   have hks:ks.length<=8:=by
    rw[hk];unfold KX
    split
    ·omega
    ·split
     ·exact hns
     ·omega
   rw[fitT,JiD has ks _ _ h];simp[hns,hks]
theorem JiD (has:Str->Bool):∀(l:List Ty) (deep met:Nat),(Jq has l deep met).1=0->jK l=true
 |[],_,_,_=>by rw[jK]
 | t::r,deep,met,h=>by
   rw[JT]at h
   split at h
   ·rename_i c;exact absurd h c
   rename_i c
   have c:(mayS has t deep met).1=0:=by simpa using c
   rw[jK,Jlk has t _ _ c,JiD has r _ _ h];rfl
end
mutual
theorem JiE :∀t:Ty,YZ t=cntT t
 | .mk k n ns ks=>by rw[YZ,Yq,Jf5 ks];omega
theorem Jf5 :∀l:List Ty,Ys l=kN l
 |[]=>by rw[Ys,JfL]
 |t::r=>by rw[Ys,kO,JiE t,Jf5 r]
end
theorem JjN {s:Sch}(h:Qv s=0):(∀p∈s.types,fitT p.2=true/\(YZ p.2:Int)<=400)/\fitT s.main=true/\(YZ s.main:Int)<=400:=by
 obtain⟨_,_,_,c3,c4,_⟩:=jJ h;have one:∀{t:Ty} {m:Nat},(mayS (hasN s.types) t 1 m).1=0->fitT t=true/\(YZ t:Int)<=400:=fun{t m} e=>by
  have e0:=Jiz e;have h1:=qO _ _ _ _ e0;have h2:=(K7 (hasN s.types) t 1 0 (by decide)).2 e0;exact⟨Jlk _ _ _ _ e0,by rw[JiE];omega⟩
 refine⟨fun p hp=> ?_,one c4⟩;obtain⟨m,hm⟩:=kB _ _ _ _ c3 p.2 (List.mem_map.2 ⟨p,hp,rfl⟩);exact one hm
theorem JiF {n:Str}{t:Ty}{r:List (Str×Ty)}{tb:Tb}(h:(addT t 400 tb).2.2.1≠0):(Jr ((n,t)::r) tb).2=(addT t 400 tb).2.2.1:=by rw[Jr,if_pos h]
theorem JjO {n:Str}{t:Ty}{r:List (Str×Ty)}{tb:Tb}(h:(addT t 400 tb).2.2.1=0):Jr ((n,t)::r) tb=Jr r {(addT t 400 tb).1 with named:=setI n (addT t 400 tb).2.1 (addT t 400 tb).1.named}:=by rw[Jr,if_neg fun c=>c h]
theorem JeC {t:Ty}{left:Int}{tb:Tb}(h:(addT t left tb).2.2.1=0):∃r,(addT t left tb).1.nodes=tb.nodes++r:=by
 obtain⟨r,a,_⟩:=QL t h;exact⟨r,by rw[a]⟩
mutual
def noNm (Q:List Str->Prop):Ty->Prop
 | .mk _ _ ns ks=>Q ns/\Y2 Q ks
def Y2 (Q:List Str->Prop):List Ty->Prop
 |[]=>True
 |t::r=>noNm Q t/\Y2 Q r
end
mutual
theorem Jcn {Q:List Str->Prop}:∀(t:Ty) {left:Int} {tb:Tb},noNm Q t->(∀nd∈tb.nodes,Q nd.names)->∀nd∈(addT t left tb).1.nodes,Q nd.names
 | .mk k m ns ks,left,tb,h,ht=>by
   rw[noNm]at h;rw[K0]
   split
   ·exact ht
   have ih:=JeD ks (left:=left-1) (tb:=tb) h.2 ht;generalize Jw ks (left-1) tb=x at ih;obtain⟨t1,ids,e,l1⟩:=x;simp only at ih⊢
   split
   ·exact ih
   ·have hl:layS t1 ⟨k,m,ns,ids⟩=match idx ⟨k,m,ns,ids⟩ t1.nodes 0 with
     |some i=>(t1,i,0)
     |none=>if 120<=t1.nodes.length then(t1,0,20)else({t1 with nodes:=t1.nodes++[⟨k,m,ns,ids⟩]},t1.nodes.length,0):=rfl
    rw[hl]
    split
    ·exact ih
    ·split
     ·exact ih
     ·intro nd hnd;rcases List.mem_append.1 hnd with hnd|hnd
      ·exact ih nd hnd
      ·rw[List.mem_singleton.1 hnd];exact h.1
theorem JeD {Q:List Str->Prop}:∀(ts:List Ty) {left:Int} {tb:Tb},Y2 Q ts->(∀nd∈tb.nodes,Q nd.names)->∀nd∈(Jw ts left tb).1.nodes,Q nd.names
 |[],left,tb,_,ht=>by rw[KJ];exact ht
 | t::r,left,tb,h,ht=>by
   rw[Y2]at h;rw[Ku];have ih:=Jcn t (left:=left) (tb:=tb) h.1 ht;generalize addT t left tb=x at ih;obtain⟨t1,i,e,l1⟩:=x;simp only at ih⊢
   split
   ·exact ih
   ·exact JeD r (left:=l1) (tb:=t1) h.2 ih
end
theorem JbX {Q:List Str->Prop}:∀(l:List (Str×Ty)) {tb:Tb},(∀p∈l,noNm Q p.2)->(∀nd∈tb.nodes,Q nd.names)->∀nd∈(Jr l tb).1.nodes,Q nd.names
 |[],tb,_,ht=>by rw[Jr];exact ht
 | (m,t)::r,tb,h,ht=>by
   have h1:=Jcn t (left:=400) (h (m,t) (List.mem_cons_self ..)) ht;rw[Jr]
   split
   ·exact h1
   ·exact JbX r (fun p hp=>h p (List.mem_cons_of_mem _ hp)) h1
theorem Jn6 {Q:List Str->Prop}{s:Sch}{tb:Tb}{e:Int}(hs:s.sigs=[])(h:newS s=(some tb,e))(hm:noNm Q s.main)(ht:∀p∈s.types,noNm Q p.2):∀nd∈tb.nodes,Q nd.names:=by
 rw[JbR,hs]at h
 split at h
 ·injection h with h _;cases h
 split at h
 ·injection h with h _;cases h
 split at h
 ·injection h with h _;cases h
 split at h
 ·injection h with h _;cases h
 injection h with h _;injection h with h;rw[Kl]at h;subst h;exact Jcn s.main hm (JbX s.types ht fun nd hnd=>by cases hnd)
theorem Js {T:Table}{lf:Nat}{c:C}{fr:Fr}{S:St}{Q:Out->Prop}(h:∀S',S'=S->wC T lf c fr S' Q):wC T lf c fr S Q:=h S rfl
structure Rn where
 f:Pt->Pt
 s:Nat->V
instance : CoeFun Rn fun _=>Pt->Pt:=⟨Rn.f⟩
def Rn.ok (φ:Rn):Prop:=∀i,∃k n,φ.s i= .int k n
mutual
def mv (φ:Rn):V->V
 | .ptr r o=> .ptr (φ r) o
 | .sl r o n z=> .sl (φ r) o n z
 | .slx r o n z c=> .slx (φ r) o n z c
 | .map r=> .map (φ r)
 | .fn f a b=> .fn f (mvs φ a) (mvs φ b)
 | .agg l=> .agg (mvs φ l)
 | .tup l=> .tup (mvs φ l)
 | .bool b=> .bool b
 | .int k n=> .int k n
 | .im c m=> .im c m
 | .str n v=> .str n v
 | .pnil=> .pnil
 | .snil=> .snil
 | .mnil=> .mnil
 | .fnil=> .fnil
 | .any=> .any
 | .opq i=>φ.s i
def mvs (φ:Rn):List V->List V
 |[]=>[]
 |x::r=>mv φ x::mvs φ r
end
mutual
def closed :V->Bool
 | .ptr _ _=>false
 | .sl _ _ _ _=>false
 | .slx _ _ _ _ _=>false
 | .map _=>false
 | .fn _ a b=>Qb a&&Qb b
 | .agg l=>Qb l
 | .tup l=>Qb l
 | .opq _=>false
 |_=>true
def Qb :List V->Bool
 |[]=>true
 |x::r=>closed x&&Qb r
end
section
variable (φ : Rn)
theorem KM :∀l:List V,mvs φ l=l.map (mv φ)
 |[]=>by rw[mvs];rfl
 |x::r=>by rw[mvs,KM r];rfl
mutual
theorem Kw :∀v:V,closed v=true->mv φ v=v
 | .ptr _ _,h=>by simp[closed]at h
 | .sl _ _ _ _,h=>by simp[closed]at h
 | .slx _ _ _ _ _,h=>by simp[closed]at h
 | .map _,h=>by simp[closed]at h
 | .fn _ a b,h=>by
   rw[closed,Bool.and_eq_true]at h;rw[mv,YM a h.1,YM b h.2]
 | .agg l,h=>by rw[closed]at h;rw[mv,YM l h]
 | .tup l,h=>by rw[closed]at h;rw[mv,YM l h]
 | .bool _,_=>by rw[mv]
 | .int _ _,_=>by rw[mv]
 | .im _ _,_=>by rw[mv]
 | .str _ _,_=>by rw[mv]
 | .pnil,_=>by rw[mv]
 | .snil,_=>by rw[mv]
 | .mnil,_=>by rw[mv]
 | .fnil,_=>by rw[mv]
 | .any,_=>by rw[mv]
 | .opq _,h=>by simp[closed]at h
theorem YM :∀l:List V,Qb l=true->mvs φ l=l
 |[],_=>by rw[mvs]
 | x::r,h=>by
   rw[Qb,Bool.and_eq_true]at h;rw[mvs,Kw x h.1,YM r h.2]
end
theorem YN (l:List V)(h:Qb l=true):l.map (mv φ)=l:=by rw[<-KM,YM φ l h]
section
variable (hφ : φ.ok)
include hφ
theorem JqA (v:V):(mv φ v).sc=v.sc:=by
 cases v<;>first
  |(simp[mv,V.sc];done)
  |(rename_i i;obtain⟨k,n,e⟩:=hφ i;simp[mv,V.sc,e])
theorem JeE (v:V):(mv φ v).cells=v.cells.map fun l=>l.map (mv φ):=by
 cases v<;>first
  |(simp[mv,V.cells,KM];done)
  |(rename_i i;obtain⟨k,n,e⟩:=hφ i;simp[mv,V.cells,e])
theorem JbY (l:List V):Km (l.map (mv φ))=Km l:=by
 unfold Km
 induction l with
 |nil=>rfl
 |cons x r ih=>simp only[List.map_cons,List.all_cons,ih,JqA φ hφ]
theorem JiG (v:V):rowOf (mv φ v)=(rowOf v).map φ:=by
 cases v<;>first
  |(simp[mv,rowOf];done)
  |(rename_i i;obtain⟨k,n,e⟩:=hφ i;simp[mv,rowOf,e])
theorem Jax (v:V):slen (mv φ v)=slen v:=by
 cases v<;>first
  |(simp[mv,slen];done)
  |(rename_i i;obtain⟨k,n,e⟩:=hφ i;simp[mv,slen,e])
end
theorem Jn7 (hφ:φ.ok)(v:V):slenX (mv φ v)=slenX v:=by
 cases v<;>first
  |(simp[mv,slenX,slen];done)
  |(rename_i i;obtain⟨k,n,e⟩:=hφ i;simp[mv,slenX,slen,e])
theorem Yu {v:V}{n:Nat}(h:KE v=some n):KE (mv φ v)=some n:=by
 cases v<;>first
  |(cases h;done)
  |(rw[mv];exact h)
theorem Qr {d:Nat}{o:Option V}{n:Nat}(h:JP d o=some n):JP d (o.map (mv φ))=some n:=by
 cases o with
 |none=>exact h
 |some v=>exact Yu φ h
theorem Jc5 :∀{l:List V} {n:Nat},Qg l=some n->Qg (l.map (mv φ))=some n
 |[],n,h=>h
 | x::r,n,h=>by
   cases x<;>first|(cases h;done)|skip
   rename_i k m
   simp only[List.map_cons,mv]
   cases k<;>first|(cases h;done)|skip
   simp only[Qg]at h⊢
   split at h
   ·rename_i c
    rw[if_pos c]
    cases hr:Qg r with
    |none=>rw[hr]at h;cases h
    |some w=>rw[hr]at h;rw[Jc5 hr];exact h
   ·cases h
theorem Jco (l:List V)(o:Nat)(vs:List V):(JI l o vs).map (mv φ)=JI (l.map (mv φ)) o (vs.map (mv φ)):=by
 simp[JI,List.map_take,List.map_drop]
theorem JeF (hφ:φ.ok):∀(ps:List (Nat×Nat×V)) (z:List V),QM (z.map (mv φ)) (ps.map fun p=>(p.1,p.2.1,mv φ p.2.2))=(QM z ps).map fun l=>l.map (mv φ)
 |[],z=>rfl
 | (o,n,v)::r,z=>by
   simp only[List.map_cons,QM,JeE φ hφ]
   cases v.cells with
   |none=>rfl
   | some vs=>
     simp only[Option.map_some,List.length_map,<-Jco,JeF hφ r]
     split<;>rfl
theorem JjP {k:KD}{x y:V}{b:Bool}(h:keq k x y=some b):keq k (mv φ x) (mv φ y)=some b:=by
 cases x<;>cases y<;>first
  |(cases k<;>cases h;done)
  |(cases k<;>first|(cases h;done)|(simp only[mv];exact h))
theorem Jll :∀{ks:List KD} {xs ys:List V} {b:Bool},keqs ks xs ys=some b->keqs ks (xs.map (mv φ)) (ys.map (mv φ))=some b
 |[],[],[],b,h=>h
 |[],[],_::_,b,h=>by simp[keqs]at h
 |[],_::_,_,b,h=>by simp[keqs]at h
 |_::_,[],_,b,h=>by simp[keqs]at h
 |_::_,_::_,[],b,h=>by simp[keqs]at h
 | k::ks,x::xs,y::ys,b,h=>by
   simp only[List.map_cons,keqs]at h⊢
   split at h
   ·rename_i he;rw[JjP φ he];exact Jll h
   ·rename_i he;rw[JjP φ he];exact h
   ·cases h
theorem Jlm {e:EK}{x y:V}{b:Bool}(h:e.eq x y=some b):e.eq (mv φ x) (mv φ y)=some b:=by
 cases e with
 |one k=>exact JjP φ h
 | many ks=>
   cases x<;>first|(cases h;done)|skip
   cases y<;>first|(cases h;done)|skip
   simp only[EK.eq,mv,KM,List.length_map]at h⊢
   split at h
   ·rename_i c;rw[if_pos c];exact Jll φ h
   ·cases h
theorem JjQ {e:EK}{x:V}(h:e.fit x=true):e.fit (mv φ x)=true:=by
 cases e with
 |one k=>rfl
 | many ks=>
   cases x<;>first|(cases h;done)|skip
   simpa[EK.fit,mv,KM]using h
theorem JpC {e:EK}{x:V}(h:e.refl x=true):e.refl (mv φ x)=true:=by
 unfold EK.refl at h⊢
 split at h
 ·rename_i he;rw[Jlm φ he]
 ·cases h
def mv2 (p:V×V):V×V:=(mv φ p.1,mv φ p.2)
theorem JbZ {e:EK}{k:V}:∀{es:List (V×V)} {i:Nat} {o:Option (Nat×V)},Ky e k es i=some o->Ky e (mv φ k) (es.map (mv2 φ)) i=some (o.map fun p=>(p.1,mv φ p.2))
 |[],i,o,h=>by injection h with h;subst h;rfl
 | (x,v)::r,i,o,h=>by
   simp only[List.map_cons,Ky,mv2]at h⊢
   split at h
   ·rename_i he;injection h with h;subst h;rw[Jlm φ he];rfl
   ·rename_i he;rw[Jlm φ he];exact JbZ h
   ·cases h
theorem Jn8 {op:BinOp}{x y v:V}(h:arith op x y=some v):arith op (mv φ x) (mv φ y)=some (mv φ v):=by
 have hv:mv φ v=v:=by
  apply Kw;unfold arith at h
  repeat' split at h
  all_goals first
   |cases h;done
   |(injection h with h;subst h;rfl)
 rw[hv]
 cases x<;>cases y<;>first
  |exact h
  |exact absurd h (by simp[arith])
end
def TR (i0 i t u:Nat):Prop:=(t<i0/\u<i)\/∃k,t=i0+k/\u=i+k
theorem TR.lt {i0 i t u s w:Nat}(h:TR i0 i t u)(k:∃k,s=i0+k/\w=i+k):t<s<->u<w:=by
 obtain⟨j,rfl,rfl⟩:=k;rcases h with⟨h1,h2⟩|⟨m,rfl,rfl⟩<;>omega
theorem TR.min {i0 i t u l m:Nat}(h:TR i0 i t u)(k:TR i0 i l m):TR i0 i (if t<l then t else l) (if u<m then u else m):=by
 rcases h with⟨h1,h2⟩|⟨a,rfl,rfl⟩<;>rcases k with⟨k1,k2⟩|⟨c,rfl,rfl⟩
 ·left;constructor<;>split<;>omega
 ·left;constructor<;>split<;>omega
 ·left;constructor<;>split<;>omega
 ·right;by_cases e:a<c
  ·exact⟨a,by rw[if_pos (by omega)],by rw[if_pos (by omega)]⟩
  ·exact⟨c,by rw[if_neg (by omega)],by rw[if_neg (by omega)]⟩
def RowE (φ:Rn)(T:Nat->Nat->Prop):Row->Row->Prop
 | .none,x=>x= .none
 | .cells t l,x=>∃u,x= .cells u (l.map (mv φ))/\T t u
 | .dead t,x=>x≠ .none/\T t x.time
 | .mob t es,x=>∃u,x= .mob u (es.map (mv2 φ))/\T t u
 | .sit t n v p,x=>∃u,x= .sit u n v p/\T t u
 | .mit t m n c,x=>∃u,x= .mit u (m.map φ) n c/\T t u
 | .ro l,x=>x= .ro (l.map (mv φ))
structure Emb (φ:Rn) (n0 i0 i:Nat) (a b:St):Prop where
 num:φ.ok
 inj:∀p q,φ p=φ q->p=q
 suc:∀p,n0<=p.num->φ p.suc=(φ p).suc
 n0:n0<=a.nx.num
 nx:b.nx=φ a.nx
 t:∃k,a.t=i0+k/\b.t=i+k
 pos:0<i0->0<i
 row:∀p,RowE φ (TR i0 i) (a.row p) (b.row (φ p))
 wf:WF b
def LowE (g:Bool)(i0 i:Nat)(a b:St):Prop:=g=true->TR i0 i a.low b.low
structure Stp (φ:Rn) (a b a' b':St):Prop where
 frame:∀s,b.row s≠ .none->(∀p,a.row p≠ .none->φ p≠s)->b'.row s=b.row s
 keep:∀s,b.row s≠ .none->b'.row s≠ .none
theorem Stp.refl {φ:Rn}{a b:St}:Stp φ a b a b:=⟨fun _ _ _=>rfl,fun _ h=>h⟩
theorem Emb.none {φ:Rn}{n0 i0 i:Nat}{a b:St}(h:Emb φ n0 i0 i a b){p:Pt}(hp:a.row p= .none):b.row (φ p)= .none:=by
 have:=h.row p;rw[hp]at this;exact this
theorem Stp.trans {φ:Rn}{n0 i0 i:Nat}{a b a1 b1 a2 b2:St}(h:Emb φ n0 i0 i a b)(s1:Stp φ a b a1 b1)(s2:Stp φ a1 b1 a2 b2):Stp φ a b a2 b2:=by
 refine⟨fun s e n=> ?_,fun s e=>s2.keep s (s1.keep s e)⟩;rw[s2.frame s (s1.keep s e) fun p hp=> ?_,s1.frame s e n];by_cases c:a.row p= .none
 ·intro x;subst x;exact e (h.none c)
 ·exact n p c
structure Yc (φ:Rn) (n0 i0 i:Nat) (g:Bool) (a b a' b':St):Prop where
 emb:Emb φ n0 i0 i a' b'
 low:LowE g i0 i a' b'
 stp:Stp φ a b a' b'
theorem Yc.trans {φ:Rn}{n0 i0 i:Nat}{g:Bool}{a b a1 b1 a2 b2:St}(h:Emb φ n0 i0 i a b)(p:Yc φ n0 i0 i g a b a1 b1)(q:Yc φ n0 i0 i g a1 b1 a2 b2):Yc φ n0 i0 i g a b a2 b2:=⟨q.emb,q.low,p.stp.trans h q.stp⟩
inductive EffE (φ:Rn) (T:Nat->Nat->Prop) (a:St):Eff->Eff->Prop
 |no:EffE φ T a .no .no
 |new {f g:Nat->Row} (h:∀t u,T t u->RowE φ T (f t) (g u)):EffE φ T a (.new f) (.new g)
 |wr {r:Pt} {t u:Nat} {f g:Nat->Row} (h:∀t u,T t u->RowE φ T (f t) (g u)) (k:T t u) (e:a.row r≠ .none):EffE φ T a (.wr r t f) (.wr (φ r) u g)
 |dn {r:Pt} {t u:Nat} {f g:Nat->Row} (h:∀t u,T t u->RowE φ T (f t) (g u)) (k:T t u) (e:a.row r≠ .none):EffE φ T a (.dn r t f) (.dn (φ r) u g)
section
variable {φ : Rn} {n0 i0 i : Nat} {g : Bool} {a b : St}
theorem JiH (H:Emb φ n0 i0 i a b)(hl:LowE g i0 i a b){f f':Nat->Row}(h:∀t u,TR i0 i t u->RowE φ (TR i0 i) (f t) (f' u))(hm:Mono b (b.new f')):Yc φ n0 i0 i g a b (a.new f) (b.new f'):=by
 have hb:=Kj H.wf;refine⟨⟨H.num,H.inj,H.suc, ?_, ?_, ?_,H.pos,fun p=> ?_,hm.wf⟩,hl,fun s e n=> ?_,fun s e=> ?_⟩
 ·show n0<=a.nx.suc.num;rw[Pt.num_suc];have:=H.n0;omega
 ·show b.nx.suc=φ a.nx.suc;rw[H.suc _ H.n0,H.nx]
 ·obtain⟨k,h1,h2⟩:=H.t;exact⟨k+1,by show a.t+1=_;omega,by show b.t+1=_;omega⟩
 ·rw[Kg,Kg,H.nx];by_cases c:p=a.nx
  ·rw[if_pos c,if_pos (by rw[c])];exact h _ _ (.inr H.t)
  ·rw[if_neg c,if_neg fun x=>c (H.inj _ _ x)];exact H.row p
 ·rw[Kg,if_neg fun x=>e (by rw[x];exact hb)]
 ·rw[Kg,if_neg fun x=>e (by rw[x];exact hb)];exact e
theorem Jln (H:Emb φ n0 i0 i a b)(hl:LowE g i0 i a b){r:Pt}{t u:Nat}{f f':Nat->Row}(h:∀t u,TR i0 i t u->RowE φ (TR i0 i) (f t) (f' u))(ht:TR i0 i t u)(hr:a.row r≠ .none)(hm:Mono b (b.wr (φ r) u f')):Yc φ n0 i0 i g a b (a.wr r t f) (b.wr (φ r) u f'):=by
 refine⟨⟨H.num,H.inj,H.suc,H.n0,H.nx, ?_,H.pos,fun p=> ?_,hm.wf⟩,fun hg=>TR.min ht (hl hg),fun s e n=> ?_,fun s e=> ?_⟩
 ·obtain⟨k,h1,h2⟩:=H.t;exact⟨k+1,by show a.t+1=_;omega,by show b.t+1=_;omega⟩
 ·rw[Jk,Jk];by_cases c:p=r
  ·rw[if_pos c,if_pos (by rw[c])];exact h _ _ (.inr H.t)
  ·rw[if_neg c,if_neg fun x=>c (H.inj _ _ x)];exact H.row p
 ·rw[Jk,if_neg fun x=>n r hr x.symm]
 ·by_cases c:(b.wr (φ r) u f').row s=b.row s
  ·rw[c];exact e
  ·exact(hm.row s c).2
theorem JpD (H:Emb φ n0 i0 i a b)(hl:LowE g i0 i a b){e e':Eff}(h:EffE φ (TR i0 i) a e e')(hg:e'.good b):Yc φ n0 i0 i g a b (a.ap e) (b.ap e'):=by
 cases h with
 |no=>exact⟨H,hl,Stp.refl⟩
 |new h=>exact JiH H hl h (Jal H.wf hg)
 |wr h k e=>exact Jln H hl h k e (Jal H.wf hg)
 | dn h k e=>
   rename_i r t u f f'
   have m1:Mono b (b.wr (φ r) u .dead):=Jal (e:= .wr (φ r) u .dead) H.wf ⟨hg.1,hg.2.1,fun u=>⟨rfl,by intro e;cases e⟩⟩;have p1:=Jln H hl (f:= .dead) (f':= .dead) (fun t u k=>⟨(by intro e;cases e),k⟩) k e m1;have m2:Mono (b.wr (φ r) u .dead) ((b.wr (φ r) u .dead).new f'):=Jal (e:= .new f') m1.wf hg.2.2;exact p1.trans H (JiH p1.emb p1.low h m2)
end
def cOpd :Opd->Bool
 | .s _=>true
 | .c v=>closed v
def cOpt :Option Opd->Bool
 |none=>true
 |some x=>cOpd x
def cOps :List Opd->Bool
 |[]=>true
 |x::r=>cOpd x&&cOps r
def cPs :List (Nat×Nat×Opd)->Bool
 |[]=>true
 |p::r=>cOpd p.2.2&&cPs r
def cOp :Iop->Bool
 | .mv x=>cOpd x
 | .pick c a b=>cOpd c&&(cOpd a&&cOpd b)
 | .alloc zs=>Qb zs
 | .box x=>cOpd x
 | .build zs ps=>Qb zs&&cPs ps
 | .bsl _ _ zs ps=>Qb zs&&cPs ps
 | .load1 x=>cOpd x
 | .loadn _ x=>cOpd x
 | .store _ x v=>cOpd x&&cOpd v
 | .nilck x=>cOpd x
 | .eq _ _ x y=>cOpd x&&cOpd y
 | .bin _ x y=>cOpd x&&cOpd y
 | .not x=>cOpd x
 | .neg x=>cOpd x
 | .toint _ x=>cOpd x
 | .tostr x=>cOpd x
 | .bts x=>cOpd x
 | .mkfn _ a b=>cOps a&&cOps b
 | .mkmap=>true
 | .mksl _ zs n c=>Qb zs&&(cOpd n&&cOpd c)
 | .cutS x lo hi=>cOpd x&&(cOpt lo&&cOpt hi)
 | .cutL _ x lo hi mx=>cOpd x&&(cOpt lo&&(cOpt hi&&cOpt mx))
 | .cutA _ _ x lo hi mx=>cOpd x&&(cOpt lo&&(cOpt hi&&cOpt mx))
 | .faddr _ x=>cOpd x
 | .fld _ _ x=>cOpd x
 | .iaddrS _ x i=>cOpd x&&cOpd i
 | .iaddrA _ _ x i=>cOpd x&&cOpd i
 | .idxS x i=>cOpd x&&cOpd i
 | .idxA _ _ _ x i=>cOpd x&&cOpd i
 | .lookup _ z _ m k=>closed z&&(cOpd m&&cOpd k)
 | .mupd _ m k v=>cOpd m&&(cOpd k&&cOpd v)
 | .ment _ z m k=>closed z&&(cOpd m&&cOpd k)
 | .ests m s v=>cOpd m&&(cOpd s&&cOpd v)
 | .rngS x=>cOpd x
 | .rngM x=>cOpd x
 | .jc x=>cOpd x
 | .nextM x=>cOpd x
 | .ext _ x=>cOpd x
 | .call _ as=>cOps as
 | .callv x as=>cOpd x&&cOps as
 | .lenS x=>cOpd x
 | .lenL x=>cOpd x
 | .lenM x=>cOpd x
 | .cap x=>cOpd x
 | .app _ s x=>cOpd s&&cOpd x
 | .copy _ d x=>cOpd d&&cOpd x
 | .min x y=>cOpd x&&cOpd y
 | .max x y=>cOpd x&&cOpd y
 | .clear _ zs x=>Qb zs&&cOpd x
def mvF (φ:Rn)(fr:Fr):Fr:=fun i=>mv φ (fr i)
section
variable (φ : Rn) {fr : Fr}
theorem JO {o:Opd}(h:cOpd o=true):o.ev (mvF φ fr)=mv φ (o.ev fr):=by
 cases o with
 |s i=>rfl
 |c v=>exact(Kw φ v h).symm
theorem qW {o:Option Opd}(h:cOpt o=true):o.map (Opd.ev (mvF φ fr))=(o.map (Opd.ev fr)).map (mv φ):=by
 cases o with
 |none=>rfl
 |some x=>exact congrArg some (JO φ h)
theorem JeG :∀{l:List Opd},cOps l=true->evs (mvF φ fr) l=(evs fr l).map (mv φ)
 |[],_=>rfl
 | x::r,h=>by
   rw[cOps,Bool.and_eq_true]at h;have:=JeG h.2;simp only[evs,List.map_cons]at this⊢;rw[JO φ h.1,this]
theorem JgL :∀{l:List (Nat×Nat×Opd)},cPs l=true->evps (mvF φ fr) l=(evps fr l).map fun p=>(p.1,p.2.1,mv φ p.2.2)
 |[],_=>rfl
 | x::r,h=>by
   rw[cPs,Bool.and_eq_true]at h;have:=JgL h.2;simp only[evps,List.map_cons]at this⊢;rw[JO φ h.1,this]
theorem Jcp {α:Type}{g f f':α->α}(hg:∀x,g (f x)=f' (g x))(l:List α)(i:Nat):(l.modify i f).map g=(l.map g).modify i f':=by
 apply List.ext_getElem?;intro j;simp only[List.getElem?_map,List.getElem?_modify,Option.map_map]
 cases l[j]? with
 |none=>rfl
 | some x=>
   simp only[Option.map_some,Function.comp]
   split
   ·exact congrArg some (hg x)
   ·rfl
end
section
variable {φ : Rn} {n0 i0 i : Nat} {a b : St} (H : Emb φ n0 i0 i a b)
include H
theorem jN {n:Nat}{v:V}{l:List V}(h:KG a n v=some l):KG b n (mv φ v)=some (l.map (mv φ)):=by
 cases v<;>first|(cases h;done)|skip
 simp only[KG,mv]at h⊢
 rename_i r o
 have:=H.row r
 cases hr:a.row r with
 | cells t m=>
   rw[hr]at this h;obtain⟨u,e,_⟩:=this;rw[e];simp only[List.length_map]at h⊢
   split at h
   ·rename_i c
    injection h with h;subst h;rw[if_pos c,List.map_take,List.map_drop]
   ·cases h
 | ro m=>
   rw[hr]at this h;rw[show b.row (φ r)=_ from this];simp only[List.length_map]at h⊢
   split at h
   ·rename_i c
    injection h with h;subst h;rw[if_pos c,List.map_take,List.map_drop]
   ·cases h
 |none=>rw[hr]at h;cases h
 |dead _=>rw[hr]at h;cases h
 |mob _ _=>rw[hr]at h;cases h
 |sit _ _ _ _=>rw[hr]at h;cases h
 |mit _ _ _ _=>rw[hr]at h;cases h
theorem jr {z n:Nat}{v:V}{l:List V}(h:JL a z n v=some l):JL b z n (mv φ v)=some (l.map (mv φ)):=by
 cases v<;>first|(cases h;done)|skip
 all_goals simp only[JL,mv]at h⊢
 ·split at h
  ·rename_i c;injection h with h;subst h;rw[if_pos c];rfl
  ·cases h
 ·split at h
  ·rename_i c;rw[if_pos c];exact jN H h
  ·cases h
 ·split at h
  ·rename_i c;rw[if_pos c];exact jN H h
  ·cases h
omit H in
theorem Jc6 :∀k v:Nat,(QN k v).map (mv φ)=QN k v
 |0,_=>rfl
 |k+1,v=>by rw[QN,List.map_cons,Jc6 k,mv]
theorem JlZ {z n:Nat}{v:V}{l:List V}(h:cellsX a z n v=some l):cellsX b z n (mv φ v)=some (l.map (mv φ)):=by
 unfold cellsX at h
 split at h
 ·rename_i m s
  split at h
  ·rename_i c
   injection h with h;subst h;rw[Jc6,mv];show(if z=1/\n<=m then some (QN n s)else none)=_;rw[if_pos c]
  ·cases h
 ·rename_i hn
  have h2:=jr H h;unfold cellsX
  split
  ·rename_i m s e
   rw[e]at h2;exact absurd h2 (by intro k;cases k)
  ·exact h2
omit H in
theorem JiI {z:Nat}{x v:V}{lo hi mx:Option V}(h:Qz z x lo hi mx=some v):Qz z (mv φ x) (lo.map (mv φ)) (hi.map (mv φ)) (mx.map (mv φ))=some (mv φ v):=by
 cases x<;>first|(cases h;done)|skip
 ·simp only[Qz,mv]at h⊢
  cases h1:JP 0 lo with
  |none=>rw[h1]at h;cases h
  | some l=>
    cases h2:JP 0 hi with
    |none=>rw[h1,h2]at h;cases h
    | some u=>
      cases h3:JP 0 mx with
      |none=>rw[h1,h2,h3]at h;cases h
      | some m=>
        simp only[h1,h2,h3,Qr φ h1,Qr φ h2,Qr φ h3,Option.bind_eq_bind,Option.bind_some]at h⊢
        split at h
        ·rename_i c;injection h with h;subst h;rw[if_pos c];rfl
        ·cases h
 ·rename_i r o n z'
  simp only[Qz,mv]at h⊢
  cases h1:JP 0 lo with
  |none=>rw[h1]at h;cases h
  | some l=>
    cases h2:JP n hi with
    |none=>rw[h1,h2]at h;cases h
    | some u=>
      simp only[h1,h2,Qr φ h1,Qr φ h2,Option.bind_eq_bind,Option.bind_some]at h⊢
      split at h
      ·cases h
      rename_i c
      rw[if_neg c]
      cases mx with
      | none=>
        simp only[Option.map_none]at h⊢
        split at h
        ·rename_i c;injection h with h;subst h;rw[if_pos c];rfl
        ·cases h
      | some m=>
        simp only[Option.map_some]at h⊢
        cases h3:KE m with
        |none=>rw[h3]at h;cases h
        | some m=>
          simp only[h3,Yu φ h3,Option.bind_some]at h⊢
          split at h
          ·rename_i c;injection h with h;subst h;rw[if_pos c];rfl
          ·cases h
 ·rename_i r o n z' cc
  simp only[Qz,mv]at h⊢
  cases h1:JP 0 lo with
  |none=>rw[h1]at h;cases h
  | some l=>
    cases h2:JP n hi with
    |none=>rw[h1,h2]at h;cases h
    | some u=>
      cases h3:JP cc mx with
      |none=>rw[h1,h2,h3]at h;cases h
      | some m=>
        simp only[h1,h2,h3,Qr φ h1,Qr φ h2,Qr φ h3,Option.bind_eq_bind,Option.bind_some]at h⊢
        split at h
        ·rename_i c;injection h with h;subst h;rw[if_pos c];rfl
        ·cases h
theorem Jay {r:Pt}{t:Nat}{l:List V}(h:a.row r= .cells t l):∃u,b.row (φ r)= .cells u (l.map (mv φ))/\TR i0 i t u:=by
 have:=H.row r;rw[h]at this;exact this
theorem qm {r:Pt}{t:Nat}{es:List (V×V)}(h:a.row r= .mob t es):∃u,b.row (φ r)= .mob u (es.map (mv2 φ))/\TR i0 i t u:=by
 have:=H.row r;rw[h]at this;exact this
theorem JeH {x:V}{vs:List V}{e:Eff}(h:JN a x vs=some e):∃e',JN b (mv φ x) (vs.map (mv φ))=some e'/\EffE φ (TR i0 i) a e e':=by
 cases x<;>first|(cases h;done)|skip
 simp only[JN,mv]at h⊢
 rename_i r o
 split at h
 ·rename_i t l hr
  obtain⟨u,e1,e2⟩:=Jay H hr;rw[e1];simp only[List.length_map,JbY φ H.num]
  split at h
  ·rename_i c
   injection h with h;subst h;rw[if_pos c];exact⟨_,rfl, .wr (fun t u k=>⟨u,by rw[Jco],k⟩) e2 (by rw[hr];intro e;cases e)⟩
  ·cases h
 ·cases h
theorem Jl0 {z k:Nat}{new:List V}{s v:V}{e:Eff}(h:JE a z k new s=some (v,e)):∃e',JE b z k (new.map (mv φ)) (mv φ s)=some (mv φ v,e')/\EffE φ (TR i0 i) a e e':=by
 unfold JE at h⊢;by_cases hk:k=0
 ·rw[if_pos hk]at h⊢;rw[Jax φ H.num]
  split at h
  ·rename_i c
   injection h with h;injection h with h1 h2;subst h1;subst h2;rw[if_pos c];exact⟨_,rfl, .no⟩
  ·cases h
 rw[if_neg hk]at h⊢
 cases s<;>first|(cases h;done)|skip
 all_goals simp only[mv]at h⊢
 ·injection h with h;injection h with h1 h2;subst h1;subst h2;exact⟨_,by rw[mv,H.nx], .new fun t u k=>⟨u,rfl,k⟩⟩
 ·rename_i r o n z'
  split at h
  ·cases h
  rename_i c1
  rw[if_neg c1]
  split at h
  ·rename_i t l hr
   obtain⟨u,e1,e2⟩:=Jay H hr;rw[e1];simp only[List.length_map]
   split at h
   ·rename_i c2
    injection h with h;injection h with h1 h2;subst h1;subst h2;rw[if_pos c2];exact⟨_,by rw[mv,H.nx], .dn (fun t u k=>⟨u,by simp[List.map_take,List.map_drop],k⟩) e2 (by rw[hr];intro e;cases e)⟩
   ·cases h
  ·cases h
 ·rename_i r o n z' cc
  split at h
  ·cases h
  rename_i c1
  rw[if_neg c1]
  split at h
  ·rename_i t l hr
   obtain⟨u,e1,e2⟩:=Jay H hr;rw[e1];simp only[List.length_map]
   split at h
   ·rename_i c2
    rw[if_pos c2]
    split at h
    ·rename_i c3
     rw[if_pos c3]
     split at h
     ·rename_i c4
      injection h with h;injection h with h1 h2;subst h1;subst h2;rw[if_pos c4];exact⟨_,by rw[mv], .wr (fun t u k=>⟨u,by rw[Jco],k⟩) e2 (by rw[hr];intro e;cases e)⟩
     ·cases h
    ·rename_i c3
     rw[if_neg c3];injection h with h;injection h with h1 h2;subst h1;subst h2;exact⟨_,by rw[mv,H.nx], .new fun t u k=>⟨u,by simp[List.map_take,List.map_drop],k⟩⟩
   ·cases h
  ·cases h
theorem Jl1 {v:V}{es:List (V×V)}(h:Yf a v=some es):Yf b (mv φ v)=some (es.map (mv2 φ)):=by
 cases v<;>first|(cases h;done)|skip
 all_goals simp only[Yf,mv]at h⊢
 ·injection h with h;subst h;rfl
 ·split at h
  ·rename_i t l hr
   injection h with h;subst h;obtain⟨u,e1,_⟩:=qm H hr;rw[e1]
  ·cases h
end
section
variable {φ : Rn} {n0 i0 i : Nat} {a b : St} {fr : Fr}
def OpE (φ:Rn)(i0 i:Nat)(a b:St)(fr:Fr)(op:Iop):Prop:=∀v e,evOp fr a op=some (v,e)->∃e',evOp (mvF φ fr) b op=some (mv φ v,e')/\EffE φ (TR i0 i) a e e'
theorem JgM {b:Bool}(h:¬(!b)=true):b=true:=by cases b<;>simp at h⊢
theorem JK {α β:Type}{a c:α}{b d:β}(h:some (a,b)=some (c,d)):a=c/\b=d:=by injection h with h;injection h with h1 h2;exact⟨h1,h2⟩
theorem Jlo (zs:List V)(h:Qb zs=true)(c:Nat):(List.replicate c zs).flatten.map (mv φ)=(List.replicate c zs).flatten:=by
 rw[List.map_flatten,List.map_replicate,YN φ zs h]
theorem JpE (H:Emb φ n0 i0 i a b):∀op,cOp op=true->OpE φ i0 i a b fr op
 | .mv x,hc=>fun v e h=>by
   obtain⟨rfl,rfl⟩:=JK h;exact⟨_,by simp only[evOp,JO φ (show cOpd x=true from hc)], .no⟩
 | .pick c x y,hc=>fun v e h=>by
   rw[cOp,Bool.and_eq_true,Bool.and_eq_true]at hc;simp only[evOp,JO φ hc.1,JO φ hc.2.1,JO φ hc.2.2]at h⊢;generalize c.ev fr=C at h⊢
   cases C<;>first|(cases h;done)|skip
   obtain⟨rfl,rfl⟩:=JK h
   rename_i t
   exact⟨_,by simp only[mv];cases t<;>rfl, .no⟩
 | .alloc zs,hc=>fun v e h=>by
   obtain⟨rfl,rfl⟩:=JK h;exact⟨.new fun t=> .cells t zs,by simp only[evOp,mv,H.nx], .new fun t u k=>⟨u,by rw[YN φ zs hc],k⟩⟩
 | .box x,hc=>fun v e h=>by
   simp only[evOp,JO φ (show cOpd x=true from hc),JeE φ H.num]at h⊢
   cases hx:(x.ev fr).cells with
   |none=>rw[hx]at h;cases h
   | some vs=>
     rw[hx]at h;simp only[Option.map_some,JbY φ H.num]at h⊢
     split at h
     ·rename_i c
      obtain⟨rfl,rfl⟩:=JK h;rw[if_pos c];exact⟨_,by rw[mv,H.nx], .new fun t u k=>⟨u,rfl,k⟩⟩
     ·cases h
 | .build zs ps,hc=>fun v e h=>by
   rw[cOp,Bool.and_eq_true]at hc;have hf:=JeF φ H.num (evps fr ps) zs;rw[YN φ zs hc.1]at hf;simp only[evOp,JgL φ hc.2,hf]at h⊢
   cases hx:QM zs (evps fr ps)with
   |none=>rw[hx]at h;cases h
   | some l=>
     rw[hx]at h;obtain⟨rfl,rfl⟩:=JK h;exact⟨_,by simp only[Option.map_some,mv,KM], .no⟩
 | .bsl z n zs ps,hc=>fun v e h=>by
   rw[cOp,Bool.and_eq_true]at hc;have hf:=JeF φ H.num (evps fr ps) zs;rw[YN φ zs hc.1]at hf;simp only[evOp,JgL φ hc.2,hf]at h⊢
   cases hx:QM zs (evps fr ps)with
   |none=>rw[hx]at h;cases h
   | some l=>
     rw[hx]at h;simp only[Option.map_some,JbY φ H.num,List.length_map]at h⊢
     split at h
     ·rename_i c
      obtain⟨rfl,rfl⟩:=JK h;rw[if_pos c];exact⟨_,by rw[mv,H.nx], .new fun t u k=>⟨u,rfl,k⟩⟩
     ·cases h
 | .load1 x,hc=>fun v e h=>by
   simp only[evOp,JO φ (show cOpd x=true from hc)]at h⊢
   split at h
   ·rename_i w hw
    obtain⟨rfl,rfl⟩:=JK h;exact⟨_,by rw[jN H hw];rfl, .no⟩
   ·cases h
 | .loadn n x,hc=>fun v e h=>by
   simp only[evOp,JO φ (show cOpd x=true from hc)]at h⊢
   cases hw:KG a n (x.ev fr)with
   |none=>rw[hw]at h;cases h
   | some l=>
     rw[hw]at h;obtain⟨rfl,rfl⟩:=JK h;exact⟨_,by rw[jN H hw];simp only[Option.map_some,mv,KM], .no⟩
 | .store n x w,hc=>fun v e h=>by
   rw[cOp,Bool.and_eq_true]at hc;simp only[evOp,JO φ hc.1,JO φ hc.2,JeE φ H.num]at h⊢
   cases hx:(w.ev fr).cells with
   |none=>rw[hx]at h;cases h
   | some vs=>
     rw[hx]at h;simp only[Option.map_some,List.length_map]at h⊢
     split at h
     ·rename_i c
      rw[if_pos c]
      cases hs:JN a (x.ev fr) vs with
      |none=>rw[hs]at h;cases h
      | some e1=>
        rw[hs]at h;obtain⟨rfl,rfl⟩:=JK h;obtain⟨e',k1,k2⟩:=JeH H hs;exact⟨e',by rw[k1];rfl,k2⟩
     ·cases h
 | .nilck x,hc=>fun v e h=>by
   simp only[evOp,JO φ (show cOpd x=true from hc)]at h⊢;generalize x.ev fr=X at h⊢
   cases X<;>first|(cases h;done)|skip
   all_goals
    obtain⟨rfl,rfl⟩:=JK h;exact⟨_,by simp only[mv], .no⟩
 | .eq ek neg x y,hc=>fun v e h=>by
   rw[cOp,Bool.and_eq_true]at hc;simp only[evOp,JO φ hc.1,JO φ hc.2]at h⊢
   cases hx:ek.eq (x.ev fr) (y.ev fr)with
   |none=>rw[hx]at h;cases h
   | some t=>
     rw[hx]at h;obtain⟨rfl,rfl⟩:=JK h;exact⟨_,by rw[Jlm φ hx];simp only[Option.map_some,mv], .no⟩
 | .bin op x y,hc=>fun v e h=>by
   rw[cOp,Bool.and_eq_true]at hc;simp only[evOp,JO φ hc.1,JO φ hc.2]at h⊢
   cases hx:arith op (x.ev fr) (y.ev fr)with
   |none=>rw[hx]at h;cases h
   | some t=>
     rw[hx]at h;obtain⟨rfl,rfl⟩:=JK h;exact⟨_,by rw[Jn8 φ hx];rfl, .no⟩
 | .not x,hc=>fun v e h=>by
   simp only[evOp,JO φ (show cOpd x=true from hc)]at h⊢;generalize x.ev fr=X at h⊢
   cases X<;>first|(cases h;done)|skip
   obtain⟨rfl,rfl⟩:=JK h;exact⟨_,by simp only[mv], .no⟩
 | .neg x,hc=>fun v e h=>by
   simp only[evOp,JO φ (show cOpd x=true from hc)]at h⊢;generalize x.ev fr=X at h⊢
   cases X<;>first|(cases h;done)|skip
   obtain⟨rfl,rfl⟩:=JK h;exact⟨_,by simp only[mv], .no⟩
 | .toint k x,hc=>fun v e h=>by
   simp only[evOp,JO φ (show cOpd x=true from hc)]at h⊢;generalize x.ev fr=X at h⊢
   cases X<;>first|(cases h;done)|skip
   obtain⟨rfl,rfl⟩:=JK h;exact⟨_,by simp only[mv], .no⟩
 | .tostr x,hc=>fun v e h=>by
   simp only[evOp,JO φ (show cOpd x=true from hc)]at h⊢;generalize x.ev fr=X at h⊢
   cases X<;>first|(cases h;done)|skip
   obtain⟨rfl,rfl⟩:=JK h;exact⟨_,by simp only[mv], .no⟩
 | .bts x,hc=>fun v e h=>by
   simp only[evOp,JO φ (show cOpd x=true from hc),Jax φ H.num]at h⊢
   split at h
   ·rename_i n hn
    split at h
    ·rename_i l hl
     cases hb:Qg l with
     |none=>rw[hb]at h;cases h
     | some w=>
       rw[hb]at h;obtain⟨rfl,rfl⟩:=JK h;rw[jr H hl];simp only[Jc5 φ hb];exact⟨_,by simp only[Option.map_some,mv], .no⟩
    ·cases h
   ·cases h
 | .mkfn f x y,hc=>fun v e h=>by
   rw[cOp,Bool.and_eq_true]at hc;obtain⟨rfl,rfl⟩:=JK h;exact⟨_,by simp only[evOp,JeG φ hc.1,JeG φ hc.2,mv,KM], .no⟩
 | .mkmap,hc=>fun v e h=>by
   obtain⟨rfl,rfl⟩:=JK h;exact⟨.new fun t=> .mob t [],by simp only[evOp,mv,H.nx], .new fun t u k=>⟨u,rfl,k⟩⟩
 | .mksl z zs n c,hc=>fun v e h=>by
   rw[cOp,Bool.and_eq_true,Bool.and_eq_true]at hc;simp only[evOp,JO φ hc.2.1,JO φ hc.2.2]at h⊢
   split at h
   ·rename_i n' c' hn hcc
    rw[Yu φ hn,Yu φ hcc];dsimp only
    split at h
    ·rename_i cd
     obtain⟨rfl,rfl⟩:=JK h;rw[if_pos cd];exact⟨_,by rw[mv,H.nx], .new fun t u k=>⟨u,by rw[Jlo zs hc.1],k⟩⟩
    ·cases h
   ·cases h
 | .cutS x lo hi,hc=>fun v e h=>by
   rw[cOp,Bool.and_eq_true,Bool.and_eq_true]at hc;simp only[evOp,JO φ hc.1,qW φ hc.2.1,qW φ hc.2.2]at h⊢;generalize x.ev fr=X at h⊢
   cases X<;>first|(cases h;done)|skip
   simp only[mv]at h⊢
   split at h
   ·rename_i l u hl hu
    rw[Qr φ hl,Qr φ hu];dsimp only
    split at h
    ·rename_i cd
     obtain⟨rfl,rfl⟩:=JK h;rw[if_pos cd];exact⟨_,by simp only[mv], .no⟩
    ·cases h
   ·cases h
 | .cutL z x lo hi mx,hc=>fun v e h=>by
   rw[cOp,Bool.and_eq_true,Bool.and_eq_true,Bool.and_eq_true]at hc;simp only[evOp,JO φ hc.1,qW φ hc.2.1,qW φ hc.2.2.1,qW φ hc.2.2.2]at h⊢
   cases hx:Qz z (x.ev fr) (lo.map (Opd.ev fr)) (hi.map (Opd.ev fr)) (mx.map (Opd.ev fr))with
   |none=>rw[hx]at h;cases h
   | some w=>
     rw[hx]at h;obtain⟨rfl,rfl⟩:=JK h;exact⟨_,by rw[JiI hx];rfl, .no⟩
 | .cutA n z x lo hi mx,hc=>fun v e h=>by
   rw[cOp,Bool.and_eq_true,Bool.and_eq_true,Bool.and_eq_true]at hc;simp only[evOp,JO φ hc.1,qW φ hc.2.1,qW φ hc.2.2.1,qW φ hc.2.2.2]at h⊢;generalize x.ev fr=X at h⊢
   cases X<;>first|(cases h;done)|skip
   rename_i r o
   simp only[mv]at h⊢
   split at h
   ·rename_i t l hr
    obtain⟨u,e1,_⟩:=Jay H hr;rw[e1];simp only[List.length_map]
    split at h
    ·rename_i cd
     rw[if_pos cd]
     cases hx:Qz z (.slx r o n z n) (lo.map (Opd.ev fr)) (hi.map (Opd.ev fr)) (mx.map (Opd.ev fr))with
     |none=>rw[hx]at h;cases h
     | some w=>
       rw[hx]at h;obtain⟨rfl,rfl⟩:=JK h;have:=JiI (φ:=φ) hx;rw[mv]at this;exact⟨_,by rw[this];rfl, .no⟩
    ·cases h
   ·cases h
 | .faddr o x,hc=>fun v e h=>by
   simp only[evOp,JO φ (show cOpd x=true from hc)]at h⊢;generalize x.ev fr=X at h⊢
   cases X<;>first|(cases h;done)|skip
   obtain⟨rfl,rfl⟩:=JK h;exact⟨_,by simp only[mv], .no⟩
 | .fld o n x,hc=>fun v e h=>by
   simp only[evOp,JO φ (show cOpd x=true from hc)]at h⊢;generalize x.ev fr=X at h⊢
   cases X<;>first|(cases h;done)|skip
   rename_i l
   simp only[mv,KM]at h⊢
   cases n with
   | some n=>
     simp only[List.length_map]at h⊢
     split at h
     ·rename_i cd
      obtain⟨rfl,rfl⟩:=JK h;rw[if_pos cd];exact⟨_,by simp only[mv,KM,List.map_take,List.map_drop], .no⟩
     ·cases h
   | none=>
     simp only[List.getElem?_map]at h⊢
     cases hl:l[o]? with
     |none=>rw[hl]at h;cases h
     | some w=>
       rw[hl]at h;obtain⟨rfl,rfl⟩:=JK h;exact⟨_,rfl, .no⟩
 | .iaddrS z x j,hc=>fun v e h=>by
   rw[cOp,Bool.and_eq_true]at hc;simp only[evOp,JO φ hc.1,JO φ hc.2]at h⊢
   cases hj:KE (j.ev fr)with
   |none=>rw[hj]at h;cases h
   | some m=>
     rw[hj]at h;rw[Yu φ hj];generalize x.ev fr=X at h⊢
     cases X<;>first|(cases h;done)|skip
     all_goals
      simp only[mv]at h⊢
      split at h
      ·rename_i cd
       obtain⟨rfl,rfl⟩:=JK h;rw[if_pos cd];exact⟨_,by simp only[mv], .no⟩
      ·cases h
 | .iaddrA n z x j,hc=>fun v e h=>by
   rw[cOp,Bool.and_eq_true]at hc;simp only[evOp,JO φ hc.1,JO φ hc.2]at h⊢
   cases hj:KE (j.ev fr)with
   |none=>rw[hj]at h;cases h
   | some m=>
     rw[hj]at h;rw[Yu φ hj];generalize x.ev fr=X at h⊢
     cases X<;>first|(cases h;done)|skip
     simp only[mv]at h⊢
     split at h
     ·rename_i cd
      obtain⟨rfl,rfl⟩:=JK h;rw[if_pos cd];exact⟨_,by simp only[mv], .no⟩
     ·cases h
 | .idxS x j,hc=>fun v e h=>by
   rw[cOp,Bool.and_eq_true]at hc;simp only[evOp,JO φ hc.1,JO φ hc.2]at h⊢
   cases hj:KE (j.ev fr)with
   |none=>rw[hj]at h;cases h
   | some m=>
     rw[hj]at h;rw[Yu φ hj];generalize x.ev fr=X at h⊢
     cases X<;>first|(cases h;done)|skip
     simp only[mv]at h⊢
     split at h
     ·rename_i cd
      obtain⟨rfl,rfl⟩:=JK h;rw[if_pos cd];exact⟨_,by simp only[mv], .no⟩
     ·cases h
 | .idxA n z g x j,hc=>fun v e h=>by
   rw[cOp,Bool.and_eq_true]at hc;simp only[evOp,JO φ hc.1,JO φ hc.2]at h⊢
   cases hj:KE (j.ev fr)with
   |none=>rw[hj]at h;cases h
   | some m=>
     rw[hj]at h;rw[Yu φ hj];generalize x.ev fr=X at h⊢
     cases X<;>first|(cases h;done)|skip
     rename_i l
     simp only[mv,KM,List.length_map,List.getElem?_map]at h⊢
     split at h
     ·rename_i cd
      rw[if_pos cd]
      cases g with
      | true=>
        simp only[if_true]at h⊢
        split at h
        ·rename_i cd
         obtain⟨rfl,rfl⟩:=JK h;rw[if_pos cd];exact⟨_,by simp only[mv,KM,List.map_take,List.map_drop], .no⟩
        ·cases h
      | false=>
        simp only[Bool.false_eq_true,if_false]at h⊢
        cases hl:l[m*z]? with
        |none=>rw[hl]at h;cases h
        | some w=>
          rw[hl]at h;obtain⟨rfl,rfl⟩:=JK h;exact⟨_,rfl, .no⟩
     ·cases h
 | .lookup ek z ok m k,hc=>fun v e h=>by
   rw[cOp,Bool.and_eq_true,Bool.and_eq_true]at hc;have hz:=Kw φ z hc.1;simp only[evOp,JO φ hc.2.1,JO φ hc.2.2]at h⊢
   cases hm:Yf a (m.ev fr)with
   |none=>rw[hm]at h;cases h
   | some es=>
     rw[hm]at h;rw[Jl1 H hm];simp only at h⊢
     split at h
     ·cases h
     rename_i cd
     rw[if_neg (by rw[JjQ φ (JgM cd)];decide)]
     cases hf:Ky ek (k.ev fr) es 0 with
     |none=>rw[hf]at h;cases h
     | some o=>
       rw[hf]at h;rw[JbZ φ hf]
       cases o with
       | none=>
         obtain⟨rfl,rfl⟩:=JK h;exact⟨_,by simp only[Option.map_some,Option.map_none];cases ok<;>simp[mv,mvs,hz], .no⟩
       | some p=>
         obtain⟨rfl,rfl⟩:=JK h;exact⟨_,by simp only[Option.map_some];cases ok<;>simp[mv,mvs], .no⟩
 | .mupd ek m k w,hc=>fun v e h=>by
   rw[cOp,Bool.and_eq_true,Bool.and_eq_true]at hc;simp only[evOp,JO φ hc.1,JO φ hc.2.1,JO φ hc.2.2]at h⊢;generalize m.ev fr=M at h⊢
   cases M<;>first|(cases h;done)|skip
   rename_i r
   simp only[mv]at h⊢
   split at h
   ·rename_i t es hr
    obtain⟨u,e1,e2⟩:=qm H hr;rw[e1];simp only at h⊢
    split at h
    ·cases h
    rename_i cd
    rw[if_neg (by rw[JjQ φ (JgM cd)];decide)]
    cases hf:Ky ek (k.ev fr) es 0 with
    |none=>rw[hf]at h;cases h
    | some o=>
      rw[hf]at h;rw[JbZ φ hf]
      cases o with
      | none=>
        obtain⟨rfl,rfl⟩:=JK h;exact⟨_,by simp only[Option.map_some,Option.map_none];rw[Kw φ JR rfl], .wr (fun t u k=>⟨u,by simp[mv2],k⟩) e2 (by rw[hr];intro e;cases e)⟩
      | some p=>
        obtain⟨rfl,rfl⟩:=JK h;exact⟨_,by simp only[Option.map_some];rw[Kw φ JR rfl], .wr (fun t u k=>⟨u,by rw[Jcp (f':=fun _=>(mv φ _,mv φ _)) (fun x=>rfl)],k⟩) e2 (by rw[hr];intro e;cases e)⟩
   ·cases h
 | .ment ek z m k,hc=>fun v e h=>by
   rw[cOp,Bool.and_eq_true,Bool.and_eq_true]at hc;have hz:=Kw φ z hc.1;simp only[evOp,JO φ hc.2.1,JO φ hc.2.2]at h⊢;generalize m.ev fr=M at h⊢
   cases M<;>first|(cases h;done)|skip
   rename_i r
   simp only[mv]at h⊢
   split at h
   ·rename_i t es hr
    obtain⟨u,e1,e2⟩:=qm H hr;rw[e1];simp only at h⊢
    split at h
    ·cases h
    rename_i cd
    rw[if_neg (by rw[JjQ φ (Bool.and_eq_true _ _▸JgM cd).1,JpC φ (Bool.and_eq_true _ _▸JgM cd).2];decide)]
    cases hf:Ky ek (k.ev fr) es 0 with
    |none=>rw[hf]at h;cases h
    | some o=>
      rw[hf]at h;rw[JbZ φ hf]
      cases o with
      | none=>
        obtain⟨rfl,rfl⟩:=JK h;exact⟨.wr (φ r) u fun t=> .mob t (es.map (mv2 φ)++[(mv φ (k.ev fr),z)]),by simp only[Option.map_some,Option.map_none,mv,mvs,hz,List.length_map], .wr (fun t u k=>⟨u,by simp[mv2,hz],k⟩) e2 (by rw[hr];intro e;cases e)⟩
      | some p=>
        obtain⟨rfl,rfl⟩:=JK h;exact⟨.wr (φ r) u fun t=> .mob t ((es.map (mv2 φ)).modify p.1 fun e=>(mv φ (k.ev fr),e.2)),by simp only[Option.map_some,mv,mvs], .wr (fun t u w=>⟨u,by rw[Jcp (f':=fun e=>(mv φ (k.ev fr),e.2)) (fun x=>rfl)],w⟩) e2 (by rw[hr];intro e;cases e)⟩
   ·cases h
 | .ests m s w,hc=>fun v e h=>by
   rw[cOp,Bool.and_eq_true,Bool.and_eq_true]at hc;simp only[evOp,JO φ hc.1,JO φ hc.2.1,JO φ hc.2.2]at h⊢;generalize m.ev fr=M at h⊢
   cases hj:KE (s.ev fr)with
   |none=>rw[hj]at h;cases M<;>cases h
   | some j=>
     rw[hj]at h;rw[Yu φ hj]
     cases M<;>first|(cases h;done)|skip
     rename_i r
     simp only[mv]at h⊢
     split at h
     ·rename_i t es hr
      obtain⟨u,e1,e2⟩:=qm H hr;rw[e1];simp only[List.length_map]
      split at h
      ·rename_i cd
       obtain⟨rfl,rfl⟩:=JK h;rw[if_pos cd];exact⟨_,by rw[Kw φ JR rfl], .wr (fun t u k=>⟨u,by rw[Jcp (f':=fun e=>(e.1,mv φ (w.ev fr))) (fun x=>rfl)],k⟩) e2 (by rw[hr];intro e;cases e)⟩
      ·cases h
     ·cases h
 | .rngS x,hc=>fun v e h=>by
   simp only[evOp,JO φ (show cOpd x=true from hc)]at h⊢;generalize x.ev fr=X at h⊢
   cases X<;>first|(cases h;done)|skip
   obtain⟨rfl,rfl⟩:=JK h
   rename_i n w
   exact⟨.new fun t=> .sit t n w 0,by simp only[mv,H.nx], .new fun t u k=>⟨u,rfl,k⟩⟩
 | .rngM x,hc=>fun v e h=>by
   simp only[evOp,JO φ (show cOpd x=true from hc)]at h⊢;generalize x.ev fr=X at h⊢
   cases X<;>first|(cases h;done)|skip
   ·obtain⟨rfl,rfl⟩:=JK h;exact⟨.new fun t=> .mit t none 0 0,by simp only[mv,H.nx], .new fun t u k=>⟨u,rfl,k⟩⟩
   ·rename_i r
    simp only[mv]at h⊢
    split at h
    ·rename_i t es hr
     obtain⟨u,e1,e2⟩:=qm H hr;rw[e1];obtain⟨rfl,rfl⟩:=JK h;exact⟨.new fun t=> .mit t (some (φ r)) es.length 0,by simp only[mv,H.nx,List.length_map], .new fun t u k=>⟨u,rfl,k⟩⟩
    ·cases h
 | .jc x,hc=>fun v e h=>by
   simp only[evOp,JO φ (show cOpd x=true from hc)]at h⊢;generalize x.ev fr=X at h⊢
   cases X<;>first|(cases h;done)|skip
   rename_i r o
   cases o with
   |succ o=>cases h
   | zero=>
     simp only[mv]at h⊢
     split at h
     ·rename_i t n w pos hr
      have:=H.row r;rw[hr]at this;obtain⟨u,e1,e2⟩:=this;rw[e1];simp only
      split at h
      ·rename_i c1
       rw[if_pos c1]
       split at h
       ·rename_i c2
        obtain⟨rfl,rfl⟩:=JK h;rw[if_pos c2];exact⟨_,by simp only[mv,mvs], .wr (fun t u k=>⟨u,rfl,k⟩) e2 (by rw[hr];intro e;cases e)⟩
       ·rename_i c2
        obtain⟨rfl,rfl⟩:=JK h;rw[if_neg c2];exact⟨_,by simp only[mv,mvs], .wr (fun t u k=>⟨u,rfl,k⟩) e2 (by rw[hr];intro e;cases e)⟩
      ·rename_i c1
       obtain⟨rfl,rfl⟩:=JK h;rw[if_neg c1];exact⟨_,by simp only[mv,mvs], .no⟩
     ·cases h
 | .nextM x,hc=>fun v e h=>by
   simp only[evOp,JO φ (show cOpd x=true from hc)]at h⊢;generalize x.ev fr=X at h⊢
   cases X<;>first|(cases h;done)|skip
   rename_i r o
   cases o with
   |succ o=>cases h
   | zero=>
     simp only[mv]at h⊢;have hR:=H.row r
     split at h
     ·rename_i hr
      rw[hr]at hR;obtain⟨u,e1,e2⟩:=hR;rw[e1];obtain⟨rfl,rfl⟩:=JK h;exact⟨_,by simp only[mv,mvs,Option.map_none], .no⟩
     ·rename_i t m n c hr
      rw[hr]at hR;obtain⟨u,e1,e2⟩:=hR;rw[e1];simp only[Option.map_some]
      split at h
      ·rename_i t2 es hr2
       obtain⟨u2,e3,_⟩:=qm H hr2;rw[e3];simp only[List.length_map]
       split at h
       ·cases h
       rename_i c1
       rw[if_neg c1]
       split at h
       ·rename_i c2
        obtain⟨rfl,rfl⟩:=JK h;rw[if_pos c2];exact⟨.wr (φ r) u fun u=> .mit u (some (φ m)) n (c+1),by simp only[mv,mvs], .wr (fun t u k=>⟨u,rfl,k⟩) e2 (by rw[hr];intro e;cases e)⟩
       ·rename_i c2
        obtain⟨rfl,rfl⟩:=JK h;rw[if_neg c2];exact⟨_,by simp only[mv,mvs], .no⟩
      ·cases h
     ·cases h
 | .ext n x,hc=>fun v e h=>by
   simp only[evOp,JO φ (show cOpd x=true from hc)]at h⊢;generalize x.ev fr=X at h⊢
   cases X<;>first|(cases h;done)|skip
   rename_i l
   simp only[mv,KM,List.getElem?_map]at h⊢
   cases hl:l[n]? with
   |none=>rw[hl]at h;cases h
   | some w=>
     rw[hl]at h;obtain⟨rfl,rfl⟩:=JK h;exact⟨_,rfl, .no⟩
 | .call _ _,hc=>fun v e h=>by cases h
 | .callv _ _,hc=>fun v e h=>by cases h
 | .lenS x,hc=>fun v e h=>by
   simp only[evOp,JO φ (show cOpd x=true from hc)]at h⊢;generalize x.ev fr=X at h⊢
   cases X<;>first|(cases h;done)|skip
   obtain⟨rfl,rfl⟩:=JK h;exact⟨_,by simp only[mv], .no⟩
 | .lenM x,hc=>fun v e h=>by
   simp only[evOp,JO φ (show cOpd x=true from hc)]at h⊢;generalize x.ev fr=X at h⊢
   cases X<;>first|(cases h;done)|skip
   ·obtain⟨rfl,rfl⟩:=JK h;exact⟨_,by simp only[mv], .no⟩
   ·rename_i r
    simp only[mv]at h⊢
    split at h
    ·rename_i t es hr
     obtain⟨u,e1,e2⟩:=qm H hr;rw[e1];obtain⟨rfl,rfl⟩:=JK h;exact⟨_,by simp only[mv,List.length_map], .no⟩
    ·cases h
 | .lenL x,hc=>fun v e h=>by
   simp only[evOp,JO φ (show cOpd x=true from hc),Jax φ H.num]at h⊢
   cases hl:slen (x.ev fr)with
   |none=>rw[hl]at h;cases h
   | some w=>
     rw[hl]at h;obtain⟨rfl,rfl⟩:=JK h;exact⟨_,by simp only[mv];rfl, .no⟩
 | .cap x,hc=>fun v e h=>by
   simp only[evOp,JO φ (show cOpd x=true from hc)]at h⊢;generalize x.ev fr=X at h⊢
   cases X<;>first|(cases h;done)|skip
   all_goals
    obtain⟨rfl,rfl⟩:=JK h;exact⟨_,by simp only[mv], .no⟩
 | .app z s x,hc=>fun v e h=>by
   rw[cOp,Bool.and_eq_true]at hc;simp only[evOp,JO φ hc.1,JO φ hc.2,Jax φ H.num]at h⊢
   split at h
   ·rename_i k hk
    split at h
    ·rename_i new hn
     rw[jr H hn];simp only[JbY φ H.num]
     split at h
     ·rename_i cd
      rw[if_pos cd];exact Jl0 H h
     ·cases h
    ·cases h
   ·cases h
 | .copy z d x,hc=>fun v e h=>by
   rw[cOp,Bool.and_eq_true]at hc;simp only[evOp,JO φ hc.1,JO φ hc.2,Jax φ H.num,Jn7 φ H.num]at h⊢
   split at h
   ·rename_i n k hn hk
    split at h
    ·rename_i vs hvs
     rw[JlZ H hvs];simp only
     split at h
     ·rename_i cd
      obtain⟨rfl,rfl⟩:=JK h;rw[if_pos cd];exact⟨_,by simp only[mv], .no⟩
     rename_i cd
     rw[if_neg cd];generalize d.ev fr=D at h⊢
     cases D<;>first|(cases h;done)|skip
     all_goals
      simp only[qu,mv]at h⊢;obtain⟨e1,hs,h2⟩:=JA h;obtain⟨rfl,rfl⟩:=JK (congrArg some h2);obtain⟨e',k1,k2⟩:=JeH H hs;rw[mv]at k1;exact⟨e',by rw[k1];rfl,k2⟩
    ·cases h
   ·cases h
 | .min x y,hc=>fun v e h=>by
   rw[cOp,Bool.and_eq_true]at hc;simp only[evOp,JO φ hc.1,JO φ hc.2]at h⊢;generalize x.ev fr=X at h⊢;generalize y.ev fr=Y at h⊢
   cases X<;>first|(cases h;done)|skip
   cases Y<;>first|(cases h;done)|skip
   simp only[mv]at h⊢
   split at h
   ·rename_i cd
    obtain⟨rfl,rfl⟩:=JK h;rw[if_pos cd];exact⟨_,by simp only[mv], .no⟩
   ·cases h
 | .max x y,hc=>fun v e h=>by
   rw[cOp,Bool.and_eq_true]at hc;simp only[evOp,JO φ hc.1,JO φ hc.2]at h⊢;generalize x.ev fr=X at h⊢;generalize y.ev fr=Y at h⊢
   cases X<;>first|(cases h;done)|skip
   cases Y<;>first|(cases h;done)|skip
   simp only[mv]at h⊢
   split at h
   ·rename_i cd
    obtain⟨rfl,rfl⟩:=JK h;rw[if_pos cd];exact⟨_,by simp only[mv], .no⟩
   ·cases h
 | .clear z zs x,hc=>fun v e h=>by
   rw[cOp,Bool.and_eq_true]at hc;simp only[evOp,JO φ hc.2,Jax φ H.num]at h⊢
   split at h
   ·rename_i n hn
    split at h
    ·rename_i cd
     obtain⟨rfl,rfl⟩:=JK h;rw[if_pos cd];exact⟨_,by rw[Kw φ JR rfl], .no⟩
    rename_i cd
    rw[if_neg cd];generalize x.ev fr=X at h⊢
    cases X<;>first|(cases h;done)|skip
    all_goals
     simp only[qu,mv]at h⊢
     split at h
     ·rename_i cz
      rw[if_pos cz];obtain⟨e1,hs,h2⟩:=JA h;obtain⟨rfl,rfl⟩:=JK (congrArg some h2);obtain⟨e',k1,k2⟩:=JeH H hs;rw[mv,Jlo zs hc.1]at k1;exact⟨e',by rw[k1,Kw φ JR rfl];rfl,k2⟩
     ·cases h
   ·cases h
end
def JiJ :List Ins->Bool
 |[]=>true
 |x::r=>cOp x.op&&JiJ r
def cC :C->Bool
 | .skip=>true
 | .reg l=>JiJ l
 | .drw l _=>JiJ l
 | .seq a b=>cC a&&cC b
 | .seqj _ a b=>cC a&&cC b
 | .cond c a b=>cOpd c&&(cC a&&cC b)
 | .block _ b=>cC b
 | .loop _ b=>cC b
 | .exit _=>true
 | .ret=>true
def Jlp (self:Self):Prop:=∀f args a v a',self f args a=some (v,a')->∀φ n0 i0 i g b,Emb φ n0 i0 i a b->LowE g i0 i a b->∃b',self f (args.map (mv φ)) b=some (mv φ v,b')/\Yc φ n0 i0 i g a b a' b'
theorem JgN {self:Self}{fr:Fr}{st:St}{op:Iop}(h:op.calls=false):Kn self fr st op=(evOp fr st op).map fun(v,e)=>(v,st.ap e):=by
 cases op<;>first
  |rfl
  |cases h
theorem JjR (φ:Rn)(fr:Fr)(d:Option Nat)(v:V):put (mvF φ fr) d (mv φ v)=mvF φ (put fr d v):=by
 cases d with
 |none=>rfl
 | some i=>
   funext j;simp only[put,mvF]
   split<;>rfl
section
variable {self : Self} (hs : Jlp self) {φ : Rn} {n0 i0 i : Nat}
include hs
theorem Jf6 {g:Bool}{a b:St}{fr:Fr}{op:Iop}(hc:cOp op=true)(H:Emb φ n0 i0 i a b)(hl:LowE g i0 i a b){v:V}{a':St}(h:Kn self fr a op=some (v,a')):
  ∃b',Kn self (mvF φ fr) b op=some (mv φ v,b')/\Yc φ n0 i0 i g a b a' b':=by
 cases hcal:op.calls with
 | false=>
   rw[JgN hcal]at h⊢;obtain⟨⟨v1,e⟩,h1,h2⟩:=JA h;obtain⟨rfl,rfl⟩:=JK (congrArg some h2);obtain⟨e',k1,k2⟩:=JpE H op hc _ _ h1;exact⟨_,by rw[k1];rfl,JpD H hl k2 (jy k1).1⟩
 | true=>
   cases op<;>first|(cases hcal;done)|skip
   ·rename_i f as
    have h:self f (evs fr as) a=some (v,a'):=h;show∃b',self f (evs (mvF φ fr) as) b=some (mv φ v,b')/\_;rw[JeG φ (show cOps as=true from hc)];exact hs _ _ _ _ _ h _ _ _ _ _ _ H hl
   ·rename_i x as
    rw[cOp,Bool.and_eq_true]at hc;simp only[Kn,JO φ hc.1]at h⊢;generalize x.ev fr=X at h⊢
    cases X<;>first|(cases h;done)|skip
    simp only[mv,KM,JeG φ hc.2,<-List.map_append]at h⊢;exact hs _ _ _ _ _ h _ _ _ _ _ _ H hl
omit hs in
theorem Emb.lo {a b:St}(H:Emb φ n0 i0 i a b)(x y:Nat):Emb φ n0 i0 i {a with low:=x} {b with low:=y}:=
 ⟨H.num,H.inj,H.suc,H.n0,H.nx,H.t,H.pos,fun p=>H.row p,JD H.wf _⟩
omit hs in
theorem JgO {a b:St}(H:Emb φ n0 i0 i a b){s w:Nat}(hk:∃k,s=i0+k/\w=i+k)(p:Pt)(h:(a.row p).time<s):(b.row (φ p)).time<w:=by
 have hR:=H.row p;obtain⟨k,rfl,rfl⟩:=hk;have zero:(0<i0+k)->0<i+k:=fun h=>by
  have:=H.pos;omega
 cases hr:a.row p with
 |none=>rw[hr]at hR h;rw[show b.row (φ p)=_ from hR];exact zero h
 |ro l=>rw[hr]at hR h;rw[show b.row (φ p)=_ from hR];exact zero h
 |cells t l=>rw[hr]at hR h;obtain⟨u,e,k⟩:=hR;rw[e];exact(k.lt ⟨_,rfl,rfl⟩).1 h
 |dead t=>rw[hr]at hR h;exact(hR.2.lt ⟨_,rfl,rfl⟩).1 h
 |mob t l=>rw[hr]at hR h;obtain⟨u,e,k⟩:=hR;rw[e];exact(k.lt ⟨_,rfl,rfl⟩).1 h
 |sit t _ _ _=>rw[hr]at hR h;obtain⟨u,e,k⟩:=hR;rw[e];exact(k.lt ⟨_,rfl,rfl⟩).1 h
 |mit t _ _ _=>rw[hr]at hR h;obtain⟨u,e,k⟩:=hR;rw[e];exact(k.lt ⟨_,rfl,rfl⟩).1 h
omit hs in
theorem Jn9 {a b:St}(H:Emb φ n0 i0 i a b){fr:Fr}{s w:Nat}(hk:∃k,s=i0+k/\w=i+k){l:List Nat}(h:still fr a s l=true):still (mvF φ fr) b w l=true:=by
 unfold still at h⊢;rw[List.all_eq_true]at h⊢;intro x hx;have hx:=h x hx;simp only[mvF,JiG φ H.num]at hx⊢
 cases hr:rowOf (fr x)with
 |none=>rfl
 | some r=>
   rw[hr]at hx;simp only[Option.map_some]at hx⊢;exact decide_eq_true (JgO H hk r (of_decide_eq_true hx))
theorem JiK {g:Bool}{a b:St}{fr:Fr}{op:Iop}{okW:Option (List Nat)}(hc:cOp op=true)(H:Emb φ n0 i0 i a b)(hl:LowE g i0 i a b){v:V}{a':St}(h:Ke self okW fr a op=some (v,a')):
  ∃b',Ke self okW (mvF φ fr) b op=some (mv φ v,b')/\Yc φ n0 i0 i g a b a' b':=by
 unfold Ke at h⊢
 split at h
 ·rename_i v1 a1 h1
  obtain⟨b1,k1,k2⟩:=Jf6 hs hc (H.lo a.t b.t) (g:=true) (fun _=> .inr H.t) h1;rw[k1];simp only;have hlt:a1.low<a.t<->b1.low<b.t:=(k2.low rfl).lt H.t;have stp:∀x y,Stp φ a b {a1 with low:=x} {b1 with low:=y}:=fun x y=>⟨fun s e n=>k2.stp.frame s e n,fun s e=>k2.stp.keep s e⟩
  split at h
  ·rename_i c
   rw[if_pos (hlt.1 c)]
   cases okW with
   |none=>cases h
   | some l=>
     simp only at h⊢
     split at h
     ·rename_i cs
      obtain⟨rfl,rfl⟩:=JK h;rw[if_pos (Jn9 k2.emb H.t cs)];exact⟨_,rfl,k2.emb.lo _ _,fun hg=>TR.min (k2.low rfl) (hl hg),stp _ _⟩
     ·cases h
  ·rename_i c
   obtain⟨rfl,rfl⟩:=JK h;rw[if_neg fun x=>c (hlt.2 x)];exact⟨_,rfl,k2.emb.lo _ _,hl,stp _ _⟩
 ·cases h
theorem Joa {g:Bool}{a b:St}{fr:Fr}{draw:Bool}{x:Ins}(hc:cOp x.op=true)(H:Emb φ n0 i0 i a b)(hl:LowE g i0 i a b){fr1:Fr}{a':St}(h:Qh self draw fr a x=some (fr1,a')):
  ∃b',Qh self draw (mvF φ fr) b x=some (mvF φ fr1,b')/\Yc φ n0 i0 i g a b a' b':=by
 have go:∀{fr1 a'},evGo self draw fr a x=some (fr1,a')->∃b',evGo self draw (mvF φ fr) b x=some (mvF φ fr1,b')/\Yc φ n0 i0 i g a b a' b':=by
  intro fr1 a' h;unfold evGo at h⊢
  split at h
  ·rename_i v a1 h1
   obtain⟨rfl,rfl⟩:=JK h;by_cases cd:(draw&&x.op.calls)=true
   ·rw[if_pos cd]at h1⊢;obtain⟨b1,k1,k2⟩:=JiK hs hc H hl h1;exact⟨b1,by rw[k1];simp only[JjR],k2⟩
   ·rw[if_neg cd]at h1⊢;obtain⟨b1,k1,k2⟩:=Jf6 hs hc H hl h1;exact⟨b1,by rw[k1];simp only[JjR],k2⟩
  ·cases h
 have hu:∀fr:Fr,put (mvF φ fr) x.dst JR=mvF φ (put fr x.dst JR):=fun fr=>by
  have:=JjR φ fr x.dst JR
  rwa [Kw φ JR rfl]at this
 unfold Qh at h⊢
 split at h
 ·exact go h
 ·rename_i q want hq
  simp only[mvF]at h⊢;generalize fr q=G at h⊢
  cases G<;>first|(cases h;done)|skip
  ·rename_i t
   simp only[mv]at h⊢
   split at h
   ·rename_i c
    rw[if_pos c];exact go h
   ·rename_i c
    rw[if_neg c];obtain⟨rfl,rfl⟩:=JK h;exact⟨b,by rw[<-hu],H,hl,Stp.refl⟩
  ·simp only[mv]at h⊢;obtain⟨rfl,rfl⟩:=JK h;exact⟨b,by rw[<-hu],H,hl,Stp.refl⟩
theorem qX {g:Bool}{draw:Bool}:∀{l:List Ins} {a b:St} {fr fr1:Fr} {a':St},JiJ l=true->Emb φ n0 i0 i a b->LowE g i0 i a b->JU self draw l fr a=some (fr1,a')->
  ∃b',JU self draw l (mvF φ fr) b=some (mvF φ fr1,b')/\Yc φ n0 i0 i g a b a' b'
 | [],a,b,fr,fr1,a',_,H,hl,h=>by
   obtain⟨rfl,rfl⟩:=JK h;exact⟨b,rfl,H,hl,Stp.refl⟩
 | x::r,a,b,fr,fr1,a',hc,H,hl,h=>by
   rw[JiJ,Bool.and_eq_true]at hc;simp only[JU]at h⊢
   split at h
   ·rename_i fr2 a1 h1
    obtain⟨b1,k1,k2⟩:=Joa hs hc.1 H hl h1;obtain⟨b2,m1,m2⟩:=qX hc.2 k2.emb k2.low h;exact⟨b2,by rw[k1];exact m1,k2.trans H m2⟩
   ·cases h
omit hs in
def OutE (φ:Rn)(n0 i0 i:Nat)(g:Bool)(a b:St):Out->Out->Prop
 | .norm fr a', .norm fr' b'=>fr'=mvF φ fr/\Yc φ n0 i0 i g a b a' b'
 | .exit k fr a', .exit k' fr' b'=>k'=k/\fr'=mvF φ fr/\Yc φ n0 i0 i g a b a' b'
 | .ret fr a', .ret fr' b'=>fr'=mvF φ fr/\Yc φ n0 i0 i g a b a' b'
 |_,_=>False
omit hs in
theorem OutE.pre {g:Bool}{a b a1 b1:St}(H:Emb φ n0 i0 i a b)(p:Yc φ n0 i0 i g a b a1 b1):∀{x y:Out},OutE φ n0 i0 i g a1 b1 x y->OutE φ n0 i0 i g a b x y
 | .norm _ _, .norm _ _,h=>⟨h.1,p.trans H h.2⟩
 | .norm _ _, .exit _ _ _,h=>h.elim
 | .norm _ _, .ret _ _,h=>h.elim
 | .exit _ _ _, .norm _ _,h=>h.elim
 | .exit _ _ _, .exit _ _ _,h=>⟨h.1,h.2.1,p.trans H h.2.2⟩
 | .exit _ _ _, .ret _ _,h=>h.elim
 | .ret _ _, .norm _ _,h=>h.elim
 | .ret _ _, .exit _ _ _,h=>h.elim
 | .ret _ _, .ret _ _,h=>⟨h.1,p.trans H h.2⟩
omit hs in
theorem JiL {g:Bool}{body:Fr->St->Option Out}{live:List Nat}(hb:∀(a b:St) (fr:Fr) (out:Out),Emb φ n0 i0 i a b->LowE g i0 i a b->body fr a=some out->∃out',body (mvF φ fr) b=some out'/\OutE φ n0 i0 i g a b out out'):
  ∀(k:Nat) {a b:St} {fr:Fr} {out:Out},Emb φ n0 i0 i a b->LowE g i0 i a b->Yw body live k fr a=some out->∃out',Yw body live k (mvF φ fr) b=some out'/\OutE φ n0 i0 i g a b out out'
 |0,_,_,_,_,_,_,h=>by cases h
 | k+1,a,b,fr,out,H,hl,h=>by
   simp only[Yw]at h⊢
   split at h
   ·rename_i fr1 a1 h1
    obtain⟨o,k1,k2⟩:=hb _ _ _ _ H hl h1;rw[k1]
    cases o with
    | norm fr2 b1=>
      obtain⟨rfl,p⟩:=k2;obtain⟨o2,m1,m2⟩:=JiL hb k p.emb p.low h;exact⟨o2,m1,m2.pre H p⟩
    |exit _ _ _=>exact k2.elim
    |ret _ _=>exact k2.elim
   ·rename_i hn
    obtain⟨o,k1,k2⟩:=hb _ _ _ _ H hl h;rw[k1]
    cases o with
    | norm fr2 b1=>
      cases out with
      |norm fr1 a1=>exact absurd h (hn _ _)
      |exit _ _ _=>exact k2.elim
      |ret _ _=>exact k2.elim
    |exit _ _ _=>exact⟨_,rfl,k2⟩
    |ret _ _=>exact⟨_,rfl,k2⟩
omit hs in
theorem Job (hφ:φ.ok)(inj:∀p q,φ p=φ q->p=q){fr:Fr}{chk:List (List Nat×List Nat)}(h:JZ fr chk=true):JZ (mvF φ fr) chk=true:=by
 unfold JZ at h⊢;rw[List.all_eq_true]at h⊢;intro p hp;have h1:=h p hp;simp only[List.all_eq_true]at h1⊢;intro x hx y hy;have h2:=h1 x hx y hy;simp only[mvF,JiG φ hφ]
 cases hr:rowOf (fr x)with
 |none=>rfl
 | some r=>
   cases hq:rowOf (fr y)with
   |none=>rfl
   | some q=>
     rw[hr,hq]at h2;simp only[Option.map_some]at h2⊢;exact decide_eq_true fun e=>of_decide_eq_true h2 (inj _ _ e)
theorem Jro (lf:Nat){g:Bool}:∀(cc:C) {a b:St} {fr:Fr} {out:Out},cC cc=true->Emb φ n0 i0 i a b->LowE g i0 i a b->evD self lf cc fr a=some out->
  ∃out',evD self lf cc (mvF φ fr) b=some out'/\OutE φ n0 i0 i g a b out out':=by
 intro cc;have two:∀(x y:C),(∀{a b:St} {fr:Fr} {out:Out},cC x=true->Emb φ n0 i0 i a b->LowE g i0 i a b->evD self lf x fr a=some out->∃out',evD self lf x (mvF φ fr) b=some out'/\OutE φ n0 i0 i g a b out out')->
   (∀{a b:St} {fr:Fr} {out:Out},cC y=true->Emb φ n0 i0 i a b->LowE g i0 i a b->evD self lf y fr a=some out->∃out',evD self lf y (mvF φ fr) b=some out'/\OutE φ n0 i0 i g a b out out')->
   ∀{a b:St} {fr:Fr} {out:Out},cC x=true->cC y=true->Emb φ n0 i0 i a b->LowE g i0 i a b->(match evD self lf x fr a with
    |some (.norm fr st)=>evD self lf y fr st
    |r=>r)=some out->∃out',(match evD self lf x (mvF φ fr) b with
    |some (.norm fr st)=>evD self lf y fr st
    |r=>r)=some out'/\OutE φ n0 i0 i g a b out out':=by
  intro x y ihx ihy a b fr out hx hy H hl h
  split at h
  ·rename_i fr1 a1 h1
   obtain⟨o,k1,k2⟩:=ihx hx H hl h1;rw[k1]
   cases o with
   | norm fr2 b1=>
     obtain⟨rfl,p⟩:=k2;obtain⟨o2,m1,m2⟩:=ihy hy p.emb p.low h;exact⟨o2,m1,m2.pre H p⟩
   |exit _ _ _=>exact k2.elim
   |ret _ _=>exact k2.elim
  ·rename_i hn
   obtain⟨o,k1,k2⟩:=ihx hx H hl h;rw[k1]
   cases o with
   | norm fr2 b1=>
     cases out with
     |norm fr1 a1=>exact absurd h (hn _ _)
     |exit _ _ _=>exact k2.elim
     |ret _ _=>exact k2.elim
   |exit _ _ _=>exact⟨_,rfl,k2⟩
   |ret _ _=>exact⟨_,rfl,k2⟩
 induction cc with
 | skip=>
   intro a b fr out _ H hl h;simp only[evD,Option.some.injEq]at h;subst h;exact⟨.norm (mvF φ fr) b,rfl,rfl,H,hl,Stp.refl⟩
 | reg l=>
   intro a b fr out hc H hl h;simp only[evD]at h⊢;obtain⟨⟨fr1,a1⟩,h1,h2⟩:=JA h;subst h2;obtain⟨b1,k1,k2⟩:=qX hs hc H hl h1;exact⟨.norm (mvF φ fr1) b1,by rw[k1];rfl,rfl,k2⟩
 | drw l chk=>
   intro a b fr out hc H hl h;simp only[evD]at h⊢
   split at h
   ·rename_i fr1 a1 h1
    obtain⟨b1,k1,k2⟩:=qX hs hc H hl h1;rw[k1]
    split at h
    ·rename_i ca
     injection h with h;subst h;exact⟨.norm (mvF φ fr1) b1,by simp only[Job H.num H.inj ca,if_true],rfl,k2⟩
    ·cases h
   ·cases h
 | seq x y ihx ihy=>
   intro a b fr out hc H hl h;rw[cC,Bool.and_eq_true]at hc;simp only[evD]at h⊢;exact two x y ihx ihy hc.1 hc.2 H hl h
 | seqj live x y ihx ihy=>
   intro a b fr out hc H hl h;rw[cC,Bool.and_eq_true]at hc;simp only[evD]at h⊢;exact two x y ihx ihy hc.1 hc.2 H hl h
 | cond c x y ihx ihy=>
   intro a b fr out hc H hl h;rw[cC,Bool.and_eq_true,Bool.and_eq_true]at hc;simp only[evD,JO φ hc.1]at h⊢;generalize c.ev fr=G at h⊢
   cases G<;>first|(cases h;done)|skip
   simp only[mv]at h⊢
   split at h
   ·rename_i c;rw[if_pos c];exact ihx hc.2.1 H hl h
   ·rename_i c;rw[if_neg c];exact ihy hc.2.2 H hl h
 | block id x ih=>
   intro a b fr out hc H hl h;simp only[evD]at h⊢
   split at h
   ·rename_i k fr1 a1 h1
    obtain⟨o,k1,k2⟩:=ih hc H hl h1;rw[k1]
    cases o with
    |norm _ _=>exact k2.elim
    |ret _ _=>exact k2.elim
    | exit k' fr2 b1=>
      obtain⟨rfl,rfl,p⟩:=k2;simp only
      split at h
      ·rename_i c
       injection h with h;subst h;rw[if_pos c];exact⟨.norm (mvF φ fr1) b1,rfl,rfl,p⟩
      ·rename_i c
       injection h with h;subst h;rw[if_neg c];exact⟨.exit k' (mvF φ fr1) b1,rfl,rfl,rfl,p⟩
   ·rename_i hn
    obtain⟨o,k1,k2⟩:=ih hc H hl h;rw[k1]
    cases o with
    | exit k' fr2 b1=>
      cases out with
      |exit _ _ _=>exact absurd h (hn _ _ _)
      |norm _ _=>exact k2.elim
      |ret _ _=>exact k2.elim
    |norm _ _=>exact⟨_,rfl,k2⟩
    |ret _ _=>exact⟨_,rfl,k2⟩
 | loop live x ih=>
   intro a b fr out hc H hl h;exact JiL (fun a b fr out H hl h=>ih hc H hl h) lf H hl h
 | exit k=>
   intro a b fr out _ H hl h;simp only[evD,Option.some.injEq]at h;subst h;exact⟨.exit k (mvF φ fr) b,rfl,rfl,rfl,H,hl,Stp.refl⟩
 | ret=>
   intro a b fr out _ H hl h;simp only[evD,Option.some.injEq]at h;subst h;exact⟨.ret (mvF φ fr) b,rfl,rfl,H,hl,Stp.refl⟩
end
section
variable {φ : Rn} {n0 i0 i : Nat} {a b : St}
theorem JpF (args:List V):Yg (args.map (mv φ))=mvF φ (Yg args):=by
 funext j;simp only[Yg,mvF,List.getElem?_map]
 cases args[j]? with
 |none=>exact(Kw φ JR rfl).symm
 |some x=>rfl
theorem Jrp (H:Emb φ n0 i0 i a b){fr:Fr}:∀{s:RS} {v:V},QA fr a s=some v->QA (mvF φ fr) b s=some (mv φ v)
 | .s k,v,h=>by injection h with h;subst h;rfl
 | .c1 k,v,h=>by
   simp only[QA,mvF]at h⊢
   split at h
   ·rename_i w hw
    injection h with h;subst h;rw[jN H hw];rfl
   ·cases h
 | .cn k n,v,h=>by
   simp only[QA,mvF]at h⊢
   cases hw:KG a n (fr k)with
   |none=>rw[hw]at h;cases h
   | some l=>
     rw[hw]at h;injection h with h;subst h;rw[jN H hw];simp only[Option.map_some,mv,KM]
theorem JgP (H:Emb φ n0 i0 i a b){fr:Fr}:∀{l:List RS} {vs:List V},l.mapM (QA fr a)=some vs->l.mapM (QA (mvF φ fr) b)=some (vs.map (mv φ))
 |[],vs,h=>by simp at h;subst h;rfl
 | s::r,vs,h=>by
   rw[List.mapM_cons]at h⊢
   cases h1:QA fr a s with
   |none=>simp[h1]at h
   | some v=>
     cases h2:r.mapM (QA fr a)with
     |none=>simp[h1,h2]at h
     | some ws=>
       simp[h1,h2]at h;subst h;simp[Jrp H h1,JgP H h2]
theorem JeI (H:Emb φ n0 i0 i a b){fr:Fr}{l:List RS}{v:V}(h:KB l fr a=some v):KB l (mvF φ fr) b=some (mv φ v):=by
 unfold KB at h⊢
 split at h
 ·rename_i u hu
  injection h with h;subst h;rw[JgP H hu];rfl
 ·rename_i vs hn hu
  injection h with h;subst h;rw[JgP H hu]
  cases vs with
  |nil=>simp[mv,KM]
  | cons x r=>
    cases r with
    |nil=>exact(hn x rfl).elim
    |cons y r=>simp[mv,KM]
 ·cases h
end
def kV (b:Self->List V->St->Option (V×St)):Prop:=∀self,Jlp self->∀args a v a',b self args a=some (v,a')->∀φ n0 i0 i g c,Emb φ n0 i0 i a c->LowE g i0 i a c->∃c',b self (args.map (mv φ)) c=some (mv φ v,c')/\Yc φ n0 i0 i g a c a' c'
theorem Jrq {lf:Nat}{cf:Fn}(hc:cC cf.body=true):kV (evFn lf cf):=by
 intro self hs args a v a' h φ n0 i0 i g c H hl;unfold evFn at h⊢
 cases hd:evD self lf cf.body (Yg args) a with
 |none=>rw[hd]at h;cases h
 | some out=>
   rw[hd]at h;obtain⟨o,k1,k2⟩:=Jro hs lf cf.body hc H hl hd;rw[JpF,k1]
   cases out with
   | norm fr a1=>
     cases o with
     | norm fr' c1=>
       obtain⟨rfl,p⟩:=k2;simp only at h⊢;obtain⟨v1,h1,h2⟩:=JA h;obtain⟨rfl,rfl⟩:=JK (congrArg some h2);exact⟨_,by rw[JeI p.emb h1];rfl,p⟩
     |exit _ _ _=>exact k2.elim
     |ret _ _=>exact k2.elim
   |exit _ _ _=>cases h
   | ret fr a1=>
     cases o with
     | ret fr' c1=>
       obtain⟨rfl,p⟩:=k2;simp only at h⊢;obtain⟨v1,h1,h2⟩:=JA h;obtain⟨rfl,rfl⟩:=JK (congrArg some h2);exact⟨_,by rw[JeI p.emb h1];rfl,p⟩
     |exit _ _ _=>exact k2.elim
     |norm _ _=>exact k2.elim
theorem JqB {T:Table}(h:∀f b,T f=some b->kV b):∀n,Jlp (run T n)
 |0=>fun f args a v a' he=>by cases he
 | n+1=>fun f args a v a' he φ n0 i0 i g b H hl=>by
   simp only[run]at he⊢
   split at he
   ·rename_i bd hb
    exact h f bd hb (run T n) (JqB h n) args a v a' he φ n0 i0 i g b H hl
   ·cases he
def TabE (T:Table):Prop:=∀n,Jlp (run T n)
theorem Joc {g:List V->Option V}(hg:∀φ args v,g args=some v->g (args.map (mv φ))=some (mv φ v)):kV (Y7 g).b:=by
 intro self hs args a v a' h φ n0 i0 i gg c H hl;simp only[Y7]at h⊢
 split at h
 ·rename_i w hw
  obtain⟨rfl,rfl⟩:=JK h;rw[hg φ _ _ hw];exact⟨_,rfl,H,hl,Stp.refl⟩
 ·cases h
theorem Jrr :kV JbC:=fun self hs args a v a' h=>by cases h
theorem Jsi {t:BT}(h:t.all fun _ e=>kV e.b):∀f,kV (selB t f):=by
 induction t with
 | leaf i e=>
   intro f;show kV (bif Nat.beq f i then e.b else JbC)
   cases Nat.beq f i with
   |true=>exact h
   |false=>exact Jrr
 | node n l r ihl ihr=>
   intro f;show kV (bif Nat.ble f n then selB l f else selB r f)
   cases Nat.ble f n with
   |true=>exact ihl h.1 f
   |false=>exact ihr h.2 f
theorem Jsj {t:BT}(h:t.all fun _ e=>kV e.b):TabE (tabT t):=JqB fun f b hb=>by
 have hb:some (selB t f)=some b:=hb;injection hb with hb;subst hb;exact Jsi h f
theorem Jsk {g:List V->Option V}(h:∀args v,g args=some v->(∃n v' m w,args=[.str n v', .str m w])/\closed v=true):kV (Y7 g).b:=Joc fun φ args v hg=>by
 obtain⟨⟨n,v',m,w,rfl⟩,hc⟩:=h args v hg;rw[Kw φ v hc];exact hg
theorem JiM :kV (Y7 Q9).b:=Jsk fun args v h=>by
 unfold Q9 at h
 split at h
 ·split at h
  ·injection h with h;subst h;exact⟨⟨_,_,_,_,rfl⟩,rfl⟩
  ·cases h
 ·cases h
mutual
def inV (n:Nat):V->Bool
 | .ptr r _=>decide (r.num<n)
 | .sl r _ _ _=>decide (r.num<n)
 | .slx r _ _ _ _=>decide (r.num<n)
 | .map r=>decide (r.num<n)
 | .fn _ a b=>inVs n a&&inVs n b
 | .agg l=>inVs n l
 | .tup l=>inVs n l
 |_=>true
def inVs (n:Nat):List V->Bool
 |[]=>true
 |x::r=>inV n x&&inVs n r
end
def inEs (n:Nat):List (V×V)->Bool
 |[]=>true
 |p::r=>(inV n p.1&&inV n p.2)&&inEs n r
def inR (n:Nat):Row->Bool
 | .cells _ l=>inVs n l
 | .ro l=>inVs n l
 | .mob _ es=>inEs n es
 | .mit _ (some m) _ _=>decide (m.num<n)
 |_=>true
def inT (n:Nat):Tr->Bool
 | .e=>true
 | .n v a b c d=>inR n v&&(inT n a&&(inT n b&&(inT n c&&inT n d)))
theorem jk {n:Nat}:∀(p:Pt) (t:Tr),inT n t=true->inR n (t.get p)=true
 |_, .e,_=>by unfold Tr.get;rfl
 | .h, .n v _ _ _ _,h=>by rw[inT,Bool.and_eq_true]at h;exact h.1
 | .a p, .n v x _ _ _,h=>by rw[inT,Bool.and_eq_true,Bool.and_eq_true]at h;exact jk p x h.2.1
 | .b p, .n v _ x _ _,h=>by rw[inT,Bool.and_eq_true,Bool.and_eq_true,Bool.and_eq_true]at h;exact jk p x h.2.2.1
 | .c p, .n v _ _ x _,h=>by rw[inT,Bool.and_eq_true,Bool.and_eq_true,Bool.and_eq_true,Bool.and_eq_true]at h;exact jk p x h.2.2.2.1
 | .d p, .n v _ _ _ x,h=>by rw[inT,Bool.and_eq_true,Bool.and_eq_true,Bool.and_eq_true,Bool.and_eq_true]at h;exact jk p x h.2.2.2.2
mutual
theorem JeJ (n:Nat):∀v:V,closed v=true->inV n v=true
 | .ptr _ _,h=>by simp[closed]at h
 | .sl _ _ _ _,h=>by simp[closed]at h
 | .slx _ _ _ _ _,h=>by simp[closed]at h
 | .map _,h=>by simp[closed]at h
 | .fn _ a b,h=>by
   rw[closed,Bool.and_eq_true]at h;rw[inV,Yd n a h.1,Yd n b h.2];rfl
 | .agg l,h=>by rw[closed]at h;rw[inV,Yd n l h]
 | .tup l,h=>by rw[closed]at h;rw[inV,Yd n l h]
 | .bool _,_=>by simp[inV]
 | .int _ _,_=>by simp[inV]
 | .im _ _,_=>by simp[inV]
 | .str _ _,_=>by simp[inV]
 | .pnil,_=>by simp[inV]
 | .snil,_=>by simp[inV]
 | .mnil,_=>by simp[inV]
 | .fnil,_=>by simp[inV]
 | .any,_=>by simp[inV]
 | .opq _,_=>by simp[inV]
theorem Yd (n:Nat):∀l:List V,Qb l=true->inVs n l=true
 |[],_=>by rw[inVs]
 | x::r,h=>by
   rw[Qb,Bool.and_eq_true]at h;rw[inVs,JeJ n x h.1,Yd n r h.2];rfl
end
structure Agr (n:Nat) (φ ψ:Rn):Prop where
 f:∀p:Pt,p.num<n->ψ p=φ p
 s:ψ.s=φ.s
theorem Agr.refl (n:Nat)(φ:Rn):Agr n φ φ:=⟨fun _ _=>rfl,rfl⟩
theorem Agr.trans {n m:Nat}{φ ψ χ:Rn}(h:Agr n φ ψ)(k:Agr m ψ χ)(hm:n<=m):Agr n φ χ:=⟨fun p e=>by rw[k.f p (by omega),h.f p e],by rw[k.s,h.s]⟩
section
variable {n : Nat} {φ ψ : Rn} (h : Agr n φ ψ)
include h
mutual
theorem JjS :∀v:V,inV n v=true->mv ψ v=mv φ v
 | .ptr r _,e=>by rw[mv,mv,h.f r (of_decide_eq_true e)]
 | .sl r _ _ _,e=>by rw[mv,mv,h.f r (of_decide_eq_true e)]
 | .slx r _ _ _ _,e=>by rw[mv,mv,h.f r (of_decide_eq_true e)]
 | .map r,e=>by rw[mv,mv,h.f r (of_decide_eq_true e)]
 | .fn _ a b,e=>by rw[inV,Bool.and_eq_true]at e;rw[mv,mv,Jaz a e.1,Jaz b e.2]
 | .agg l,e=>by rw[inV]at e;rw[mv,mv,Jaz l e]
 | .tup l,e=>by rw[inV]at e;rw[mv,mv,Jaz l e]
 | .bool _,_=>by rw[mv,mv]
 | .int _ _,_=>by rw[mv,mv]
 | .im _ _,_=>by rw[mv,mv]
 | .str _ _,_=>by rw[mv,mv]
 | .pnil,_=>by rw[mv,mv]
 | .snil,_=>by rw[mv,mv]
 | .mnil,_=>by rw[mv,mv]
 | .fnil,_=>by rw[mv,mv]
 | .any,_=>by rw[mv,mv]
 | .opq _,_=>by rw[mv,mv,h.s]
theorem Jaz :∀l:List V,inVs n l=true->mvs ψ l=mvs φ l
 |[],_=>by rw[mvs,mvs]
 |x::r,e=>by rw[inVs,Bool.and_eq_true]at e;rw[mvs,mvs,JjS x e.1,Jaz r e.2]
end
theorem JgQ {l:List V}(e:inVs n l=true):l.map (mv ψ)=l.map (mv φ):=by rw[<-KM,<-KM,Jaz h l e]
theorem Jod :∀{l:List (V×V)},inEs n l=true->l.map (mv2 ψ)=l.map (mv2 φ)
 |[],_=>rfl
 | p::r,e=>by
   rw[inEs,Bool.and_eq_true,Bool.and_eq_true]at e;rw[List.map_cons,List.map_cons,Jod e.2];unfold mv2;rw[JjS h _ e.1.1,JjS h _ e.1.2]
theorem Jb0 {T T':Nat->Nat->Prop}{r x:Row}(e:inR n r=true)(k:RowE φ T r x)(ht:r≠ .none->T r.time x.time->T' r.time x.time)(hz:∀u,x≠ .none->x.time=u->r≠ .none->T r.time u->T' r.time u):RowE ψ T' r x:=by
 cases r with
 |none=>exact k
 |cells t l=>obtain⟨u,k1,k2⟩:=k;exact⟨u,by rw[JgQ h e];exact k1,hz u (by rw[k1];intro e;cases e) (by rw[k1];rfl) (by intro e;cases e) k2⟩
 |dead t=>exact⟨k.1,hz _ k.1 rfl (by intro e;cases e) k.2⟩
 |mob t l=>obtain⟨u,k1,k2⟩:=k;exact⟨u,by rw[Jod h e];exact k1,hz u (by rw[k1];intro e;cases e) (by rw[k1];rfl) (by intro e;cases e) k2⟩
 |sit t _ _ _=>obtain⟨u,k1,k2⟩:=k;exact⟨u,k1,hz u (by rw[k1];intro e;cases e) (by rw[k1];rfl) (by intro e;cases e) k2⟩
 | mit t m _ _=>
   obtain⟨u,k1,k2⟩:=k;refine⟨u, ?_,hz u (by rw[k1];intro e;cases e) (by rw[k1];rfl) (by intro e;cases e) k2⟩
   cases m with
   |none=>exact k1
   |some m=>rw[k1,Option.map_some,Option.map_some,h.f m (of_decide_eq_true e)]
 |ro l=>rw[show x=_ from k];show _=_;rw[JgQ h e]
end
theorem JgR {φ:Rn}{T:Nat->Nat->Prop}{r x:Row}(k:RowE φ T r x)(h:r≠ .none):x≠ .none:=by
 cases r with
 |none=>exact absurd rfl h
 |cells t l=>obtain⟨u,k1,_⟩:=k;rw[k1];intro e;cases e
 |dead t=>exact k.1
 |mob t l=>obtain⟨u,k1,_⟩:=k;rw[k1];intro e;cases e
 |sit t _ _ _=>obtain⟨u,k1,_⟩:=k;rw[k1];intro e;cases e
 |mit t _ _ _=>obtain⟨u,k1,_⟩:=k;rw[k1];intro e;cases e
 |ro l=>rw[show x=_ from k];intro e;cases e
abbrev TT :Nat->Nat->Prop:=fun _ _=>True
structure Hold (φ:Rn) (a S:St):Prop where
 num:φ.ok
 inj:∀p q,φ p=φ q->p=q
 lt:∀p:Pt,p.num<a.nx.num->(φ p).num<S.nx.num
 row:∀p:Pt,p.num<a.nx.num->RowE φ TT (a.row p) (S.row (φ p))
 scope:inT a.nx.num a.h=true
 pos:0<a.t->0<S.t
 wfa:WF a
 wf:WF S
section
variable {φ : Rn} {a S S' : St}
theorem Hold.none (H:Hold φ a S){p:Pt}(hp:a.row p≠ .none):p.num<a.nx.num:=H.wfa.nx p hp
theorem Hold.keep (H:Hold φ a S)(m:Mono S S')(k:∀p,a.row p≠ .none->S'.row (φ p)=S.row (φ p)):Hold φ a S':=by
 refine⟨H.num,H.inj,fun p e=>Nat.lt_of_lt_of_le (H.lt p e) m.nx,fun p e=> ?_,H.scope,fun h=>Nat.lt_of_lt_of_le (H.pos h) m.t,H.wfa,m.wf⟩;by_cases c:a.row p= .none
 ·have h1:=H.row p e;rw[c]at h1⊢;have h1:S.row (φ p)= .none:=h1;show S'.row (φ p)= .none;apply Classical.byContradiction;intro x;have:=m.born _ h1 x;have:=H.lt p e;omega
 ·rw[k p c];exact H.row p e
theorem Hold.gr (H:Hold φ a S)(g:Gr S S'):Hold φ a S':=H.keep g.mono fun p c=>g.same _ (JgR (H.row p (H.none c)) c)
theorem Hold.low (H:Hold φ a S)(x:Nat):Hold φ a {S with low:=x}:=⟨H.num,H.inj,H.lt,H.row,H.scope,H.pos,H.wfa,JD H.wf _⟩
theorem Hold.start (s:Nat->V)(hs:∀i,∃k n,s i= .int k n)(hw:WF S):Hold ⟨fun p=>up p.num S.nx,s⟩ St.start S:=by
 refine⟨hs,fun p q h=> ?_,fun p h=>absurd h (Nat.not_lt_zero _),fun p h=>absurd h (Nat.not_lt_zero _),rfl,fun h=>absurd h (Nat.lt_irrefl _),⟨fun r h=> ?_,fun r h=> ?_⟩,hw⟩
 ·have h:up p.num S.nx=up q.num S.nx:=h;rw[JcP]at h;exact Pt.num_inj h
 ·exact absurd (by unfold St.row St.start;simp[Tr.get]) h
 ·exact absurd (by unfold St.row St.start;simp[Tr.get]) h
theorem Hold.emb (H:Hold φ a S):∃ψ:Rn,Agr a.nx.num φ ψ/\Emb ψ a.nx.num a.t S.t a S:=by
 refine⟨⟨fun p=>if p.num<a.nx.num then φ p else up (p.num-a.nx.num) S.nx,φ.s⟩,⟨fun p h=>if_pos h,rfl⟩, ?_⟩;have ag:Agr a.nx.num φ ⟨fun p=>if p.num<a.nx.num then φ p else up (p.num-a.nx.num) S.nx,φ.s⟩:=⟨fun p h=>if_pos h,rfl⟩
 refine⟨H.num,fun p q h=> ?_,fun p h=> ?_,Nat.le_refl _, ?_,⟨0,rfl,rfl⟩,H.pos,fun p=> ?_,H.wf⟩
 ·have h:(if p.num<a.nx.num then φ p else up (p.num-a.nx.num) S.nx)=(if q.num<a.nx.num then φ q else up (q.num-a.nx.num) S.nx):=h;by_cases c:p.num<a.nx.num
  ·by_cases d:q.num<a.nx.num
   ·rw[if_pos c,if_pos d]at h;exact H.inj _ _ h
   ·rw[if_pos c,if_neg d]at h;have h1:=H.lt p c;rw[h,Qt]at h1;omega
  ·by_cases d:q.num<a.nx.num
   ·rw[if_neg c,if_pos d]at h;have h1:=H.lt q d;rw[<-h,Qt]at h1;omega
   ·rw[if_neg c,if_neg d,JcP]at h;exact Pt.num_inj (by omega)
 ·show(if p.suc.num<a.nx.num then φ p.suc else up (p.suc.num-a.nx.num) S.nx)=(if p.num<a.nx.num then φ p else up (p.num-a.nx.num) S.nx).suc;rw[Pt.num_suc,if_neg (by omega),if_neg (by omega),Yn,show p.num+1-a.nx.num=p.num-a.nx.num+1 by omega]
 ·show S.nx=if a.nx.num<a.nx.num then φ a.nx else up (a.nx.num-a.nx.num) S.nx;rw[if_neg (Nat.lt_irrefl _),Nat.sub_self];rfl
 ·show RowE _ _ (a.row p) (S.row (if p.num<a.nx.num then φ p else up (p.num-a.nx.num) S.nx));by_cases c:p.num<a.nx.num
  ·rw[if_pos c];refine Jb0 ag (jk p a.h H.scope) (H.row p c) (fun h1 h2=> ?_) fun u hx hu hr _=> ?_
   ·exact .inl ⟨H.wfa.t p h1,H.wf.t _ (JgR (H.row p c) h1)⟩
   ·exact .inl ⟨H.wfa.t p hr,by rw[<-hu];exact H.wf.t _ hx⟩
  ·rw[if_neg c];have h1:a.row p= .none:=Classical.byContradiction fun h=>c (H.wfa.nx p h);rw[h1];show S.row _= .none;apply Classical.byContradiction;intro h;have:=H.wf.nx _ h;rw[Qt]at this;omega
theorem Hold.go {T:Table}(hE:TabE T)(hM:TabM T)(hU:∀f b,T f=some b->QD b)(H:Hold φ a S){n f:Nat}{args:List V}{v:V}{a':St}(ha:inVs a.nx.num args=true)(h:run T n f args {a with low:=a.t}=some (v,a'))
  (hl:a.t<=a'.low) (hs:inT a'.nx.num a'.h=true):Does T f (args.map (mv φ)) S fun u S'=>Gr S S'/\∃ψ,Agr a.nx.num φ ψ/\u=mv ψ v/\Hold ψ a' S'/\∀p:Pt,a.nx.num<=p.num->S.row (ψ p)= .none:=by
 obtain⟨ψ,ag,E⟩:=H.emb;have fresh:∀p:Pt,a.nx.num<=p.num->S.row (ψ p)= .none:=fun p hp=>E.none (Classical.byContradiction fun c=>absurd (H.wfa.nx p c) (by omega));have E:=E.lo a.t S.low;obtain⟨S1,h1,p1⟩:=hE n f args _ v a' h ψ _ _ _ false S E (fun h=>by cases h);rw[JgQ ag ha]at h1;refine⟨mv ψ v,S1, ?_,n,fun m hm=>Jq9 hU m hm _ _ _ _ h1⟩;have mS:Mon S S1:=hM n _ _ _ _ _ h1 H.wf;have ma:Mon {a with low:=a.t} a':=hM n _ _ _ _ _ h (JD H.wfa _);have olda:∀p,a.row p≠ .none->a'.row p=a.row p:=fun p e=>Classical.byContradiction fun c=>by
  have h1:a'.low<=(a.row p).time:=ma.mono.old p e c;have h2:=H.wfa.t p e;omega
 have gr:Gr S S1:=mS.gr fun r e=>by
  by_cases c:∃p,a.row p≠ .none/\ψ p=r
  ·obtain⟨p,c1,rfl⟩:=c;apply Classical.byContradiction;intro x;have h1:=(mS.mono.row _ x).1;have h2:=JgO p1.emb (s:=a.t) (w:=S.t) ⟨0,rfl,rfl⟩ p (by rw[olda p c1];exact H.wfa.t p c1);omega
  ·exact p1.stp.frame r e fun p hp hr=>c ⟨p,hp,hr⟩
 refine⟨gr,ψ,ag,rfl,⟨p1.emb.num,p1.emb.inj,fun p hp=> ?_,fun p hp=> ?_,hs,fun h0=> ?_,ma.mono.wf,p1.emb.wf⟩,fresh⟩
 ·have hn:=p1.emb.nx;rw[hn];by_cases c:p.num<a.nx.num
  ·have h1:=H.lt p c;rw[ag.f p c];have h2:=mS.mono.nx;rw[hn]at h2;omega
  ·have key:∀k (q:Pt),a.nx.num<=q.num->(ψ (up k q)).num=(ψ q).num+k:=by
    intro k
    induction k with
    |zero=>intro q _;rfl
    | succ k ih=>
      intro q hq;show(ψ (up k q).suc).num=_;rw[E.suc _ (by rw[Qt];omega),Pt.num_suc,ih q hq];omega
   have e:a'.nx=up (a'.nx.num-p.num) p:=Pt.num_inj (by rw[Qt];omega);rw[e,key _ _ (by omega)];omega
 ·have:=p1.emb.row p;exact Jb0 (Agr.refl _ ψ) (jk p a'.h hs) this (fun _ _=>trivial) fun _ _ _ _ _=>trivial
 ·obtain⟨k,k1,k2⟩:=p1.emb.t;have:=p1.emb.pos;omega
theorem Hold.add (H:Hold φ a S){q:Pt}{f:Nat->Row}(hf:∀u,(f u).time=u/\f u≠ .none)(hq:S.row q≠ .none)(ho:∀p:Pt,p.num<a.nx.num->φ p≠q)(hr:RowE φ TT (f a.t) (S.row q))(hi:inR a.nx.num (f a.t)=true)(hs:inT (a.new f).nx.num (a.new f).h=true):
  ∃ψ:Rn,Agr a.nx.num φ ψ/\ψ a.nx=q/\Hold ψ (a.new f) S:=by
 have ag:Agr a.nx.num φ ⟨fun p=>if p.num<a.nx.num then φ p else if p=a.nx then q else up p.num S.nx,φ.s⟩:=⟨fun p h=>if_pos h,rfl⟩
 have hqn:=H.wf.nx q hq;refine⟨_,ag, ?_,H.num,fun p r h=> ?_,fun p h=> ?_,fun p h=> ?_,hs,fun _=>Nat.lt_of_le_of_lt (Nat.zero_le _) (H.wf.t q hq),(YV H.wfa hf).wf,H.wf⟩
 ·show(if a.nx.num<a.nx.num then φ a.nx else if a.nx=a.nx then q else up a.nx.num S.nx)=q;rw[if_neg (Nat.lt_irrefl _),if_pos rfl]
 ·have h:(if p.num<a.nx.num then φ p else if p=a.nx then q else up p.num S.nx)=(if r.num<a.nx.num then φ r else if r=a.nx then q else up r.num S.nx):=h;have cs:∀p:Pt,(p.num<a.nx.num/\(if p.num<a.nx.num then φ p else if p=a.nx then q else up p.num S.nx)=φ p)\/(p=a.nx/\(if p.num<a.nx.num then φ p else if p=a.nx then q else up p.num S.nx)=q)\/(a.nx.num<=p.num/\p≠a.nx/\(if p.num<a.nx.num then φ p else if p=a.nx then q else up p.num S.nx)=up p.num S.nx):=fun p=>by
   by_cases c:p.num<a.nx.num
   ·exact .inl ⟨c,if_pos c⟩
   ·by_cases d:p=a.nx
    ·exact .inr (.inl ⟨d,by rw[if_neg c,if_pos d]⟩)
    ·exact .inr (.inr ⟨by omega,d,by rw[if_neg c,if_neg d]⟩)
  rcases cs p with⟨c1,c2⟩|⟨c1,c2⟩|⟨c1,c2,c3⟩<;>rcases cs r with⟨d1,d2⟩|⟨d1,d2⟩|⟨d1,d2,d3⟩
  ·rw[c2,d2]at h;exact H.inj _ _ h
  ·rw[c2,d2]at h;exact absurd h (ho p c1)
  ·rw[c2,d3]at h;have h1:=H.lt p c1;rw[h,Qt]at h1;omega
  ·rw[c2,d2]at h;exact absurd h.symm (ho r d1)
  ·rw[c1,d1]
  ·rw[c2,d3]at h;rw[h,Qt]at hqn;omega
  ·rw[c3,d2]at h;have h1:=H.lt r d1;rw[<-h,Qt]at h1;omega
  ·rw[c3,d2]at h;rw[<-h,Qt]at hqn;omega
  ·rw[c3,d3,JcP]at h;exact Pt.num_inj h
 ·have h:p.num<a.nx.suc.num:=h;rw[Pt.num_suc]at h;show(if p.num<a.nx.num then φ p else if p=a.nx then q else up p.num S.nx).num<S.nx.num;by_cases c:p.num<a.nx.num
  ·rw[if_pos c];exact H.lt p c
  ·rw[if_neg c,if_pos (Pt.num_inj (by omega))];exact hqn
 ·have h:p.num<a.nx.suc.num:=h;rw[Pt.num_suc]at h;show RowE _ _ ((a.new f).row p) (S.row (if p.num<a.nx.num then φ p else if p=a.nx then q else up p.num S.nx));rw[Kg];by_cases c:p.num<a.nx.num
  ·rw[if_neg fun e=>by rw[e]at c;omega,if_pos c];exact Jb0 ag (jk p a.h H.scope) (H.row p c) (fun _ _=>trivial) fun _ _ _ _ _=>trivial
  ·have e:p=a.nx:=Pt.num_inj (by omega);rw[if_pos e,if_neg c,if_pos e];exact Jb0 ag hi hr (fun _ _=>trivial) fun _ _ _ _ _=>trivial
end
section
variable {self : Self} {lf K g : Nat}
end
section
variable {φ : Rn} {a S : St} {T : Table}
theorem Hold.afterW (H:Hold φ a S){ψ:Rn}(ag:Agr a.nx.num φ ψ)(E:Emb ψ a.nx.num a.t S.t a S){lo:Nat}{a' S1:St}(p1:Yc ψ a.nx.num a.t S.t false {a with low:=lo} S a' S1)(mS:Mon S S1)(ma:Mon {a with low:=lo} a')(hs:inT a'.nx.num a'.h=true):Hold ψ a' S1:=by
 refine⟨p1.emb.num,p1.emb.inj,fun p hp=> ?_,fun p hp=> ?_,hs,fun h0=> ?_,ma.mono.wf,p1.emb.wf⟩
 ·have hn:=p1.emb.nx;rw[hn];by_cases c:p.num<a.nx.num
  ·have h1:=H.lt p c;rw[ag.f p c];have h2:=mS.mono.nx;rw[hn]at h2;omega
  ·have key:∀k (q:Pt),a.nx.num<=q.num->(ψ (up k q)).num=(ψ q).num+k:=by
    intro k
    induction k with
    |zero=>intro q _;rfl
    | succ k ih=>
      intro q hq;show(ψ (up k q).suc).num=_;rw[E.suc _ (by rw[Qt];omega),Pt.num_suc,ih q hq];omega
   have e:a'.nx=up (a'.nx.num-p.num) p:=Pt.num_inj (by rw[Qt];omega);rw[e,key _ _ (by omega)];omega
 ·have:=p1.emb.row p;exact Jb0 (Agr.refl _ ψ) (jk p a'.h hs) this (fun _ _=>trivial) fun _ _ _ _ _=>trivial
 ·obtain⟨k,k1,k2⟩:=p1.emb.t;have:=p1.emb.pos;omega
theorem Hold.after (H:Hold φ a S){ψ:Rn}(ag:Agr a.nx.num φ ψ)(E:Emb ψ a.nx.num a.t S.t a S){a' S1:St}(p1:Yc ψ a.nx.num a.t S.t false {a with low:=a.t} S a' S1)(mS:Mon S S1)(ma:Mon {a with low:=a.t} a')(hl:a.t<=a'.low)(hs:inT a'.nx.num a'.h=true):
  Gr S S1/\Hold ψ a' S1:=by
 have olda:∀p,a.row p≠ .none->a'.row p=a.row p:=fun p e=>Classical.byContradiction fun c=>by
  have h1:a'.low<=(a.row p).time:=ma.mono.old p e c;have h2:=H.wfa.t p e;omega
 refine⟨mS.gr fun r e=> ?_,H.afterW ag E p1 mS ma hs⟩;by_cases c:∃p,a.row p≠ .none/\ψ p=r
 ·obtain⟨p,c1,rfl⟩:=c;apply Classical.byContradiction;intro x;have h1:=(mS.mono.row _ x).1;have h2:=JgO p1.emb (s:=a.t) (w:=S.t) ⟨0,rfl,rfl⟩ p (by rw[olda p c1];exact H.wfa.t p c1);omega
 ·exact p1.stp.frame r e fun p hp hr=>c ⟨p,hp,hr⟩
end
theorem Jsl (lf:Nat)(cf:Fn):QD (fnD lf cf).b:=Jpd lf cf
theorem Jrs (g:List V->Option V):QD (Y7 g).b:=Jpe g
theorem Jsm (lf:Nat)(cf:Fn)(h:cC cf.body=true):kV (fnD lf cf).b:=Jrq h
def slB :V->Bool
 | .snil=>true
 | .sl _ _ _ _=>true
 | .slx _ _ _ _ _=>true
 |_=>false
def JaA :List V->Option V
 |[.agg [.int .i64 _,a,b], .str 0 0]=>if slB a&&slB b then some (.tup [.int .i64 (-1), .bool true])else none
 |_=>none
theorem Joe {φ:Rn}:∀{v:V},slB v=true->slB (mv φ v)=true
 | .snil,_=>by rw[mv];rfl
 | .sl _ _ _ _,_=>by rw[mv];rfl
 | .slx _ _ _ _ _,_=>by rw[mv];rfl
theorem Jl2 :kV (Y7 JaA).b:=Joc fun φ args v h=>by
 unfold JaA at h
 split at h
 ·rename_i d a b
  split at h
  ·rename_i c
   rw[Bool.and_eq_true]at c;injection h with h;subst h;simp only[List.map_cons,List.map_nil,mv,mvs,JaA,Joe c.1,Joe c.2,Bool.and_self,if_true]
  ·cases h
 ·cases h
theorem Jof {γ:Locs}{ρ:Nat->Value}{v:V}{x:Value}(hx:R γ ρ v x)(hk:slB v=true):∃a k cap,x= .slice a k cap:=by
 unfold slB at hk
 split at hk
 ·exact⟨none,0,0,hx⟩
 ·obtain⟨lo,ad,cp,k1,k2,_⟩:=hx;exact⟨_,_,_,k2⟩
 ·obtain⟨lo,ad,k1,k2,_⟩:=hx;exact⟨_,_,_,k2⟩
 ·cases hk
theorem Jog {P : Program} {ρ : Nat -> Value} {base : Bs} {f : Nat} {fn : Func} (h1 : P.funcs[f]? = some fn) (h2 : fn.body.isSome = true) (h3 : fn.name ≠ "runtime.NumGoroutine") (hp : ∀ (w : World) (d : Int) (a : Option Addr) (k cap : Nat) (b : Option Addr) (m cap2 : Nat) (s : ByteArray), s.size = 0 -> Calls P f #[.agg #[.int .i64 d, .slice a k cap, .slice b m cap2], .string s] w fun e w' => Below w.heap.size w w' /\ e = .returned (.tuple #[.int .i64 (-1), .bool true])) : Qs P ρ base f (Y7 JaA).b :=
 Jkb h1 h2 h3 fun args v hv γ c w xs hx hrel=>by
  unfold JaA at hv
  split at hv
  ·rename_i d vars nar
   split at hv
   ·rename_i cc
    rw[Bool.and_eq_true]at cc;injection hv with hv;subst hv;obtain⟨y,ys,e1,⟨fs,e2,d',fs1,e3,ed,sv,fs2,e4,hsv,nv,fs3,e5,hnv,e6⟩,y',ys',e7,⟨s,e8,e9,e10⟩,e11⟩:=hx;simp only[RL]at e6 e11;have ed:d'= .int .i64 d:=ed;subst e11;subst e8;subst e7;subst e6;subst e5;subst e4;subst ed;subst e3;subst e2;subst e1;have hsz:s.size=0:=by rw[<-e9,<-ByteArray.size_data,<-Array.length_toList]
    obtain⟨a,k,cap,ea⟩:=Jof hsv cc.1;obtain⟨b,m,cap2,eb⟩:=Jof hnv cc.2;subst ea;subst eb;exact(hp w d a k cap b m cap2 s hsz).mono fun e w' ⟨hb,h⟩=>⟨_,h,⟨[.int .i64 (-1), .bool true],rfl,_,_,rfl,rfl,_,_,rfl,rfl,rfl⟩,hb⟩
   ·cases hv
  ·cases hv
def raise (k:Nat):Rn:=⟨fun p=>up k p,fun i=> .opq i⟩
section
variable {χ ψ : Rn} {k n : Nat} (hf : ∀ p : Pt, p.num < n -> χ (up k p) = ψ p) (hs : χ.s = ψ.s)
include hf hs
mutual
theorem Joh :∀v:V,inV n v=true->mv χ (mv (raise k) v)=mv ψ v
 | .ptr r _,e=>by simp only[mv];rw[<-hf r (of_decide_eq_true e)];rfl
 | .sl r _ _ _,e=>by simp only[mv];rw[<-hf r (of_decide_eq_true e)];rfl
 | .slx r _ _ _ _,e=>by simp only[mv];rw[<-hf r (of_decide_eq_true e)];rfl
 | .map r,e=>by simp only[mv];rw[<-hf r (of_decide_eq_true e)];rfl
 | .fn _ a b,e=>by rw[inV,Bool.and_eq_true]at e;simp only[mv];rw[jO a e.1,jO b e.2]
 | .agg l,e=>by rw[inV]at e;simp only[mv];rw[jO l e]
 | .tup l,e=>by rw[inV]at e;simp only[mv];rw[jO l e]
 | .bool _,_=>by simp only[mv]
 | .int _ _,_=>by simp only[mv]
 | .im _ _,_=>by simp only[mv]
 | .str _ _,_=>by simp only[mv]
 | .pnil,_=>by simp only[mv]
 | .snil,_=>by simp only[mv]
 | .mnil,_=>by simp only[mv]
 | .fnil,_=>by simp only[mv]
 | .any,_=>by simp only[mv]
 | .opq i,_=>by
   have:mv (raise k) (.opq i)= .opq i:=by rw[mv];rfl
   rw[this,mv,mv,hs]
theorem jO :∀l:List V,inVs n l=true->mvs χ (mvs (raise k) l)=mvs ψ l
 |[],_=>by simp only[mvs]
 |x::r,e=>by rw[inVs,Bool.and_eq_true]at e;simp only[mvs];rw[Joh x e.1,jO r e.2]
end
end
mutual
def noQ :V->Bool
 | .fn _ a b=>noQs a&&noQs b
 | .agg l=>noQs l
 | .tup l=>noQs l
 | .opq _=>false
 |_=>true
def noQs :List V->Bool
 |[]=>true
 |x::r=>noQ x&&noQs r
end
section
variable {φ ψ : Rn} (hf : φ.f = ψ.f)
include hf
mutual
theorem JjT :∀v:V,noQ v=true->mv ψ v=mv φ v
 | .ptr r _,_=>by simp only[mv];rw[hf]
 | .sl r _ _ _,_=>by simp only[mv];rw[hf]
 | .slx r _ _ _ _,_=>by simp only[mv];rw[hf]
 | .map r,_=>by simp only[mv];rw[hf]
 | .fn _ a b,e=>by rw[noQ,Bool.and_eq_true]at e;simp only[mv];rw[JaB a e.1,JaB b e.2]
 | .agg l,e=>by rw[noQ]at e;simp only[mv];rw[JaB l e]
 | .tup l,e=>by rw[noQ]at e;simp only[mv];rw[JaB l e]
 | .bool _,_=>by simp only[mv]
 | .int _ _,_=>by simp only[mv]
 | .im _ _,_=>by simp only[mv]
 | .str _ _,_=>by simp only[mv]
 | .pnil,_=>by simp only[mv]
 | .snil,_=>by simp only[mv]
 | .mnil,_=>by simp only[mv]
 | .fnil,_=>by simp only[mv]
 | .any,_=>by simp only[mv]
 | .opq _,e=>by simp[noQ]at e
theorem JaB :∀l:List V,noQs l=true->mvs ψ l=mvs φ l
 |[],_=>by simp only[mvs]
 |x::r,e=>by rw[noQs,Bool.and_eq_true]at e;simp only[mvs];rw[JjT x e.1,JaB r e.2]
end
theorem Jlq {l:List V}(e:noQs l=true):l.map (mv ψ)=l.map (mv φ):=by rw[<-KM,<-KM,JaB hf l e]
end
def noQe :List (V×V)->Bool
 |[]=>true
 |p::r=>(noQ p.1&&noQ p.2)&&noQe r
theorem Joi {φ ψ:Rn}(hf:φ.f=ψ.f):∀{l:List (V×V)},noQe l=true->l.map (mv2 ψ)=l.map (mv2 φ)
 |[],_=>rfl
 | p::r,e=>by
   rw[noQe,Bool.and_eq_true,Bool.and_eq_true]at e;rw[List.map_cons,List.map_cons,Joi hf e.2];unfold mv2;rw[JjT hf _ e.1.1,JjT hf _ e.1.2]
def noQr :Row->Bool
 | .cells _ l=>noQs l
 | .ro l=>noQs l
 | .mob _ es=>noQe es
 |_=>true
def noQt :Tr->Bool
 | .e=>true
 | .n v a b c d=>noQr v&&(noQt a&&(noQt b&&(noQt c&&noQt d)))
theorem qY :∀(p:Pt) (t:Tr),noQt t=true->noQr (t.get p)=true
 |_, .e,_=>by unfold Tr.get;rfl
 | .h, .n v _ _ _ _,h=>by rw[noQt,Bool.and_eq_true]at h;exact h.1
 | .a p, .n v x _ _ _,h=>by rw[noQt,Bool.and_eq_true,Bool.and_eq_true]at h;exact qY p x h.2.1
 | .b p, .n v _ x _ _,h=>by rw[noQt,Bool.and_eq_true,Bool.and_eq_true,Bool.and_eq_true]at h;exact qY p x h.2.2.1
 | .c p, .n v _ _ x _,h=>by rw[noQt,Bool.and_eq_true,Bool.and_eq_true,Bool.and_eq_true,Bool.and_eq_true]at h;exact qY p x h.2.2.2.1
 | .d p, .n v _ _ _ x,h=>by rw[noQt,Bool.and_eq_true,Bool.and_eq_true,Bool.and_eq_true,Bool.and_eq_true]at h;exact qY p x h.2.2.2.2
theorem Hold.sig {φ:Rn}{a S:St}(H:Hold φ a S)(hq:noQt a.h=true)(s:Nat->V)(hs:∀i,∃k n,s i= .int k n):Hold ⟨φ.f,s⟩ a S:=by
 refine⟨hs,H.inj,H.lt,fun p hp=> ?_,H.scope,H.pos,H.wfa,H.wf⟩;have h1:=H.row p hp;have h2:=qY p a.h hq;have h2:noQr (a.row p)=true:=h2;have hf:φ.f=(⟨φ.f,s⟩:Rn).f:=rfl
 cases hr:a.row p with
 |none=>rw[hr]at h1;exact h1
 |cells t l=>rw[hr]at h1 h2;obtain⟨u,k1,k2⟩:=h1;exact⟨u,by rw[Jlq hf h2];exact k1,k2⟩
 |dead t=>rw[hr]at h1;exact h1
 |mob t l=>rw[hr]at h1 h2;obtain⟨u,k1,k2⟩:=h1;exact⟨u,by rw[Joi hf h2];exact k1,k2⟩
 |sit t _ _ _=>rw[hr]at h1;exact h1
 |mit t m _ _=>rw[hr]at h1;exact h1
 |ro l=>rw[hr]at h1 h2;rw[show S.row _=_ from h1];show _=_;rw[Jlq hf h2]
section
variable {φ ψ : Rn} {a b S : St}
end
def Joj (T:Table)(f:Nat)(args:List V)(v:V):Bool:=match run T 60 f args St.start with
 |some (u,a)=>JaS u v&&inT a.nx.num a.h
 |none=>false
theorem Jsn {T:Table}(hE:TabE T)(hM:TabM T)(hU:∀f b,T f=some b->QD b){f:Nat}{args:List V}{v:V}(h:Joj T f args v=true)(hc:Qb args=true)(hv:closed v=true){S:St}(hw:WF S):Does T f args S fun u S'=>Gr S S'/\u=v:=by
 unfold Joj at h
 split at h
 ·rename_i u a hr
  rw[Bool.and_eq_true]at h;have e:=jz h.1;subst e;have H:=Hold.start (S:=S) (fun _=> .int .i64 0) (fun _=>⟨_,_,rfl⟩) hw;have:=H.go hE hM hU (Yd _ args hc) hr (Nat.zero_le _) h.2;rw[YN _ args hc]at this;exact this.mono fun _ _ ⟨g,ψ,_,e,_⟩=>⟨g,by rw[e,Kw ψ _ hv]⟩
 ·cases h
def NdW (n:Nd):Prop:=n.kind≠9/\(n.kind=4\/n.kind=5\/n.kind=6->n.kids.length=1)/\(n.kind=7\/n.kind=8->n.kids.length=n.names.length)/\(1<=n.kind/\n.kind<=3->n.kids=[])/\(1<=n.kind/\n.kind<=9)/\n.names.length<=8/\n.kids.length<=8
def prs (l:Was):List (List V):=l.map fun p=>[.int .i64 (p.1:Nat), .int .i64 (p.2:Nat)]
structure Tb6 (S:St) (ru:Pt) (lv:V) (nodes:List Nd):Prop where
 cell:∃t a b c d e f g h i j,S.row ru= .cells t [lv,a,b,c,d,e,f,g,h,i,j]
 l:LstAt (NdC (fun r=>S.row r≠ .none) S) (fun r=>S.row r≠ .none) S lv 4 nodes
 w:∀n∈nodes,NdW n
 k:∀n∈nodes,∀x∈n.kids,x<nodes.length
 few:nodes.length<=120
structure Fz (a b:St):Prop where
 wf:WF b
 t:a.t<=b.t
 nx:a.nx.num<=b.nx.num
 row:∀r,b.row r≠a.row r->a.t<=(b.row r).time/\b.row r≠ .none
 born:∀r,a.row r= .none->b.row r≠ .none->a.nx.num<=r.num
 same:∀r,a.row r≠ .none->b.row r=a.row r
theorem Fz.of {W:Pt->Prop}{a b:St}(h:Ch W a b)(hW:∀r,W r->a.row r= .none):Fz a b:=⟨h.wf,h.mono.t,h.mono.nx,h.mono.row,h.mono.born,fun r e=>h.same r e fun w=>e (hW r w)⟩
theorem Fz.gr {a b:St}(h:Fz a b):Gr {a with low:=b.low} b:=
 ⟨⟨h.wf,h.t,h.nx,h.row,Nat.le_refl _,fun r e n=>absurd (h.same r e) n,h.born⟩,h.same,fun _=>rfl⟩
theorem Fz.back {a b:St}{k:Nat}(g:Gr {a with low:=k} b):Fz a b:=⟨g.wf,g.mono.t,g.mono.nx,g.mono.row,g.mono.born,g.same⟩
theorem Fz.ch {W:Pt->Prop}{a b c:St}(h:Fz a b)(k:Ch W b c)(hW:∀r,W r->a.row r= .none):Fz a c:=
 ⟨k.wf,Nat.le_trans h.t k.mono.t,Nat.le_trans h.nx k.mono.nx,fun r e=>by
   by_cases x:c.row r=b.row r
   ·rw[x]at e⊢;exact h.row r e
   ·have:=k.mono.row r x;exact⟨Nat.le_trans h.t this.1,this.2⟩,fun r e n=>by
   by_cases x:b.row r= .none
   ·exact Nat.le_trans h.nx (k.mono.born r x n)
   ·exact h.born r e x,fun r e=>by
   have:=h.same r e;rw[k.same r (by rw[this];exact e) fun w=>e (hW r w),this]⟩
theorem Fz.low {a b:St}(h:Fz a b)(k:Nat):Fz a {b with low:=k}:=⟨JD h.wf _,h.t,h.nx,h.row,h.born,h.same⟩
structure Wk6 (Sl S:St) (ru kr:Pt) (was:Was) (lw:V):Prop where
 g:Fz Sl S
 cell:∃t,S.row kr= .cells t [.ptr ru 0,lw]
 l:SlF Sl S lw 2 (prs was)
 k0:Sl.row kr= .none
 ap:rowOf lw≠some kr
section
variable {Sl S S' : St} {ru kr : Pt} {lv lw : V} {nodes : List Nd} {was : Was}
theorem Tb6.keep (h:Tb6 S ru lv nodes)(g:∀r,S.row r≠ .none->S'.row r=S.row r):Tb6 S' ru lv nodes:=by
 obtain⟨t,a,b,c,d,e,f,i,j,k,l,r⟩:=h.cell;obtain⟨es,l1,l2,l3⟩:=h.l;have kk:∀r,S.row r≠ .none->S.row r≠ .none->S'.row r≠ .none/\S'.row r=S.row r:=fun r p _=>⟨by rw[g r p];exact p,g r p⟩
 exact⟨⟨t,a,b,c,d,e,f,i,j,k,l,by rw[g _ (Jc r),r]⟩,⟨es,l1.imp kk,l2,fun i a b=>(l3 i a b).imp kk⟩,h.w,h.k,h.few⟩
theorem Tb6.gr (h:Tb6 S ru lv nodes)(g:Gr S S'):Tb6 S' ru lv nodes:=h.keep g.same
theorem Tb6.node (h:Tb6 S ru lv nodes){i:Nat}(hi:i<nodes.length):∃r q e,JJ 4 lv (.int .i64 i)=some (.ptr r q, .no)/\ldn (S.row r) q 4=some (.agg e, .no)/\NdC (fun r=>S.row r≠ .none) S e nodes[i]/\ld1 (S.row r) q=some (.int .i64 nodes[i].kind, .no):=by
 obtain⟨r,q,e,a1,a2,a3,a4,hE,e4,a5⟩:=h.l.elem hi;obtain⟨nv,kv,rfl,_,_⟩:=hE;exact⟨r,q,_,a1,a4,⟨nv,kv,rfl,‹_›,‹_›⟩,a5 0 (by simp)⟩
theorem Wk6.gr (h:Wk6 Sl S ru kr was lw)(g:Gr S S'):Wk6 Sl S' ru kr was lw:=by
 obtain⟨t,c⟩:=h.cell;exact⟨h.g.ch (Ch.of (fun _=>False) g) (fun _ w=>w.elim),⟨t,g.cells c⟩,h.l.gr g,h.k0,h.ap⟩
theorem Wk6.low (h:Wk6 Sl S ru kr was lw)(k:Nat):Wk6 Sl {S with low:=k} ru kr was lw:=⟨h.g.low k,h.cell,h.l.keep fun _ _=>rfl,h.k0,h.ap⟩
end
def WasG (n:Nat)(W:Was):Prop:=W.Nodup/\∀p∈W,p.1<n/\p.2<n
theorem JeK :∀(m:Nat) (l:List Nat),l.Nodup->(∀x∈l,x<m)->l.length<=m
 | 0,l,_,h=>by
   cases l with
   |nil=>exact Nat.le_refl _
   |cons a r=>exact absurd (h a List.mem_cons_self) (Nat.not_lt_zero _)
 | m+1,l,hd,h=>by
   by_cases e:m∈l
   ·have:=JeK m (l.erase m) (hd.erase _) fun x hx=>by
     have h1:=(hd.mem_erase_iff.1 hx)
     have:=h x h1.2;have:=h1.1;omega
    rw[List.length_erase_of_mem e]at this;omega
   ·have:=JeK m l hd fun x hx=>by
     have:=h x hx;have:x≠m:=fun k=>e (k▸hx);omega
    omega
theorem WasG.len {n:Nat}{W:Was}(h:WasG n W):W.length<=n*n:=by
 have hm:(W.map fun p=>p.1*n+p.2).Nodup:=by
  rw[List.nodup_iff_pairwise_ne,List.pairwise_map];refine(List.Pairwise.and_mem.1 (List.nodup_iff_pairwise_ne.1 h.1)).imp fun{p q} hpq e=> ?_;obtain⟨hp,hq,hne⟩:=hpq;obtain⟨a1,a2⟩:=h.2 p hp;obtain⟨b1,b2⟩:=h.2 q hq;have e1:p.1=q.1:=by
   have c1:(p.1*n+p.2)/n=p.1:=by rw[Nat.mul_comm,Nat.mul_add_div (by omega),Nat.div_eq_of_lt a2];rfl
   have c2:(q.1*n+q.2)/n=q.1:=by rw[Nat.mul_comm,Nat.mul_add_div (by omega),Nat.div_eq_of_lt b2];rfl
   rw[<-c1,<-c2,e]
  have e2:p.2=q.2:=by rw[e1]at e;omega
  exact hne (Prod.ext e1 e2)
 have:=JeK (n*n) _ hm fun x hx=>by
  obtain⟨p,hp,rfl⟩:=List.mem_map.1 hx;obtain⟨a1,a2⟩:=h.2 p hp;have:p.1*n+n<=n*n:=by
   have:=Nat.mul_le_mul_right n (show p.1+1<=n from a1);rw[Nat.add_mul,Nat.one_mul]at this;exact this
  omega
 simpa using this
theorem WasG.snoc {n:Nat}{W:Was}(h:WasG n W){a b:Nat}(ha:a<n)(hb:b<n)(hn:(a,b)∉W):WasG n (W++[(a,b)]):=by
 refine⟨?_,fun p hp=> ?_⟩
 ·rw[List.nodup_append];exact⟨h.1,by simp,fun x hx y hy e=>hn (by rw[List.mem_singleton.1 hy]at e;exact e▸hx)⟩
 ·rcases List.mem_append.1 hp with hp|hp
  ·exact h.2 p hp
  ·rw[List.mem_singleton.1 hp];exact⟨ha,hb⟩
structure Lo6 (Sl S0 S:St) (ru kr p8 p9:Pt) (lw0:V) (n:Nat) (xs ys:List V) (was:Was) (lw:V):Prop where
 w:Wk6 Sl S ru kr was lw
 r8:∃t,S.row p8= .cells t xs
 r9:∃t,S.row p9= .cells t ys
 n8:p8≠kr/\rowOf lw≠some p8
 n9:p9≠kr/\rowOf lw≠some p9
 keep:∀r,S0.row r≠ .none->¬(r=kr\/rowOf lw0=some r)->S.row r=S0.row r
 sub:∀q,rowOf lw=some q->rowOf lw0=some q\/S0.row q= .none
 g:WasG n was
theorem Lo6.next {Sl S0 S S2:St}{ru kr p8 p9:Pt}{lw0 lw lw2:V}{n:Nat}{xs ys:List V}{was w2:Was}(h:Lo6 Sl S0 S ru kr p8 p9 lw0 n xs ys was lw)(c:Ch (fun q=>q=kr\/rowOf lw=some q) S S2)(k:Wk6 Sl S2 ru kr w2 lw2)
  (s:∀q,rowOf lw2=some q->rowOf lw=some q\/S.row q= .none) (g:WasG n w2):Lo6 Sl S0 S2 ru kr p8 p9 lw0 n xs ys w2 lw2:=by
 obtain⟨t8,r8⟩:=h.r8;obtain⟨t9,r9⟩:=h.r9;refine⟨k,⟨t8, ?_⟩,⟨t9, ?_⟩,⟨h.n8.1,fun e=>(s _ e).elim h.n8.2 (Jc r8)⟩,⟨h.n9.1,fun e=>(s _ e).elim h.n9.2 (Jc r9)⟩,fun r e m=> ?_,fun q e=> ?_,g⟩
 ·rw[c.same p8 (Jc r8) fun x=>x.elim h.n8.1 h.n8.2,r8]
 ·rw[c.same p9 (Jc r9) fun x=>x.elim h.n9.1 h.n9.2,r9]
 ·have a:=h.keep r e m;rw[c.same r (by rw[a];exact e) fun x=>x.elim (fun y=>m (.inl y)) fun y=>(h.sub r y).elim (fun z=>m (.inr z)) e,a]
 ·rcases s q e with x|x
  ·exact h.sub q x
  ·refine Classical.byContradiction fun y=> ?_;have n1:¬rowOf lw0=some q:=fun z=>y (.inl z);have n2:¬S0.row q= .none:=fun z=>y (.inr z);have n3:q≠kr:=fun z=>by
    obtain⟨t,c⟩:=h.w.cell;exact Jc c (z▸x)
   have:=h.keep q n2 fun z=>z.elim n3 n1;exact n2 (this▸x)
theorem Lo6.low {Sl S0 S:St}{ru kr p8 p9:Pt}{lw0 lw:V}{n:Nat}{xs ys:List V}{was:Was}(h:Lo6 Sl S0 S ru kr p8 p9 lw0 n xs ys was lw)(k:Nat):Lo6 Sl S0 {S with low:=k} ru kr p8 p9 lw0 n xs ys was lw:=
 ⟨h.w.low k,h.r8,h.r9,h.n8,h.n9,h.keep,h.sub,h.g⟩
theorem Lo6.gr {Sl S0 S S2:St}{ru kr p8 p9:Pt}{lw0 lw:V}{n:Nat}{xs ys:List V}{was:Was}(h:Lo6 Sl S0 S ru kr p8 p9 lw0 n xs ys was lw)(g:Gr S S2):Lo6 Sl S0 S2 ru kr p8 p9 lw0 n xs ys was lw:=
 h.next (Ch.of _ g) (h.w.gr g) (fun _ e=> .inl e) h.g
theorem Fz.more {Sb S S':St}(h:Fz Sb S)(g:Gr S S'):Fz Sb S':=h.ch (Ch.of (fun _=>False) g) fun _ f=>f.elim
theorem Fz.ofGr {Sb S:St}(g:Gr Sb S):Fz Sb S:=Fz.of (Ch.of (fun _=>False) g) fun _ f=>f.elim
theorem Hold.fz {φ:Rn}{a Sb S:St}(H:Hold φ a Sb)(h:Fz Sb S):Hold φ a S:=by
 refine⟨H.num,H.inj,fun p e=>Nat.lt_of_lt_of_le (H.lt p e) h.nx,fun p e=> ?_,H.scope,fun h0=>Nat.lt_of_lt_of_le (H.pos h0) h.t,H.wfa,h.wf⟩;by_cases c:a.row p= .none
 ·have h1:=H.row p e;rw[c]at h1⊢;have h1:Sb.row (φ p)= .none:=h1;show S.row (φ p)= .none;apply Classical.byContradiction;intro x;have:=h.born _ h1 x;have:=H.lt p e;omega
 ·rw[h.same _ (JgR (H.row p e) c)];exact H.row p e
theorem JeL {α:Type}[DecidableEq α]{k:α}:∀{es:List (α×V)} {i:Nat} {w:V},at_ k es=some w->∃j,Ya k es i=some (j,w)
 |[],_,_,h=>by cases h
 | (a,v)::r,i,w,h=>by
   simp only[at_,Ya]at h⊢
   split at h
   ·rename_i e
    injection h with h;subst h;exact⟨i,by rw[if_pos e]⟩
   ·rename_i e
    rw[if_neg e];exact JeL h
theorem Jbb {α:Type}[DecidableEq α]{k:α}:∀{es:List (α×V)} {i:Nat},at_ k es=none->Ya k es i=none
 |[],_,_=>rfl
 | (a,v)::r,i,h=>by
   simp only[at_,Ya]at h⊢
   split at h
   ·cases h
   ·rename_i e
    rw[if_neg e];exact Jbb h
theorem Jok {α:Type}[DecidableEq α]{enc:α->V}{e:EK}{st:St}{r:Pt}{es:List (α×V)}{t:Nat}(h:st.row r= .mob t (es.map fun p=>(enc p.1,p.2)))(k:α)(z:V)(heq:∀p∈es,e.eq (enc k) (enc p.1)=some (decide (k=p.1)))(hfit:e.fit (enc k)=true)(hr:e.refl (enc k)=true){j:Nat}{w:V}(hn:Ya k es 0=some (j,w)):
  JdL st e z (.map r) (enc k)=some (.tup [w, .int .i64 j], .wr r t fun u=> .mob u (es.map fun p=>(enc p.1,p.2))):=by
 obtain⟨_,h2,h3⟩:=JbH hn;simp only[Nat.sub_zero]at h2 h3;simp only[JdL,h,hfit,hr,kJ k es 0 heq,hn];have:(es.map fun p=>(enc p.1,p.2)).modify j (fun e=>(enc k,e.2))=es.map fun p=>(enc p.1,p.2):=by
  apply List.ext_getElem?;intro i;rw[List.getElem?_modify];by_cases c:j=i
  ·subst c;rw[List.getElem?_map,List.getElem?_eq_getElem h2,h3];simp
  ·simp[c]
 simp only[Bool.and_self,Bool.not_true,Bool.false_eq_true,if_false,this]
theorem JpG {α:Type}[DecidableEq α]{enc:α->V}{st:St}{r:Pt}{es:List (α×V)}{t j:Nat}{k:α}{w v:V}(h:st.row r= .mob t (es.map fun p=>(enc p.1,p.2)))(hn:Ya k es 0=some (j,w)):JdM st (.map r) (.int .i64 j) v=some (JR, .wr r t fun u=> .mob u ((Qy k v es).map fun p=>(enc p.1,p.2))):=by
 obtain⟨_,h2,h3⟩:=JbH hn;simp only[Nat.sub_zero]at h2 h3;simp only[JdM,QI,Int.natCast_nonneg,if_true,Int.toNat_natCast,h];rw[if_pos (by simpa using h2),Jd8 hn,Nat.sub_zero];have:(es.map fun p=>(enc p.1,p.2)).modify j (fun e=>(e.1,v))=(es.modify j fun _=>(k,v)).map fun p=>(enc p.1,p.2):=by
  apply List.ext_getElem?;intro i;rw[List.getElem?_modify,List.getElem?_map,List.getElem?_map,List.getElem?_modify];by_cases c:j=i
  ·subst c;rw[List.getElem?_eq_getElem h2,h3];simp
  ·simp[c]
 rw[this]
def dedS {α:Type}[DecidableEq α]:List α->List α->List α
 |acc,[]=>acc
 |acc,x::r=>if x∈acc then dedS acc r else dedS (acc++[x]) r
theorem Jol {α:Type}[DecidableEq α]{k:α}{es:List (α×V)}{w:V}(h:at_ k es=some w):(k,w)∈es:=by
 obtain⟨j,hj⟩:=JeL (i:=0) h;obtain⟨_,h2,h3⟩:=JbH hj;rw[<-h3];exact List.getElem_mem _
theorem Jom {α:Type}[DecidableEq α]{k:α}:∀{es:List (α×V)},at_ k es=none->k∉es.map (·.1)
 |[],_,h=>by cases h
 | (a,v)::r,h,hk=>by
   simp only[at_]at h
   split at h
   ·cases h
   ·rename_i e
    rcases List.mem_cons.1 hk with hk|hk
    ·exact e hk
    ·exact Jom h hk
theorem JiN {α:Type}[DecidableEq α]{k:α}{v w:V}:∀{es:List (α×V)},at_ k es=some w->(Qy k v es).map (·.1)=es.map (·.1)
 |[],h=>by cases h
 | (a,x)::r,h=>by
   simp only[at_]at h;simp only[Qy];by_cases e:k=a
   ·rw[if_pos e,List.map_cons,List.map_cons,e]
   ·rw[if_neg e]at h;rw[if_neg e,List.map_cons,List.map_cons,JiN h]
theorem Jlr {α:Type}[DecidableEq α]{k:α}{v:V}{p:α×V}:∀{es:List (α×V)},p∈Qy k v es->p=(k,v)\/p∈es
 |[],h=> .inl (List.mem_singleton.1 h)
 | (a,x)::r,h=>by
   simp only[Qy]at h;by_cases e:k=a
   ·rw[if_pos e]at h;rcases List.mem_cons.1 h with h|h
    ·exact .inl h
    ·exact .inr (List.mem_cons_of_mem _ h)
   ·rw[if_neg e]at h;rcases List.mem_cons.1 h with h|h
    ·exact .inr (by rw[h];exact List.mem_cons_self ..)
    ·exact(Jlr h).imp id (List.mem_cons_of_mem _)
def encS (x:Str×Nat):V:= .agg [ofL x.1, .int .i64 (x.2:Nat)]
theorem Jdn (a b:Str×Nat):EK.eq (.many [.s, .i]) (encS a) (encS b)=some (decide (a=b)):=by
 have h0:EK.eq (.many [.s, .i]) (encS a) (encS b)=keqs [.s, .i] [ofL a.1, .int .i64 (a.2:Int)] [ofL b.1, .int .i64 (b.2:Int)]:=rfl;rw[h0];obtain⟨a1,a2⟩:=a;obtain⟨b1,b2⟩:=b;have hs:keq .s (ofL a1) (ofL b1)=some (decide (a1=b1)):=JbG a1 b1;simp only[keqs,hs];by_cases h1:a1=b1
 ·subst h1;by_cases h2:a2=b2
  ·subst h2;simp[keq]
  ·have e:((a2:Int)==(b2:Int))=false:=by simp;omega
   simp[keq,e,h2]
 ·simp[h1]
def CntAt (S:St)(r:Pt)(ps:List (Str×Nat))(m:Nat):Prop:=∃es:List ((Str×Nat)×V),es.map (·.1)=ps/\(∀p∈es,∃c:Nat,p.2= .int .i64 c/\1<=c/\c<=m)/\QR S r encS es
theorem CntAt.of {S S':St}{r:Pt}{ps:List (Str×Nat)}{m:Nat}(h:CntAt S r ps m)(k:S'.row r=S.row r):CntAt S' r ps m:=by
 obtain⟨es,a,b,c⟩:=h;exact⟨es,a,b,c.of k⟩
theorem Jon {S:St}{r:Pt}{ps:List (Str×Nat)}{m:Nat}(h:CntAt S r ps m)(hm:m<2^20)(k:Str×Nat):∃(c j t:Nat) (f1 f2:Nat->Row) (z:V),S.row r≠ .none/\(S.row r).time=t/\
  (∀S':St,S'.row r=S.row r->QX S' (.many [.s, .i]) (.int .i64 0) false (.map r) (.agg [ofL k.1, .int .i64 (k.2:Nat)])=some (.int .i64 c, .no))/\
  (∀S':St,S'.row r=S.row r->JdL S' (.many [.s, .i]) (.int .i64 0) (.map r) (.agg [ofL k.1, .int .i64 (k.2:Nat)])=some (.tup [z, .int .i64 j], .wr r t f1))/\
  IntKind.i64.wrap ((c:Int)+1)=((c+1:Nat):Int)/\
  (∀(S':St) u,S'.row r=f1 u->JdM S' (.map r) (.int .i64 j) (.int .i64 ((c+1:Nat):Int))=some (JR, .wr r u f2))/\
  (∀u,(f1 u).time=u/\f1 u≠ .none)/\(∀u,(f2 u).time=u/\f2 u≠ .none)/\
  (∀(S':St) u,S'.row r=f2 u->QX S' (.many [.s, .i]) (.int .i64 0) false (.map r) (.agg [ofL k.1, .int .i64 (k.2:Nat)])=some (.int .i64 ((c+1:Nat):Int), .no)/\CntAt S' r (if k∈ps then ps else ps++[k]) (m+1))/\((c=0)<->k∉ps):=by
 obtain⟨es,h1,h2,t,h3⟩:=h;have heq:∀p∈es,EK.eq (.many [.s, .i]) (encS k) (encS p.1)=some (decide (k=p.1)):=fun p _=>Jdn _ _;have hr:EK.refl (.many [.s, .i]) (encS k)=true:=by
  show(match EK.eq (.many [.s, .i]) (encS k) (encS k)with|some true=>true|_=>false)=true;rw[Jdn];simp
 have hne:S.row r≠ .none:=by rw[h3];exact fun e=>by cases e
 have ht:(S.row r).time=t:=by rw[h3];rfl
 cases ha:at_ k es with
 | none=>
   have hk:k∉ps:=h1▸Jom ha;have hl:=Jbb (i:=0) ha;refine⟨0,es.length,t,_,fun u=>Row.mob u ((es++[(k,V.int .i64 1)]).map fun p:(Str×Nat)×V=>(encS p.1,p.2)),_,hne,ht,fun S' e=> ?_,fun S' e=>JnI (enc:=encS) (e.trans h3) k (.int .i64 0) heq rfl hr hl,by decide,fun S' u e=> ?_,fun u=>⟨rfl,fun e=>by cases e⟩,fun u=>⟨rfl,fun e=>by cases e⟩,fun S' u e=>⟨?_, ?_⟩, ?_⟩
   ·have:=Qi (enc:=encS) ⟨t,e.trans h3⟩ (.int .i64 0) false k heq rfl;rw[ha]at this;exact this
   ·have e:S'.row r= .mob u ((es.map fun p=>(encS p.1,p.2))++[(encS k, .int .i64 0)]):=by rw[e];simp
    have:=JlQ (v:= .int .i64 1) e;rw[List.length_map]at this;have w1:((0+1:Nat):Int)=1:=rfl;rw[w1,this];simp
   ·have:=Qi (enc:=encS) ⟨u,e⟩ (.int .i64 0) false k (fun p _=>Jdn _ _) rfl;rw[<-jC hl,Jjv,if_pos rfl]at this;exact this
   ·rw[if_neg hk];refine⟨es++[(k, .int .i64 1)],by simp[h1],fun p hp=> ?_,u,e⟩;rcases List.mem_append.1 hp with hp|hp
    ·obtain⟨c,a,b,d⟩:=h2 p hp;exact⟨c,a,b,by omega⟩
    ·rw[List.mem_singleton.1 hp];exact⟨1,rfl,Nat.le_refl _,by omega⟩
   ·exact⟨fun _=>hk,fun _=>rfl⟩
 | some w=>
   obtain⟨c,hw,hc1,hc2⟩:=h2 _ (Jol ha);have hw:w= .int .i64 c:=hw;obtain⟨j,hl⟩:=JeL (i:=0) ha;have hk:k∈ps:=by
    rw[<-h1];exact List.mem_map.2 ⟨_,Jol ha,rfl⟩
   subst hw;refine⟨c,j,t,_,_,_,hne,ht,fun S' e=> ?_,fun S' e=>Jok (enc:=encS) (e.trans h3) k (.int .i64 0) heq rfl hr hl, ?_,fun S' u e=>JpG (enc:=encS) e hl,fun u=>⟨rfl,fun e=>by cases e⟩,fun u=>⟨rfl,fun e=>by cases e⟩,fun S' u e=>⟨?_, ?_⟩, ?_⟩
   ·have:=Qi (enc:=encS) ⟨t,e.trans h3⟩ (.int .i64 0) false k heq rfl;rw[ha]at this;exact this
   ·rw[Jo (by omega) (by omega)];rfl
   ·have:=Qi (enc:=encS) ⟨u,e⟩ (.int .i64 0) false k (fun p _=>Jdn _ _) rfl;rw[Jjv,if_pos rfl]at this;exact this
   ·rw[if_pos hk];refine⟨_,(JiN ha).trans h1,fun p hp=> ?_,u,e⟩;rcases Jlr hp with rfl|hp
    ·exact⟨c+1,rfl,by omega,by omega⟩
    ·obtain⟨c,a,b,d⟩:=h2 p hp;exact⟨c,a,b,by omega⟩
   ·exact⟨fun e=>by omega,fun e=>absurd hk e⟩
theorem Jls {S0 st:St}{v:V}{z:Nat}{es:List (List V)}{P:Pt->Prop}{vx:V}{xs:List (List V)}(hg:Gr S0 st)(h:SlF S0 st v z es)(hx:SlAt P st vx z xs)(hok:okC xs)(h0:xs≠[])(hn:xs.length<2^20)(hn2:es.length+xs.length<=2^24){R:V->St->Prop}
  (k:∀S',Gr S0 S'->SlF S0 S' (.sl st.nx 0 (es.length+xs.length) z) z (es++xs)->(∀p,st.row p≠ .none->rowOf v≠some p->S'.row p=st.row p)->R (.sl st.nx 0 (es.length+xs.length) z) S'):wW (appV st z v vx) st R:=by
 have h0':¬xs.length=0:=fun e=>h0 (List.length_eq_zero_iff.1 e);have h1:∃e,appV st z v vx=some (.sl st.nx 0 (es.length+xs.length) z,e):=by
  have happ:appV st z v vx=JE st z xs.length xs.flatten v:=by
   unfold appV;rw[hx.slen];simp only[hx.all];rw[if_pos ⟨hn,hok.flat⟩]
  rw[happ];rcases h.2 with⟨rfl,hes⟩|⟨r,t,h2,h3,h4⟩
  ·unfold JE;rw[if_neg h0',hes];refine⟨.new fun t=> .cells t xs.flatten, ?_⟩;rw[List.length_nil,Nat.zero_add]
  ·have hfl:=JF h.1;have hle:0+es.length*z<=es.flatten.length:=by omega
   rcases h4 with rfl|rfl
   ·unfold JE;rw[if_neg h0'];simp only[h3];rw[if_neg (by simp;omega),if_pos hle];exact⟨_,rfl⟩
   ·unfold JE;rw[if_neg h0'];simp only[h3];rw[if_neg (by simp;omega),if_pos hle,if_neg (by omega)];exact⟨_,rfl⟩
 obtain⟨e,h1⟩:=h1;have h2:=Qw hg h hx hok h0 hn hn2 (R:=fun v' S'=>Gr S0 S'/\SlF S0 S' v' z (es++xs)/\∀p,st.row p≠ .none->rowOf v≠some p->S'.row p=st.row p) fun S' v' a b _ d=>⟨a,b,d⟩
 rw[h1]at h2⊢;exact k _ h2.1 h2.2.1 h2.2.2
theorem Jcq {α:Type}[DecidableEq α](x:α):∀(l acc:List α),dedS acc (l++[x])=if x∈dedS acc l then dedS acc l else dedS acc l++[x]
 | [],acc=>by
   by_cases h:x∈acc
   ·rw[List.nil_append,dedS,dedS,if_pos h,dedS,if_pos h]
   ·rw[List.nil_append,dedS,dedS,if_neg h,dedS,if_neg h]
 | y::r,acc=>by
   simp only[List.cons_append,dedS]
   split<;>exact Jcq x r _
theorem kC (st:St)(fr:Fr)(i n j:Nat)(Q:V->St->Prop):resP st fr [.s j, .cn i n] Q=wW (jW st n (fr i)) st fun v st=>Q (.tup [fr j,v]) st:=by
 have h:=JbD fr st n (.s i);have h:(KG st n (fr i)).map (fun l=>(V.agg l,Eff.no))=jW st n (fr i):=h;rw[<-h];simp only[resP,KB,QA,List.mapM_cons,List.mapM_nil]
 cases KG st n (fr i)<;>rfl
def One (v:V):Prop:=v.sc=true/\v.cells=some [v]
theorem One.of {v:V}(h:v.sc=true):One v:=⟨h,by cases v<;>first|rfl|(cases h;done)⟩
theorem JjU {ds rs:List (List V)}{z e:List V}{n:Nat}(hds:∀x∈ds,x.length=n)(hz:z.length=n)(he:e.length=n):JI (ds++z::rs).flatten (ds.length*n) e=(ds++e::rs).flatten:=by
 have hl:ds.flatten.length=ds.length*n:=JF hds;simp only[JI,List.flatten_append,List.flatten_cons];rw[<-hl,List.take_left,List.drop_append];have:List.drop (ds.flatten.length+e.length) ds.flatten=[]:=List.drop_eq_nil_of_le (by omega);rw[this];have h2:ds.flatten.length+e.length-ds.flatten.length=z.length:=by omega
 rw[h2,List.drop_left];simp
theorem Joo {ds rs:List (List V)}{e:List V}{n:Nat}(hds:∀x∈ds,x.length=n)(he:e.length=n):((ds++e::rs).flatten.drop (ds.length*n)).take n=e:=by
 have hl:ds.flatten.length=ds.length*n:=JF hds;simp only[List.flatten_append,List.flatten_cons];rw[<-hl,List.drop_left,<-he,List.take_left]
abbrev Pr :=Str×Nat
def clE (x:Str×Nat):List V:=[ofL x.1, .int .i64 (x.2:Nat)]
abbrev BdR :=(Int×Int)⊕List Pr
inductive RunS (G:Pr->Prop) (B:Pr->BdR):Nat->Nat->Nat->List Pr->(Int×Str×Int)⊕List Pr->Prop
 |done {i:Nat} {D:List Pr} (h:D.length<=i):RunS G B 0 0 i D (.inr D)
 |err {i:Nat} {D:List Pr} (h:i<D.length) {e a:Int} (he:e≠0) (g:G D[i]) (b:B D[i]= .inl (e,a)):RunS G B 0 0 i D (.inl (e,D[i].1,a))
 |step {j c i:Nat} {D:List Pr} (h:i<D.length) {cl:List Pr} {R:(Int×Str×Int)⊕List Pr} (g:G D[i]) (b:B D[i]= .inr cl) (r:RunS G B j c (i+1) (dedS D cl) R):RunS G B (j+1) (c+cl.length) i D R
def Smc (S S':St):Prop:=∀r,S'.row r=S.row r\/∃t t' l,S.row r= .cells t l/\S'.row r= .cells t' l
theorem Smc.c {S S':St}{r:Pt}(h:Smc S S'){t:Nat}{l:List V}(k:S.row r= .cells t l):∃t',S'.row r= .cells t' l:=by
 rcases h r with e|⟨u,t',l',a,b⟩
 ·exact⟨t,by rw[e,k]⟩
 ·rw[a]at k;injection k with _ k;subst k;exact⟨t',b⟩
theorem Smc.m {S S':St}{r:Pt}(h:Smc S S'){t:Nat}{m:List (V×V)}(k:S.row r= .mob t m):S'.row r= .mob t m:=by
 rcases h r with e|⟨u,t',l',a,b⟩
 ·rw[e,k]
 ·rw[a]at k;cases k
theorem Smc.n {S S':St}{r:Pt}(h:Smc S S')(k:S.row r≠ .none):S'.row r≠ .none:=by
 rcases h r with e|⟨u,t',l',a,b⟩
 ·rw[e];exact k
 ·rw[b];exact fun c=>by cases c
theorem SlAt.smc {P:Pt->Prop}{S S':St}{v:V}{z:Nat}{es:List (List V)}(h:SlAt P S v z es)(k:Smc S S'):SlAt P S' v z es:=by
 refine⟨h.1, ?_⟩;rcases h.2 with e|⟨r,o,a,b,l,c,d⟩
 ·exact .inl e
 ·refine .inr ⟨r,o,a,b,l, ?_,d⟩;rcases c with⟨t,c⟩|c
  ·obtain⟨t',c'⟩:=k.c c;exact .inl ⟨t',c'⟩
  ·rcases k r with e|⟨_,_,_,e,_⟩
   ·exact .inr (by rw[e,c])
   ·rw[c]at e;cases e
theorem Tab.smc {W F:Pt->Prop}{S S':St}{rt:Pt}{tb:Tb}(h:Tab W F S rt tb)(k:Smc S S'):Tab W F S' rt tb:=by
 obtain⟨lv,ra,rn,rs,es,sv,h⟩:=h;have mob:∀{α:Type} {r:Pt} {enc:α->V} {m:List (α×V)},QR S r enc m->QR S' r enc m:=fun⟨t,e⟩=>⟨t,k.m e⟩
 refine⟨lv,ra,rn,rs,es,sv,{h with own:=fun r w=>k.n (h.own r w),cell:= ?_,l:= ?_,nd:=fun i a b=> ?_,key:=mob h.key,named:=mob h.named,sigs:=mob h.sigs,sig:=fun i a b=>⟨(h.sig i a b).1,(h.sig i a b).2.smc k⟩}⟩
 ·obtain⟨t,e⟩:=h.cell;exact k.c e
 ·refine⟨h.l.1, ?_⟩;rcases h.l.2 with l|⟨r,t,l1,l2,l3⟩
  ·exact .inl l
  ·obtain⟨t',e⟩:=k.c l2;exact .inr ⟨r,t',l1,e,l3⟩
 ·obtain⟨nv,kv,e,x,y⟩:=h.nd i a b;exact⟨nv,kv,e,x.smc k,y.smc k⟩
theorem TabX.smc {W:Pt->Prop}{S S':St}{rt:Pt}{tb:Tb}(h:TabX S W rt tb)(hw:WF S')(k:Smc S S'):TabX S' W rt tb:=by
 obtain⟨_,F,h⟩:=h;exact⟨hw,F,h.smc k⟩
end Eva
namespace Eva
open Go Go.RowKit Go.ChangeAt
inductive R9 where
 |mk (kind n:Int) (kids:List R9)
 deriving Inhabited
def R9.kids :R9->List R9| .mk _ _ l=>l
inductive R10 where
 |mk (kind n:Int) (w:R9) (kids:List R10)
 deriving Inhabited
inductive R9C (P:Pt->Prop) (st:St):List V->R9->Prop
 | mk {k n:Int} {ks:List R9} {kv:V} {es:List (List V)} (hk:In64 k) (hn:In64 n) (h2:SlAt P st kv 3 es) (h3:es.length=ks.length) (hl:ks.length<2^63) (h4:∀i (h:i<es.length) (h':i<ks.length),R9C P st es[i] ks[i]):
   R9C P st [.int .i64 k, .int .i64 n,kv] (.mk k n ks)
inductive R10C (P:Pt->Prop) (st:St):List V->R10->Prop
 | mk {k n:Int} {w:R9} {ks:List R10} {a b c kv:V} {es:List (List V)} (hk:In64 k) (hn:In64 n) (hw:R9C P st [a,b,c] w) (h2:SlAt P st kv 6 es) (h3:es.length=ks.length) (hl:ks.length<2^63) (h4:∀i (h:i<es.length) (h':i<ks.length),R10C P st es[i] ks[i]):
   R10C P st [.int .i64 k, .int .i64 n,a,b,c,kv] (.mk k n w ks)
section
variable {P Q : Pt -> Prop} {st st' : St} {e : List V}
theorem R9C.imp {r:R9}(h:R9C P st e r)(k:∀r,P r->st.row r≠ .none->Q r/\st'.row r=st.row r):R9C Q st' e r:=by
 induction h with
 |mk hk hn h2 h3 hl h4 ih=>exact .mk hk hn (h2.imp k) h3 hl ih
theorem R9C.len {r:R9}(h:R9C P st e r):e.length=3:=by cases h;rfl
theorem R10C.imp {r:R10}(h:R10C P st e r)(k:∀r,P r->st.row r≠ .none->Q r/\st'.row r=st.row r):R10C Q st' e r:=by
 induction h with
 |mk hk hn hw h2 h3 hl h4 ih=>exact .mk hk hn (hw.imp k) (h2.imp k) h3 hl ih
theorem R9C.gr {r:R9}(h:R9C P st e r)(g:Gr st st'):R9C P st' e r:=h.imp fun r p e=>⟨p,g.same r e⟩
theorem R10C.gr {r:R10}(h:R10C P st e r)(g:Gr st st'):R10C P st' e r:=h.imp fun r p e=>⟨p,g.same r e⟩
theorem R10C.len {r:R10}(h:R10C P st e r):e.length=6:=by cases h;rfl
end
def qZ (P:Pt->Prop)(st:St)(u:V)(rs:List R10):Prop:=∃es,SlAt P st u 6 es/\es.length=rs.length/\rs.length<2^63/\∀i (h:i<es.length) (h':i<rs.length),R10C P st es[i] rs[i]
theorem qZ.imp {P Q:Pt->Prop}{st st':St}{u:V}{rs:List R10}(h:qZ P st u rs)(k:∀r,P r->st.row r≠ .none->Q r/\st'.row r=st.row r):qZ Q st' u rs:=by
 obtain⟨es,h1,h2,h3,h4⟩:=h;exact⟨es,h1.imp k,h2,h3,fun i a b=>(h4 i a b).imp k⟩
structure R9Ty (P:Program) (t ti tk:TypeId):Prop where
 raw:∃f0 f1 f2:Field,P.underlying t=some (.struct #[f0,f1,f2])/\(f0.type=ti/\f0.offset=0)/\(f1.type=ti/\f1.offset=1)/\(f2.type=tk/\f2.offset=2)
 int:P.underlying ti=some (.int .i64)
 kids:P.underlying tk=some (.slice t)
 ct:P.cellsOf t=3
 ci:P.cellsOf ti=1
 ck:P.cellsOf tk=1
structure Jop (P:Program) (t ti tw tk tx:TypeId):Prop where
 w:R9Ty P tw ti tx
 raw:∃f0 f1 f2 f3:Field,P.underlying t=some (.struct #[f0,f1,f2,f3])/\(f0.type=ti/\f0.offset=0)/\(f1.type=ti/\f1.offset=1)/\(f2.type=tw/\f2.offset=2)/\(f3.type=tk/\f3.offset=5)
 kids:P.underlying tk=some (.slice t)
 ct:P.cellsOf t=6
 ck:P.cellsOf tk=1
section
variable {H : Type} {enc : TypeId × Value -> H} {P : Program} {W : World} {ρ : Nat -> Value}
theorem Jlt {z:Int}(h:(Lit.int .i64 z).wf=true):In64 z:=by
 have: -9223372036854775808<=z/\z<=9223372036854775807:=by simpa[Lit.wf,IntKind.min,IntKind.max,IntKind.bits,IntKind.signed]using h
 exact⟨this.1,by omega⟩
theorem Jrt {t ti tk:TypeId}(hT:R9Ty P t ti tk)(h0:0<W.heap.size):∀(fuel:Nat),
  (∀{cs:List Value} {x:DataW H×List MemPlace},DataW.trod enc P W 0 (fun _=>true) true fuel t cs=some x->cs.length=3/\∃r,OpnC ρ W cs fun st e=>R9C (fun _=>True) st e r)/\
  (∀{cs:List Value} {x:DataW H×List MemPlace},DataW.trod enc P W 0 (fun _=>true) true fuel tk cs=some x->∃(v:Value) (rs:List R9),cs=[v]/\OpnV ρ W v fun st u=>∃es,SlAt (fun _=>True) st u 3 es/\es.length=rs.length/\rs.length<2^63/\∀i (h:i<es.length) (h':i<rs.length),R9C (fun _=>True) st es[i] rs[i]):=by
 intro fuel
 induction fuel with
 |zero=>exact⟨fun h=>by simp[DataW.trod]at h,fun h=>by simp[DataW.trod]at h⟩
 | succ fuel ih=>
   refine⟨fun{cs x} h=> ?_,fun{cs x} h=> ?_⟩
   ·obtain⟨g0,g1,g3,hraw,⟨t0,o0⟩,⟨t1,o1⟩,⟨t3,o3'⟩⟩:=hT.raw;obtain⟨xs,n,hn,_,hl,hxl,hf⟩:=DataW.trod_struct hraw h;injection hn with hn;subst hn;rw[hT.ct]at hl;refine⟨hl, ?_⟩
    match cs,hl with
    | [c0,c1,c3],_=>
      have hx4:xs.length=3:=hxl
      match xs,hx4 with
      | [x0,x1,x3],_=>
        have f0:=hf 0 g0 rfl;have f1:=hf 1 g1 rfl;have f3:=hf 2 g3 rfl;rw[t0,o0,hT.ci]at f0;rw[t1,o1,hT.ci]at f1;rw[t3,o3',hT.ck]at f3;obtain⟨k,e0,_,w0⟩:=DataW.trod_int hT.int f0;obtain⟨m,e1,_,w1⟩:=DataW.trod_int hT.int f1;obtain⟨v3,rs,e3,o3⟩:=ih.2 f3;injection e0 with e0;injection e1 with e1;injection e3 with e3;subst e0;subst e1;subst e3;refine⟨.mk k m rs, ?_⟩;have oc:OpnC ρ W [.int .i64 k, .int .i64 m] fun _ e=>e=[.int .i64 k, .int .i64 m]:=OpnC.const fun γ=>⟨_,_,rfl,rfl,_,_,rfl,rfl,rfl⟩
        refine(oc.append o3.cell).mono fun st e ⟨a,b,h1,h2,u3,h6,es,h7,h8,h9,h10⟩=> ?_;rw[h1,h2,h6];exact .mk (Jlt w0) (Jlt w1) h7 h8 h9 h10
   ·obtain⟨v,rs,h1,h2⟩:=JjG (ρ:=ρ) (z:=3) (by decide) hT.kids hT.ct h0 (K:=fun e st r=>R9C (fun _=>True) st e r) (fun{cs x} k=>by
     obtain⟨k3,r,k4⟩:=ih.1 k;exact⟨k3,r,k4.mono fun st e h=>⟨h.len,h⟩⟩) h
    exact⟨v,rs,h1,h2.mono fun st u ⟨es,k1,k2,k3,k4⟩=>⟨es,k1,k2,Jat k3,k4⟩⟩
theorem JpH {t ti tw tk tx:TypeId}(hT:Jop P t ti tw tk tx)(h0:0<W.heap.size):∀(fuel:Nat),
  (∀{cs:List Value} {x:DataW H×List MemPlace},DataW.trod enc P W 0 (fun _=>true) true fuel t cs=some x->cs.length=6/\∃r,OpnC ρ W cs fun st e=>R10C (fun _=>True) st e r)/\
  (∀{cs:List Value} {x:DataW H×List MemPlace},DataW.trod enc P W 0 (fun _=>true) true fuel tk cs=some x->∃(v:Value) (rs:List R10),cs=[v]/\OpnV ρ W v fun st u=>qZ (fun _=>True) st u rs):=by
 intro fuel
 induction fuel with
 |zero=>exact⟨fun h=>by simp[DataW.trod]at h,fun h=>by simp[DataW.trod]at h⟩
 | succ fuel ih=>
   refine⟨fun{cs x} h=> ?_,fun{cs x} h=> ?_⟩
   ·obtain⟨g0,g1,g2,g3,hraw,⟨t0,o0⟩,⟨t1,o1⟩,⟨t2,o2⟩,⟨t3,o3'⟩⟩:=hT.raw;obtain⟨xs,n,hn,_,hl,hxl,hf⟩:=DataW.trod_struct hraw h;injection hn with hn;subst hn;rw[hT.ct]at hl;refine⟨hl, ?_⟩
    match cs,hl with
    | [c0,c1,c2,c2',c2'',c3],_=>
      have hx4:xs.length=4:=hxl
      match xs,hx4 with
      | [x0,x1,x2,x3],_=>
        have f0:=hf 0 g0 rfl;have f1:=hf 1 g1 rfl;have f2:=hf 2 g2 rfl;have f3:=hf 3 g3 rfl;rw[t0,o0,hT.w.ci]at f0;rw[t1,o1,hT.w.ci]at f1;rw[t2,o2,hT.w.ct]at f2;rw[t3,o3',hT.ck]at f3;obtain⟨k,e0,_,w0⟩:=DataW.trod_int hT.w.int f0;obtain⟨m,e1,_,w1⟩:=DataW.trod_int hT.w.int f1;obtain⟨_,q,o2⟩:=(Jrt (ρ:=ρ) hT.w h0 fuel).1 f2;obtain⟨v3,rs,e3,o3⟩:=ih.2 f3;injection e0 with e0;injection e1 with e1;injection e3 with e3;subst e0;subst e1;subst e3;refine⟨.mk k m q rs, ?_⟩;have oc:OpnC ρ W [.int .i64 k, .int .i64 m] fun _ e=>e=[.int .i64 k, .int .i64 m]:=OpnC.const fun γ=>⟨_,_,rfl,rfl,_,_,rfl,rfl,rfl⟩
        have o2':OpnC ρ W [c2,c2',c2''] fun st e=>R9C (fun _=>True) st e q:=o2;refine((oc.append o2').append o3.cell).mono fun st e ⟨a,b,h1,⟨a1,a2,h2,h3,h4⟩,u3,h6,es,h7,h8,h9,h10⟩=> ?_;have hl:=h4.len
        match a2,hl with
        | [y0,y1,y2],_=>
          rw[h1,h2,h3,h6];exact .mk (Jlt w0) (Jlt w1) h4 h7 h8 h9 h10
   ·obtain⟨v,rs,h1,h2⟩:=JjG (ρ:=ρ) (z:=6) (by decide) hT.kids hT.ct h0 (K:=fun e st r=>R10C (fun _=>True) st e r) (fun{cs x} k=>by
     obtain⟨k3,r,k4⟩:=ih.1 k;exact⟨k3,r,k4.mono fun st e h=>⟨h.len,h⟩⟩) h
    exact⟨v,rs,h1,h2.mono fun st u ⟨es,k1,k2,k3,k4⟩=>⟨es,k1,k2,Jat k3,k4⟩⟩
theorem JpI {t ti tw tk tx:TypeId}(hT:Jop P t ti tw tk tx)(h0:0<W.heap.size){r:Reach}{b0:Nat}{v:Value}{d:DataW H}{p:List MemPlace}(hval:Value.okWide P W r b0 tk v)(h:DataW.Trod enc P W 0 (fun _=>true) true tk v d p):
  ∃qs:List R10,OpnV ρ W v fun st u=>qZ (fun _=>True) st u qs:=by
 obtain⟨a,len,cap,rfl⟩:=WideShapes.okWide_slice hT.kids hval;obtain⟨fuel,hf⟩:=h;obtain⟨v',qs,h1,h2⟩:=(JpH (ρ:=ρ) hT h0 fuel).2 hf;have hcs:(Value.slice a len cap).cells.toList=[.slice a len cap]:=by simp[Value.cells]
 rw[hcs]at h1;injection h1 with h1;exact⟨qs,by rw[h1];exact h2⟩
end
end Eva
namespace Eva
open Go Go.RowKit
theorem JeM {Q:List Str->Prop}:∀{l:List Ty},(∀t∈l,noNm Q t)->Y2 Q l
 |[],_=>by rw[Y2];trivial
 |t::r,h=>by rw[Y2];exact⟨h t (List.mem_cons_self ..),JeM fun x hx=>h x (List.mem_cons_of_mem _ hx)⟩
theorem Jcr {Q:List Str->Prop}:∀{l:List Ty},Y2 Q l->∀t∈l,noNm Q t
 |[],_,t,h=>by cases h
 | t::r,h,x,hx=>by
   rw[Y2]at h;rcases List.mem_cons.1 hx with rfl|hx
   ·exact h.1
   ·exact Jcr h.2 x hx
theorem qq {Q:List Str->Prop}{k:Int}{n:Str}{ns:List Str}{ks:List Ty}:noNm Q (.mk k n ns ks)<->Q ns/\Y2 Q ks:=by rw[noNm]
theorem Jl3 {n:Str}{t x:Ty}{m:Str}(ht:noNm (n∉·) t)(hx:noNm (n∉·) x)(hm:n≠m):noNm (n∉·) (putS t m x):=by
 unfold putS
 split
 ·exact ht
 obtain⟨k,nm,ns,ks⟩:=t;obtain⟨h1,h2⟩:=qq.1 ht;refine qq.2 ⟨fun c=> ?_,JeM fun y hy=> ?_⟩
 ·rcases List.mem_append.1 c with c|c
  ·exact h1 (List.mem_of_mem_take c)
  ·rcases List.mem_cons.1 c with c|c
   ·exact hm c
   ·exact h1 (List.mem_of_mem_drop c)
 ·rcases List.mem_append.1 hy with hy|hy
  ·exact Jcr h2 y (List.mem_of_mem_take hy)
  ·rcases List.mem_cons.1 hy with rfl|hy
   ·exact hx
   ·exact Jcr h2 y (List.mem_of_mem_drop hy)
theorem Jl4 (z:Int):JcU z∈nms7:=by
 unfold JcU;have h3:(z%7).toNat<nms7.length:=by show _<7;omega
 rw[List.getD_eq_getElem?_getD,List.getElem?_eq_getElem h3];exact List.getElem_mem h3
theorem Jl5 {n:Str}(h7:n∉nms7)(hu:n≠[117])(r:Rw)(i:Nat):n≠nameAt r i:=by
 unfold nameAt
 split
 ·rename_i z _
  exact fun e=>h7 (by rw[e];exact Jl4 z)
 ·exact hu
theorem JeN {n:Str}{f:Nat->Str}{g:Nat->Ty}(hf:∀i,n≠f i)(hg:∀i,noNm (n∉·) (g i)):∀(l:List Nat) (t:Ty),noNm (n∉·) t->noNm (n∉·) (l.foldl (fun t i=>putS t (f i) (g i)) t)
 |[],t,h=>h
 |i::r,t,h=>JeN hf hg r _ (Jl3 h (hg i) (hf i))
theorem Jbc {n:Str}(h7:n∉nms7)(hu:n≠[117])(nms:List Str):∀(d:Nat) (r:Rw),noNm (n∉·) (JB nms d r)
 |0,r=>by rw[JB];exact qq.2 ⟨by simp,by rw[Y2];trivial⟩
 | d+1,r=>by
   have z:∀(k:Int) (m:Str),noNm (n∉·) (.mk k m [] []):=fun k m=>qq.2 ⟨by simp,by rw[Y2];trivial⟩;have ih:=fun r=>Jbc h7 hu nms d r;rw[JB]
   split
   ·exact z _ _
   split
   ·split
    ·exact ih _
    ·exact qq.2 ⟨by simp,JeM fun t ht=>by rw[List.mem_singleton.1 ht];exact ih _⟩
   split
   ·exact JeN (fun i=>Jl5 h7 hu r i) (fun i=>ih _) _ _ (z _ _)
   ·exact z _ _
mutual
theorem JeO {n:Str}:∀(t:Ty),noNm (n∉·) t->fitT t=true->noNm (fun ns=>n∉ns/\ns.length<1000) t
 | .mk k m ns ks,h,hf=>by
   obtain⟨h1,h2⟩:=qq.1 h;obtain⟨f1,f2,f3⟩:=qf hf;exact qq.2 ⟨⟨h1,by omega⟩,Jf7 ks h2 f3⟩
theorem Jf7 {n:Str}:∀(l:List Ty),Y2 (n∉·) l->jK l=true->Y2 (fun ns=>n∉ns/\ns.length<1000) l
 |[],_,_=>by rw[Y2];trivial
 | t::r,h,hf=>by
   rw[Y2]at h;rw[jK,Bool.and_eq_true]at hf;rw[Y2];exact⟨JeO t h.1 hf.1,Jf7 r h.2 hf.2⟩
end
theorem Jl6 {n:Str}{q:Rw}{ts:List Rw}{tb:Tb}{e:Int}(h7:n∉nms7)(hu:n≠[117])(h:newS (qi q ts [])=(some tb,e))(hm:fitT (qi q ts []).main=true)(ht:∀p∈(qi q ts []).types,fitT p.2=true):∀nd∈tb.nodes,n∉nd.names/\nd.names.length<1000:=by
 refine Jn6 (Q:=fun ns=>n∉ns/\ns.length<1000) rfl h (JeO _ (Jbc h7 hu _ _ _) hm) fun p hp=>JeO _ ?_ (ht p hp);unfold qi typesOf at hp;obtain⟨x,_,rfl⟩:=List.mem_map.1 hp;exact Jbc h7 hu _ _ _
section
variable (P : Program)
def J8 :Value->V
 | .bool b=> .bool b
 | .int k n=> .int k n
 | .string s=>ofL s.data.toList
 | .slice _ _ _=> .snil
 | .map _=> .mnil
 | .nilFunc=> .fnil
 | .float _ _=> .pnil
 | .complex _ _ _=> .pnil
 | .pointer _=> .pnil
 | .chan _=> .pnil
 | .func _ _ _=> .pnil
 | .iface _ _=> .pnil
 | .nilIface=> .pnil
 | .agg _=> .pnil
 | .tuple _=> .pnil
def Jc7 :List Value->List V
 |[]=>[]
 |a::r=>J8 a::Jc7 r
def Kr :Value->V
 | .agg cs=> .agg (Jc7 cs.toList)
 | .tuple cs=> .tup (Jc7 cs.toList)
 | .bool b=> .bool b
 | .int k n=> .int k n
 | .string s=>ofL s.data.toList
 | .slice _ _ _=> .snil
 | .map _=> .mnil
 | .nilFunc=> .fnil
 | .float _ _=> .pnil
 | .complex _ _ _=> .pnil
 | .pointer _=> .pnil
 | .chan _=> .pnil
 | .func _ _ _=> .pnil
 | .iface _ _=> .pnil
 | .nilIface=> .pnil
def Jv :Operand->Opd
 | .tmp t=> .s t
 | .const v=> .c (Kr v)
 | .func f=> .c (.fn f [] [])
 | .global _=> .c .any
def jt :List Operand->List Opd
 |[]=>[]
 |a::r=>Jv a::jt r
def Y5 :Option Operand->Option Opd
 |none=>none
 |some x=>some (Jv x)
def Yv (t:TypeId):Nat:=match P.info? t with
 |some i=>i.size
 |none=>0
def q9 :Option Value->List V
 |some v=>Jc7 v.cells.toList
 |none=>[]
def JeP (t:TypeId):List V:=match P.info? t with
 |some i=>q9 i.zero
 |none=>[]
def JiO :Option Value->V
 |some v=>Kr v
 |none=> .any
def c0ZS (t:TypeId):V:=match P.info? t with
 |some i=>JiO i.zero
 |none=> .any
def Qx (t:TypeId):TypeDesc:=match P.info? t with
 | some i=>match i.desc with
   | .named _ u=>match P.info? u with
     |some j=>j.desc
     |none=> .bool
   |d=>d
 |none=> .bool
def Jcs (t:TypeId):Bool:=match Qx P t with
 | .struct _=>true
 | .array _ _=>true
 |_=>false
def Jbd {α:Type}:List α->List α->List α
 |[],k=>k
 |a::r,k=>a::Jbd r k
def Jct (g:TypeId->List KD):List Field->List KD
 |[]=>[]
 |f::r=>Jbd (g f.type) (Jct g r)
def Jcu :Nat->List KD->List KD
 |0,_=>[]
 |n+1,l=>Jbd l (Jcu n l)
def JiP :Nat->TypeId->List KD
 |0,_=>[]
 | d+1,t=>match Qx P t with
   | .bool=>[.b]
   | .int _=>[.i]
   | .string=>[.s]
   | .struct fs=>Jct (JiP d) fs.toList
   | .array n e=>Jcu n (JiP d e)
   |_=>[]
def Jc8 (t:TypeId):EK:=match Qx P t with
 | .bool=> .one .b
 | .int _=> .one .i
 | .string=> .one .s
 | .pointer _=> .one .p
 | .slice _=> .one .l
 | .map _ _=> .one .m
 | .func _ _ _=> .one .f
 |_=> .many (JiP P 8 t)
def YO :List Field->Nat->Field
 |[],_=>default
 |a::_,0=>a
 |_::r,n+1=>YO r n
def Jcv (fs:List Field):List (Nat×Operand)->List (Nat×Nat×Opd)
 |[]=>[]
 |p::r=>((YO fs p.1).offset,Yv P (YO fs p.1).type,Jv p.2)::Jcv fs r
def Jbe (z:Nat):List (Nat×Operand)->List (Nat×Nat×Opd)
 |[]=>[]
 |p::r=>(p.1*z,z,Jv p.2)::Jbe z r
def Jcw {α:Type}:List α->List α->List α
 |[],k=>k
 |a::r,k=>a::Jcw r k
def Jcx :Nat->List V->List V
 |0,_=>[]
 |n+1,l=>Jcw l (Jcx n l)
def Q2 (b:Builtin)(ts:List TypeId)(xs:List Opd):Iop:=match b,ts,xs with
 | .len,t::_,[x]=>match Qx P t with
   | .string=> .lenS x
   | .map _ _=> .lenM x
   |_=> .lenL x
 | .cap,_,[x]=> .cap x
 | .append,t::_,[s,x]=>match Qx P t with
   | .slice e=> .app (Yv P e) s x
   |_=> .mkmap
 | .copy,t::_,[d,x]=>match Qx P t with
   | .slice e=> .copy (Yv P e) d x
   |_=> .mkmap
 | .min,_,[x,y]=> .min x y
 | .max,_,[x,y]=> .max x y
 | .clear,t::_,[x]=>match Qx P t with
   | .slice e=> .clear (Yv P e) (JeP P e) x
   |_=> .mkmap
 |_,_,_=> .mkmap
def JH :Op->Iop
 | .move x=> .mv (Jv x)
 | .assign x=> .mv (Jv x)
 | .pick c a b=> .pick (Jv c) (Jv a) (Jv b)
 | .alloc t=> .alloc (JeP P t)
 | .box _ x=> .box (Jv x)
 | .build t ps=> .build (JeP P t) (match Qx P t with
   | .struct fs=>Jcv P fs.toList ps.toList
   | .array _ e=>Jbe (Yv P e) ps.toList
   |_=>[])
 | .buildSlice t n ps=>match Qx P t with
   | .slice e=> .bsl (Yv P e) n (Jcx n (JeP P e)) (Jbe (Yv P e) ps.toList)
   |_=> .mkmap
 | .load t x=>match Jcs P t with
   |true=> .loadn (Yv P t) (Jv x)
   |false=> .load1 (Jv x)
 | .store t x v=> .store (Yv P t) (Jv x) (Jv v)
 | .nilCheck x=> .nilck (Jv x)
 | .binOp op t x y _=>match op with
   | .eql=> .eq (Jc8 P t) false (Jv x) (Jv y)
   | .neq=> .eq (Jc8 P t) true (Jv x) (Jv y)
   |op=> .bin op (Jv x) (Jv y)
 | .unOp op _ x=>match op with
   | .not=> .not (Jv x)
   |_=> .neg (Jv x)
 | .convert s d x=>match Qx P s,Qx P d with
   | .slice _,_=> .bts (Jv x)
   | .string,_=> .tostr (Jv x)
   |_, .int k=> .toint k (Jv x)
   |_,_=> .mkmap
 | .makeFunc (.func f) a b=> .mkfn f (jt a.toList) (jt b.toList)
 | .makeMap _ _=> .mkmap
 | .makeSlice t n c=>match Qx P t with
   | .slice e=> .mksl (Yv P e) (JeP P e) (Jv n) (Jv c)
   |_=> .mkmap
 | .slice t x lo hi mx=>match Qx P t with
   | .string=> .cutS (Jv x) (Y5 lo) (Y5 hi)
   | .slice e=> .cutL (Yv P e) (Jv x) (Y5 lo) (Y5 hi) (Y5 mx)
   | .array n e=> .cutA n (Yv P e) (Jv x) (Y5 lo) (Y5 hi) (Y5 mx)
   |_=> .mkmap
 | .fieldAddr t x f=>match Qx P t with
   | .struct fs=> .faddr (YO fs.toList f).offset (Jv x)
   |_=> .mkmap
 | .field t x f=>match Qx P t with
   | .struct fs=> .fld (YO fs.toList f).offset (match Jcs P (YO fs.toList f).type with
     |true=>some (Yv P (YO fs.toList f).type)
     |false=>none) (Jv x)
   |_=> .mkmap
 | .indexAddr t x i=>match Qx P t with
   | .slice e=> .iaddrS (Yv P e) (Jv x) (Jv i)
   | .array n e=> .iaddrA n (Yv P e) (Jv x) (Jv i)
   |_=> .mkmap
 | .index t x i=>match Qx P t with
   | .array n e=> .idxA n (Yv P e) (Jcs P e) (Jv x) (Jv i)
   |_=> .idxS (Jv x) (Jv i)
 | .lookup t m k ok=>match Qx P t with
   | .map kt et=> .lookup (Jc8 P kt) (c0ZS P et) ok (Jv m) (Jv k)
   |_=> .mkmap
 | .mapUpdate t m k v=>match Qx P t with
   | .map kt _=> .mupd (Jc8 P kt) (Jv m) (Jv k) (Jv v)
   |_=> .mkmap
 | .insert t m k v=>match Qx P t with
   | .map kt _=> .mupd (Jc8 P kt) (Jv m) (Jv k) (Jv v)
   |_=> .mkmap
 | .mapEntry t m k=>match Qx P t with
   | .map kt et=> .ment (Jc8 P kt) (c0ZS P et) (Jv m) (Jv k)
   |_=> .mkmap
 | .entryStore _ m s v=> .ests (Jv m) (Jv s) (Jv v)
 | .range t x=>match Qx P t with
   | .string=> .rngS (Jv x)
   |_=> .rngM (Jv x)
 | .next x s=>match s with
   |true=> .jc (Jv x)
   |false=> .nextM (Jv x)
 | .extract x n=> .ext n (Jv x)
 | .call c=>match c.callee with
   | .value (.func f)=> .call f (jt c.args.toList)
   | .builtin b=>Q2 P b c.argTypes.toList (jt c.args.toList)
   | .value x=> .callv (Jv x) (jt c.args.toList)
   |_=> .mkmap
 |_=> .mkmap
def JiQ :Op->Bool
 | .call c=>match c.callee with
   | .builtin _=>false
   |_=>true
 |_=>false
def JiR :Option Nat->Nat
 |some d=>d
 |none=>0
def Jaa :List Oper->Nat->Nat
 |[],_=>0
 |a::_,0=>JiR a.dst
 |_::r,n+1=>Jaa r n
def Jcy (ops:List Oper):Option (Nat×Bool)->Option (Nat×Bool)
 |none=>none
 |some (j,w)=>some (Jaa ops j,w)
def JiS :List (Option (List Nat))->Option (List Nat)
 |[]=>none
 |w::_=>w
def JiT :List (Option (List Nat))->List (Option (List Nat))
 |[]=>[]
 |_::r=>r
def jl (ops:List Oper):List Oper->List (Option (List Nat))->List Ins
 |[],_=>[]
 | ⟨d,x,_,_,_,g⟩::os,ws=>match JiQ x with
   |true=>⟨d,JH P x,Jcy ops g,JiS ws⟩::jl ops os (JiT ws)
   |false=>⟨d,JH P x,Jcy ops g,none⟩::jl ops os ws
abbrev QE :=List (List (Option (List Nat))×List (List Nat×List Nat))
def JiU :Bool->Bool->Bool
 |true,_=>true
 |false,b=>b
def Qc :Code->Bool
 | .cond ..=>true
 | .block ..=>true
 | .loop _=>true
 | .seq a b=>JiU (Qc a) (Qc b)
 | .skip=>false
 | .region ..=>false
 | .exit _=>false
 | .ret=>false
 | .rangeFunc ..=>false
 | .scope _=>false
 | .label _=>false
 | .goto _=>false
 | .refuse _=>false
abbrev Y6 :=C×List (List Nat)×QE
def Jbf (ops:List Oper):Bool->List (List Nat)->QE->Y6
 |true,hs,[]=>(.skip,hs,[])
 |true,hs,(ws,chk)::ds=>(.drw (jl P ops ops ws) chk,hs,ds)
 |false,hs,ds=>(.reg (jl P ops ops []),hs,ds)
def JeQ (k:C->C->C)(f:Y6)(g:List (List Nat)->QE->Y6):Y6:=match f with
 | (x,hs,ds)=>match g hs ds with
   |(y,hs,ds)=>(k x y,hs,ds)
def JgS (k:C->C)(f:Y6):Y6:=match f with
 |(x,hs,ds)=>(k x,hs,ds)
def Jbg :Bool->List (List Nat)->(List (List Nat)->Y6)->(List (List Nat)->QE->Y6)->Y6
 |true,[],_,_=>(.skip,[],[])
 |true,live::hs,f,g=>JeQ (.seqj live) (f hs) g
 |false,hs,f,g=>JeQ .seq (f hs) g
def Jb1 :List (List Nat)->(List (List Nat)->Y6)->Y6
 |[],_=>(.skip,[],[])
 |live::hs,f=>JgS (.loop live) (f hs)
def JY :Code->List (List Nat)->QE->Y6
 | .skip,hs,ds=>(.skip,hs,ds)
 | .region _ ops draw,hs,ds=>Jbf P ops.toList draw hs ds
 | .seq a b,hs,ds=>Jbg (Qc a) hs (fun hs=>JY a hs ds) fun hs ds=>JY b hs ds
 | .cond c a b,hs,ds=>JeQ (.cond (Jv c)) (JY a hs ds) fun hs ds=>JY b hs ds
 | .block id b,hs,ds=>JgS (.block id) (JY b hs ds)
 | .loop b,hs,ds=>Jb1 hs fun hs=>JY b hs ds
 | .exit id,hs,ds=>(.exit id,hs,ds)
 | .ret,hs,ds=>(.ret,hs,ds)
 | .rangeFunc _ _ _ _,hs,ds=>(.cond (.c .any) .skip .skip,hs,ds)
 | .scope _,hs,ds=>(.skip,hs,ds)
 | .label _,hs,ds=>(.skip,hs,ds)
 | .goto _,hs,ds=>(.skip,hs,ds)
 | .refuse _,hs,ds=>(.skip,hs,ds)
def ju :List ResultVar->List RS
 |[]=>[]
 | .tmp t::r=> .s t::ju r
 | .cell a t::r=>match Jcs P t with
   |true=> .cn a (Yv P t)::ju r
   |false=> .c1 a::ju r
def Jb2 :Option Code->List (List Nat)->QE->C
 |some c,hs,ds=>(JY P c hs ds).1
 |none,_,_=> .ret
def JiV (f:Func)(hs:List (List Nat))(ds:QE):Fn:=⟨f.ntmps,ju P f.results.toList,Jb2 P f.body hs ds⟩
end
end Eva
