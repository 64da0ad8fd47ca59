/- Memory, tables and types, told for contracts. Slices and maps in memory: what is read o -/
import Derived.Test.YtgmmjcgkklgeeaaGreatEvd8
set_option linter.defProp false
set_option linter.unusedVariables false
set_option linter.unusedSimpArgs false
set_option linter.unusedSectionVars false
namespace Eva
open Go Go.RowKit
def RowL (x:Row)(l:List V):Prop:=(∃t,x= .cells t l)\/x= .ro l
theorem RowL.ne {x:Row}{l:List V}(h:RowL x l):x≠ .none:=by
 rcases h with⟨t,rfl⟩|rfl<;>exact fun e=>by cases e
theorem RowL.ld1 {x:Row}{l:List V}(h:RowL x l)(o:Nat):ld1 x o=(l[o]?).map fun v=>(v, .no):=by
 rcases h with⟨t,rfl⟩|rfl<;>rfl
theorem RowL.ldn {x:Row}{l:List V}(h:RowL x l)(o n:Nat):ldn x o n=if o+n<=l.length then some (.agg ((l.drop o).take n), .no)else none:=by
 rcases h with⟨t,rfl⟩|rfl<;>rfl
def SlAt (P:Pt->Prop)(st:St)(v:V)(z:Nat)(es:List (List V)):Prop:=
 (∀e∈es,e.length=z)/\((v= .snil/\es=[])\/∃r o,P r/\(v= .sl r o es.length z\/∃c,es.length<=c/\v= .slx r o es.length z c)/\∃l,RowL (st.row r) l/\o+es.length*z<=l.length/\(l.drop o).take (es.length*z)=es.flatten)
theorem Jd7 {z:Nat}:∀{es:List (List V)} {i:Nat},(∀e∈es,e.length=z)->(hi:i<es.length)->(es.flatten.drop (i*z)).take z=es[i]
 | e::r,0,h,_=>by
   have:=h e (by simp);simp[<-this]
 | e::r,i+1,h,hi=>by
   have h1:=h e (by simp);have:=Jd7 (i:=i) (fun x hx=>h x (List.mem_cons_of_mem _ hx)) (by simpa using hi);rw[List.flatten_cons,Nat.succ_mul,Nat.add_comm,List.getElem_cons_succ,<-this];congr 1;rw[<-h1,List.drop_append];simp
theorem JF {z:Nat}:∀{es:List (List V)},(∀e∈es,e.length=z)->es.flatten.length=es.length*z
 |[],_=>by simp
 | e::r,h=>by
   rw[List.flatten_cons,List.length_append,h e (by simp),JF (fun x hx=>h x (List.mem_cons_of_mem _ hx)),List.length_cons,Nat.succ_mul,Nat.add_comm]
section
variable {P Q : Pt -> Prop} {st st' : St} {v : V} {z : Nat} {es : List (List V)}
theorem SlAt.nil (P:Pt->Prop)(st:St)(z:Nat):SlAt P st .snil z []:=⟨by simp, .inl ⟨rfl,rfl⟩⟩
theorem SlAt.len (h:SlAt P st v z es):Kf v=some (.int .i64 es.length, .no):=by
 rcases h.2 with⟨rfl,rfl⟩|⟨r,o,_,rfl|⟨c,_,rfl⟩,_⟩<;>rfl
theorem SlAt.slen (h:SlAt P st v z es):slen v=some es.length:=by
 rcases h.2 with⟨rfl,rfl⟩|⟨r,o,_,rfl|⟨c,_,rfl⟩,_⟩<;>rfl
theorem SlAt.imp (h:SlAt P st v z es)(k:∀r,P r->st.row r≠ .none->Q r/\st'.row r=st.row r):SlAt Q st' v z es:=by
 refine⟨h.1, ?_⟩;rcases h.2 with h|⟨r,o,hp,hv,l,hl,h1,h2⟩
 ·exact .inl h
 ·obtain⟨k1,k2⟩:=k r hp hl.ne;exact .inr ⟨r,o,k1,hv,l,by rw[k2];exact hl,h1,h2⟩
theorem SlAt.elem (h:SlAt P st v z es){i:Nat}(hi:i<es.length):
  ∃r q,JJ z v (.int .i64 i)=some (.ptr r q, .no)/\P r/\(st.row r≠ .none)/\ldn (st.row r) q z=some (.agg es[i], .no)/\∀j (hj:j<es[i].length),ld1 (st.row r) (q+j)=some (es[i][j], .no):=by
 rcases h.2 with⟨_,rfl⟩|⟨r,o,hp,hv,l,hl,h1,h2⟩
 ·exact absurd hi (by simp)
 have hz:es[i].length=z:=h.1 _ (List.getElem_mem hi);have hle:i*z+z<=es.length*z:=by rw[<-Nat.succ_mul];exact Nat.mul_le_mul_right _ hi
 have key:(l.drop (o+i*z)).take z=es[i]:=by
  rw[<-Jd7 h.1 hi,<-h2,List.drop_take,List.drop_drop,List.take_take,Nat.min_eq_left (by omega)]
 refine⟨r,o+i*z, ?_,hp,hl.ne, ?_,fun j hj=> ?_⟩
 ·rcases hv with rfl|⟨c,_,rfl⟩
  ·rw[YH,if_pos (by omega)];simp
  ·rw[kI,if_pos (by omega)];simp
 ·rw[hl.ldn,if_pos (by omega),key]
 ·rw[hl.ld1];have hj2:j<z:=by omega
  have hlt:o+i*z+j<l.length:=by omega
  have:es[i][j]=l[o+i*z+j]:=by
   have e:∀(m:List V) (hm:m=es[i]),m[j]? =es[i][j]? :=fun m hm=>by rw[hm]
   have e2:=e _ key;rw[List.getElem?_take_of_lt hj2,List.getElem?_drop,List.getElem?_eq_getElem hlt,List.getElem?_eq_getElem hj]at e2;exact(Option.some.inj e2).symm
  rw[List.getElem?_eq_getElem hlt,this];rfl
theorem SlAt.one {xs:List V}(h:SlAt P st v 1 (xs.map fun x=>[x])){i:Nat}(hi:i<xs.length):
  ∃r q,JJ 1 v (.int .i64 i)=some (.ptr r q, .no)/\P r/\(st.row r≠ .none)/\ld1 (st.row r) q=some (xs[i], .no):=by
 obtain⟨r,q,h1,h2,h3,_,h5⟩:=h.elem (i:=i) (by simpa using hi);refine⟨r,q,h1,h2,h3, ?_⟩;have:=h5 0 (by simp);simpa using this
end
def Ya {α:Type}[DecidableEq α](k:α):List (α×V)->Nat->Option (Nat×V)
 |[],_=>none
 |(a,v)::r,i=>if k=a then some (i,v)else Ya k r (i+1)
theorem kJ {α:Type}[DecidableEq α]{enc:α->V}{e:EK}(k:α):∀(es:List (α×V)) (i:Nat),(∀p∈es,e.eq (enc k) (enc p.1)=some (decide (k=p.1)))->
  Ky e (enc k) (es.map fun p=>(enc p.1,p.2)) i=some (Ya k es i)
 |[],_,_=>rfl
 | (a,v)::r,i,heq=>by
   have h1:=heq (a,v) (by simp);simp only[List.map_cons,Ky,h1,Ya];by_cases h:k=a
   ·simp[h]
   ·simp only[h,decide_false,if_false];exact kJ k r (i+1) fun p hp=>heq p (by simp[hp])
theorem JbG (a b:List UInt8):EK.eq (.one .s) (ofL a) (ofL b)=some (decide (a=b)):=by
 simp only[EK.eq,keq,ofL,JbE]
def at_ {α:Type}[DecidableEq α](k:α):List (α×V)->Option V
 |[]=>none
 |(a,v)::r=>if k=a then some v else at_ k r
theorem Jgq {α:Type}[DecidableEq α](k:α):∀(es:List (α×V)) (i:Nat),(Ya k es i).map (·.2)=at_ k es
 |[],_=>rfl
 | (a,v)::r,i=>by
   simp only[Ya,at_]
   split
   ·rfl
   ·exact Jgq k r (i+1)
theorem JbH {α:Type}[DecidableEq α]{k:α}:∀{es:List (α×V)} {i j:Nat} {v:V},Ya k es i=some (j,v)->i<=j/\∃h:j-i<es.length,es[j-i]=(k,v)
 |[],_,_,_,h=>by cases h
 | (a,w)::r,i,j,v,h=>by
   simp only[Ya]at h
   split at h
   ·rename_i e
    injection h with h;injection h with h1 h2;subst h1;subst h2;subst e;exact⟨Nat.le_refl _,by simp,by simp⟩
   ·obtain⟨h1,h2,h3⟩:=JbH h;refine⟨by omega,by simp;omega, ?_⟩;have:j-i=(j-(i+1))+1:=by omega
    simp only[this,List.getElem_cons_succ];exact h3
def Qy {α:Type}[DecidableEq α](k:α)(v:V):List (α×V)->List (α×V)
 |[]=>[(k,v)]
 |(a,w)::r=>if k=a then(k,v)::r else(a,w)::Qy k v r
theorem jC {α:Type}[DecidableEq α]{k:α}{v:V}:∀{es:List (α×V)} {i:Nat},Ya k es i=none->Qy k v es=es++[(k,v)]
 |[],_,_=>rfl
 | (a,w)::r,i,h=>by
   simp only[Ya]at h
   split at h
   ·cases h
   ·rename_i e
    simp only[Qy,if_neg e,jC h,List.cons_append]
theorem Jd8 {α:Type}[DecidableEq α]{k:α}{v:V}:∀{es:List (α×V)} {i j:Nat} {w:V},Ya k es i=some (j,w)->Qy k v es=es.modify (j-i) fun _=>(k,v)
 |[],_,_,_,h=>by cases h
 | (a,x)::r,i,j,w,h=>by
   simp only[Ya]at h
   split at h
   ·rename_i e
    injection h with h;injection h with h1 h2;subst h1;simp[Qy,e]
   ·rename_i e
    have h1:=(JbH h).1;have:j-i=(j-(i+1))+1:=by omega
    simp only[Qy,if_neg e,Jd8 h,this,List.modify_succ_cons]
theorem Jjv {α:Type}[DecidableEq α](k:α)(v:V)(x:α):∀(es:List (α×V)),at_ x (Qy k v es)=if x=k then some v else at_ x es
 |[]=>rfl
 | (a,w)::r=>by
   simp only[Qy];by_cases h:k=a
   ·subst h;simp only[if_true,at_]
    split<;>rfl
   ·simp only[if_neg h,at_];by_cases h2:x=a
    ·subst h2;have:¬x=k:=fun e=>h e.symm;simp[this]
    ·simp only[if_neg h2];exact Jjv k v x r
def QR {α:Type}(st:St)(r:Pt)(enc:α->V)(es:List (α×V)):Prop:=∃t,st.row r= .mob t (es.map fun p=>(enc p.1,p.2))
theorem Jh2 (fr:Fr)(st:St)(e:EK)(z:V)(ok:Bool)(m k:Opd):evOp fr st (.lookup e z ok m k)=QX st e z ok (m.ev fr) (k.ev fr):=of_eq_true (eq_self _)
def ansL (z:V)(ok:Bool):Option V->V
 |some v=>if ok then .tup [v, .bool true]else v
 |none=>if ok then .tup [z, .bool false]else z
theorem Qi {α:Type}[DecidableEq α]{enc:α->V}{e:EK}{st:St}{r:Pt}{es:List (α×V)}(h:QR st r enc es)(z:V)(ok:Bool)(k:α)(heq:∀p∈es,e.eq (enc k) (enc p.1)=some (decide (k=p.1)))(hfit:e.fit (enc k)=true):
  QX st e z ok (.map r) (enc k)=some (ansL z ok (at_ k es), .no):=by
 obtain⟨t,h⟩:=h;simp only[QX,Yf,h,hfit,kJ k es 0 heq,<-Jgq k es 0]
 cases Ya k es 0 with
 |none=>rfl
 |some p=>rfl
theorem Jnr (fr:Fr)(st:St)(e:EK)(m k v:Opd):evOp fr st (.mupd e m k v)=JbA st e (m.ev fr) (k.ev fr) (v.ev fr):=by
 simp only[evOp,JbA]
 cases m.ev fr<;>rfl
theorem Jd9 {α β:Type}(f:α->β)(g:α->α)(g':β->β)(h:∀a,f (g a)=g' (f a)):∀(l:List α) (i:Nat),(l.modify i g).map f=(l.map f).modify i g'
 |[],_=>by simp
 |a::r,0=>by simp[h]
 |a::r,i+1=>by simp[Jd9 f g g' h r i]
theorem jd {α:Type}[DecidableEq α]{enc:α->V}{e:EK}{st:St}{r:Pt}{es:List (α×V)}{t:Nat}(h:st.row r= .mob t (es.map fun p=>(enc p.1,p.2)))(k:α)(v:V)(heq:∀p∈es,e.eq (enc k) (enc p.1)=some (decide (k=p.1)))(hfit:e.fit (enc k)=true):
  JbA st e (.map r) (enc k) v=some (JR, .wr r t fun u=> .mob u ((Qy k v es).map fun p=>(enc p.1,p.2))):=by
 simp only[JbA,h,hfit,kJ k es 0 heq]
 cases hl:Ya k es 0 with
 |none=>rw[jC hl];simp
 | some p=>
   obtain⟨j,w⟩:=p;rw[Jd8 hl,Jd9 (fun p:α×V=>(enc p.1,p.2)) (fun _=>(k,v)) (fun _=>(enc k,v)) (fun a=>rfl)];rfl
structure Ch (W:Pt->Prop) (a b:St):Prop where
 mono:Mono a b
 same:∀r,a.row r≠ .none->¬W r->b.row r=a.row r
section
variable {W W' : Pt -> Prop} {a b c : St}
theorem Ch.wf (h:Ch W a b):WF b:=h.mono.wf
theorem Ch.refl (W:Pt->Prop)(h:WF a):Ch W a a:=⟨Mono.refl h,fun _ _ _=>rfl⟩
theorem Ch.of (W:Pt->Prop)(h:Gr a b):Ch W a b:=⟨h.mono,fun r e _=>h.same r e⟩
theorem Ch.trans (h:Ch W a b)(k:Ch W' b c)(hW:∀r,W' r->W r\/a.row r= .none):Ch W a c:=
 ⟨h.mono.trans k.mono,fun r e n=>by
  have h1:=h.same r e n;rw[k.same r (by rw[h1];exact e) (fun w=>by rcases hW r w with w|w;exact n w;exact e w),h1]⟩
theorem Ch.gr (h:Ch W a b)(k:Gr b c):Ch W a c:=h.trans (Ch.of W k) fun _ w=> .inl w
theorem Ch.mon (h:Ch W a b)(k:∀r,W r->W' r\/a.row r= .none):Ch W' a b:=⟨h.mono,fun r e n=>h.same r e fun w=>by rcases k r w with w|w;exact n w;exact e w⟩
theorem Ch.new (h:Ch W a b){f:Nat->Row}(hf:∀u,(f u).time=u/\f u≠ .none):Ch W a (b.new f):=h.gr (Gr.new h.wf hf)
theorem Ch.wr (h:Ch W a b){p:Pt}{t:Nat}{f:Nat->Row}(hp:b.row p≠ .none)(ht:(b.row p).time=t)(hw:W p\/a.row p= .none)(hf:∀u,(f u).time=u/\f u≠ .none):Ch W a (b.wr p t f):=by
 refine⟨h.mono.trans (QW h.wf hp ht hf),fun r e n=> ?_⟩;have:r≠p:=fun k=>by
  subst k;rcases hw with w|w
  ·exact n w
  ·exact e w
 rw[Jl _ _ _ this,h.same r e n]
theorem Ch.dn (h:Ch W a b){p:Pt}{t:Nat}{f:Nat->Row}(hp:b.row p≠ .none)(ht:(b.row p).time=t)(hw:W p\/a.row p= .none)(hf:∀u,(f u).time=u/\f u≠ .none):Ch W a ((b.wr p t .dead).new f):=
 (h.wr (f:= .dead) hp ht hw fun u=>⟨rfl,fun e=>by cases e⟩).new hf
theorem Ch.fresh (h:Ch W a b){r:Pt}(hr:b.row r= .none):a.row r= .none:=by
 apply Classical.byContradiction;intro e;by_cases k:b.row r=a.row r
 ·exact e (by rw[<-k,hr])
 ·exact(h.mono.row r k).2 hr
end
theorem Ja6 (st:St){r:Pt}(f:Nat->Row)(h:r≠st.nx):(st.new f).row r=st.row r:=by rw[St.row_new,Jt _ _ h]
theorem Ko {st:St}(hw:WF st){r:Pt}(f:Nat->Row)(h:st.row r≠ .none):(st.new f).row r=st.row r:=Ja6 st f (Jp9 hw h)
abbrev Str :=List UInt8
inductive Ty where
 |mk (kind:Int) (name:Str) (names:List Str) (kids:List Ty)
 deriving Inhabited
def Ty.kind :Ty->Int| .mk k _ _ _=>k
def Ty.name :Ty->Str| .mk _ n _ _=>n
def Ty.names :Ty->List Str| .mk _ _ l _=>l
def Ty.kids :Ty->List Ty| .mk _ _ _ l=>l
def strs (l:List Str):List (List V):=(l.map ofL).map fun x=>[x]
inductive TyC (P:Pt->Prop) (st:St):List V->Ty->Prop
 | mk {k:Int} {n:Str} {ns:List Str} {ks:List Ty} {nv kv:V} {es:List (List V)} (h1:SlAt P st nv 1 (strs ns)) (h2:SlAt P st kv 4 es) (h3:es.length=ks.length) (h4:∀i (h:i<es.length) (h':i<ks.length),TyC P st es[i] ks[i]):
   TyC P st [.int .i64 k,ofL n,nv,kv] (.mk k n ns ks)
theorem TyC.imp {P Q:Pt->Prop}{st st':St}{e:List V}{t:Ty}(h:TyC P st e t)(k:∀r,P r->st.row r≠ .none->Q r/\st'.row r=st.row r):TyC Q st' e t:=by
 induction h with
 |mk h1 h2 h3 h4 ih=>exact .mk (h1.imp k) (h2.imp k) h3 ih
theorem TyC.gr {P:Pt->Prop}{st st':St}{e:List V}{t:Ty}(h:TyC P st e t)(g:Gr st st'):TyC P st' e t:=h.imp fun r p e=>⟨p,g.same r e⟩
theorem SlAt.gr {P:Pt->Prop}{st st':St}{v:V}{z:Nat}{es:List (List V)}(h:SlAt P st v z es)(g:Gr st st'):SlAt P st' v z es:=h.imp fun r p e=>⟨p,g.same r e⟩
theorem TyC.inv {P:Pt->Prop}{st:St}{e:List V}{t:Ty}(h:TyC P st e t):
  ∃nv kv es,e=[.int .i64 t.kind,ofL t.name,nv,kv]/\SlAt P st nv 1 (strs t.names)/\SlAt P st kv 4 es/\es.length=t.kids.length/\∀i (h:i<es.length) (h':i<t.kids.length),TyC P st es[i] t.kids[i]:=by
 cases h with
 |mk h1 h2 h3 h4=>exact⟨_,_,_,rfl,h1,h2,h3,h4⟩
def Jfs (P:Pt->Prop)(st:St)(v:V)(ts:List Ty):Prop:=∃es,SlAt P st v 4 es/\es.length=ts.length/\∀i (h:i<es.length) (h':i<ts.length),TyC P st es[i] ts[i]
theorem Jfs.imp {P Q:Pt->Prop}{st st':St}{v:V}{t:List Ty}(h:Jfs P st v t)(k:∀r,P r->st.row r≠ .none->Q r/\st'.row r=st.row r):Jfs Q st' v t:=by
 obtain⟨es,h1,h2,h3⟩:=h;exact⟨es,h1.imp k,h2,fun i h h'=>(h3 i h h').imp k⟩
noncomputable def tsz (t:Ty):Nat:=SizeOf.sizeOf t
theorem Ym {k:Int}{n:Str}{ns:List Str}{ks:List Ty}{i:Nat}(h:i<ks.length):tsz ks[i]<tsz (.mk k n ns ks):=by
 have h1:SizeOf.sizeOf ks[i]<SizeOf.sizeOf ks:=List.sizeOf_lt_of_mem (List.getElem_mem h);show SizeOf.sizeOf ks[i]<SizeOf.sizeOf (Ty.mk k n ns ks);simp only[Ty.mk.sizeOf_spec];omega
theorem TyC.inv' {P:Pt->Prop}{st:St}{e:List V}{k:Int}{n:Str}{ns:List Str}{ks:List Ty}(h:TyC P st e (.mk k n ns ks)):
  ∃nv kv es,e=[.int .i64 k,ofL n,nv,kv]/\SlAt P st nv 1 (strs ns)/\SlAt P st kv 4 es/\es.length=ks.length/\∀i (h:i<es.length) (h':i<ks.length),TyC P st es[i] ks[i]:=h.inv
structure Nd where
 kind:Int
 name:Str
 names:List Str
 kids:List Nat
 deriving DecidableEq,Inhabited
structure Tb where
 nodes:List Nd
 named:List (Str×Nat)
 main:Nat
 sigs:List (Str×List Nat)
def idx (n:Nd):List Nd->Nat->Option Nat
 |[],_=>none
 |a::r,i=>if n=a then some i else idx n r (i+1)
def layS (tb:Tb)(n:Nd):Tb×Nat×Int:=match idx n tb.nodes 0 with
 |some i=>(tb,i,0)
 |none=>if 120<=tb.nodes.length then(tb,0,20)else({tb with nodes:=tb.nodes++[n]},tb.nodes.length,0)
mutual
def addT :Ty->Int->Tb->Tb×Nat×Int×Int
 | .mk k n ns ks,left,tb=>
   if left-1<0\/8<ks.length\/8<ns.length then(tb,0,20,left-1)else
   match Jw ks (left-1) tb with
   | (tb,ids,e,left)=>if e≠0 then(tb,0,e,left)else
     match layS tb ⟨k,n,ns,ids⟩with
     |(tb,i,e)=>(tb,i,e,left)
def Jw :List Ty->Int->Tb->Tb×List Nat×Int×Int
 |[],left,tb=>(tb,[],0,left)
 | t::r,left,tb=>
   match addT t left tb with
   | (tb,i,e,left)=>if e≠0 then(tb,[],e,left)else
     match Jw r left tb with
     |(tb,l,e,left)=>(tb,i::l,e,left)
end
theorem K0 (k:Int)(n:Str)(ns:List Str)(ks:List Ty)(left:Int)(tb:Tb):addT (.mk k n ns ks) left tb=
  if left-1<0\/8<ks.length\/8<ns.length then(tb,0,20,left-1)else
  match Jw ks (left-1) tb with
  | (tb,ids,e,left)=>if e≠0 then(tb,0,e,left)else
    match layS tb ⟨k,n,ns,ids⟩with
    |(tb,i,e)=>(tb,i,e,left):=by rw[addT]
theorem KJ (left:Int)(tb:Tb):Jw [] left tb=(tb,[],0,left):=by rw[Jw]
theorem Ku (t:Ty)(r:List Ty)(left:Int)(tb:Tb):Jw (t::r) left tb=
  match addT t left tb with
  | (tb,i,e,left)=>if e≠0 then(tb,[],e,left)else
    match Jw r left tb with
    |(tb,l,e,left)=>(tb,i::l,e,left):=by rw[Jw]
def pre (l:List Nat)(x:Tb×List Nat×Int×Int):Tb×List Nat×Int×Int:=(x.1,l++x.2.1,x.2.2.1,x.2.2.2)
theorem Jjw {ids:List Nat}{t:Ty}{r:List Ty}{left:Int}{tb:Tb}(h:(addT t left tb).2.2.1=0):
  pre ids (Jw (t::r) left tb)=pre (ids++[(addT t left tb).2.1]) (Jw r (addT t left tb).2.2.2 (addT t left tb).1):=by
 rw[Ku];generalize addT t left tb=x at h⊢;obtain⟨tb',i,e,left'⟩:=x;simp only at h;subst h;simp only[ne_eq,not_true_eq_false,if_false];simp[pre]
theorem Jjx {ids:List Nat}{t:Ty}{r:List Ty}{left:Int}{tb:Tb}(h:(addT t left tb).2.2.1≠0):
  pre ids (Jw (t::r) left tb)=((addT t left tb).1,ids,(addT t left tb).2.2.1,(addT t left tb).2.2.2):=by
 rw[Ku];generalize addT t left tb=x at h⊢;obtain⟨tb',i,e,left'⟩:=x;simp only at h;simp[pre,h]
mutual
theorem jD :∀(t:Ty) (left:Int) (tb:Tb),0<=left-> -1<=(addT t left tb).2.2.2/\(addT t left tb).2.2.2<=left/\((addT t left tb).2.2.1=0->0<=(addT t left tb).2.2.2)
 | .mk k n ns ks,left,tb,h=>by
   rw[K0]
   split
   ·simp only;omega
   ·rename_i hc
    have hc:¬(left-1<0):=fun e=>hc (.inl e);have ih:=Jea ks (left-1) tb (by omega);generalize Jw ks (left-1) tb=x at ih⊢;obtain⟨tb',ids,e,left'⟩:=x;simp only at ih⊢
    split
    ·simp only;refine⟨ih.1,by omega,fun e0=>absurd e0 ‹_›⟩
    ·rename_i he
     have he:e=0:=by simpa using he
     simp only;exact⟨ih.1,by omega,fun _=>ih.2.2 he⟩
theorem Jea :∀(l:List Ty) (left:Int) (tb:Tb),0<=left-> -1<=(Jw l left tb).2.2.2/\(Jw l left tb).2.2.2<=left/\((Jw l left tb).2.2.1=0->0<=(Jw l left tb).2.2.2)
 |[],left,tb,h=>by rw[KJ];simp only;omega
 | t::r,left,tb,h=>by
   have h1:=jD t left tb h;rw[Ku];generalize addT t left tb=x at h1⊢;obtain⟨tb1,i,e,left1⟩:=x;simp only at h1⊢
   split
   ·rename_i he
    simp only;exact⟨h1.1,h1.2.1,fun e0=>absurd e0 he⟩
   ·rename_i he
    have he:e=0:=by simpa using he
    have h2:=Jea r left1 tb1 (h1.2.2 he);generalize Jw r left1 tb1=y at h2⊢;obtain⟨tb2,l,e2,left2⟩:=y;simp only at h2⊢;exact⟨h2.1,by omega,h2.2.2⟩
end
structure Mon (a b:St):Prop where
 mono:Mono a b
 low:b.low<a.low->b.low<a.t->∃r,a.row r≠ .none/\b.row r≠a.row r/\(a.row r).time<=b.low
theorem Mon.refl {a:St}(h:WF a):Mon a a:=⟨Mono.refl h,fun h=>absurd h (Nat.lt_irrefl _)⟩
theorem Mon.trans {a b c:St}(hw:WF a)(h:Mon a b)(k:Mon b c):Mon a c:=by
 refine⟨h.mono.trans k.mono,fun h1 h2=> ?_⟩;have l1:=h.mono.low;have l2:=k.mono.low;have t1:=h.mono.t;have second:c.low<b.low->∃r,a.row r≠ .none/\c.row r≠a.row r/\(a.row r).time<=c.low:=fun h3=>by
  obtain⟨r,r1,r2,r3⟩:=k.low h3 (by omega);have e:b.row r=a.row r:=by
   apply Classical.byContradiction;intro e;have:=(h.mono.row r e).1;omega
  exact⟨r,by rw[<-e];exact r1,by rw[<-e];exact r2,by rw[<-e];exact r3⟩
 by_cases h3:c.low<b.low
 ·exact second h3
 ·have e:c.low=b.low:=by omega
  obtain⟨r,r1,r2,r3⟩:=h.low (by omega) (by omega);refine⟨r,r1,fun e2=> ?_,by omega⟩;by_cases e3:c.row r=b.row r
  ·exact r2 (by rw[<-e3,e2])
  ·have:=(k.mono.row r e3).1;rw[e2]at this;have:=hw.t r r1;omega
theorem Jns {st:St}(h:WF st){p:Pt}{t:Nat}{f:Nat->Row}(hp:st.row p≠ .none)(ht:(st.row p).time=t)(hf:∀u,(f u).time=u/\f u≠ .none):Mon st (st.wr p t f):=by
 refine⟨QW h hp ht hf,fun h1 h2=>⟨p,hp,fun e=> ?_, ?_⟩⟩
 ·rw[Jm]at e;have h3:=h.t p hp;rw[<-e,(hf _).1]at h3;omega
 ·have h1:(if t<st.low then t else st.low)<st.low:=h1;show _<=(if t<st.low then t else st.low)
  split at h1
  ·rename_i e;rw[if_pos e];omega
  ·omega
theorem JkW {st:St}(h:WF st){f:Nat->Row}(hf:∀u,(f u).time=u/\f u≠ .none):Mon st (st.new f):=⟨YV h hf,fun h=>absurd h (Nat.lt_irrefl _)⟩
theorem Jrd {st:St}(h:WF st){e:Eff}(he:e.good st):Mon st (st.ap e):=by
 cases e with
 |no=>exact Mon.refl h
 |new f=>exact JkW h he
 |wr r t f=>exact Jns h he.1 he.2.1 he.2.2
 | dn r t f=>
   have h1:=Jns (f:= .dead) h he.1 he.2.1 (fun u=>⟨rfl,by intro e;cases e⟩);exact h1.trans h (JkW h1.mono.wf he.2.2)
def JkX (self:Self):Prop:=∀f args st v st',self f args st=some (v,st')->WF st->Mon st st'
section
variable {self : Self} (hself : JkX self)
include hself
theorem Jeb {fr:Fr}{st:St}{x:Iop}{v:V}{st':St}(he:Kn self fr st x=some (v,st'))(hw:WF st):Mon st st':=by
 unfold Kn at he
 split at he
 ·exact hself _ _ _ _ _ he hw
 ·split at he
  ·exact hself _ _ _ _ _ he hw
  ·cases he
 ·obtain⟨⟨v',e⟩,h1,h2⟩:=JA he;injection h2 with _ h2;subst h2;exact Jrd hw (jy h1).1
theorem Jgr {okW:Option (List Nat)}{fr:Fr}{st:St}{x:Iop}{v:V}{st':St}(he:Ke self okW fr st x=some (v,st'))(hw:WF st):Mon st st':=by
 unfold Ke at he
 cases hc:Kn self fr {st with low:=st.t} x with
 |none=>rw[hc]at he;cases he
 | some p=>
   obtain⟨v1,st2⟩:=p;rw[hc]at he;have m:=Jeb hself hc (JD hw _);have hl:=m.mono.low;have hl:st2.low<=st.t:=hl;have key:∀lo,lo<=st.low->lo<=st2.low\/st2.low=st.t->(lo<st.low->lo=st2.low)->Mon st {st2 with low:=lo}:=fun lo h1 h2 h3=>by
    refine⟨⟨⟨m.mono.wf.nx,m.mono.wf.t⟩,m.mono.t,m.mono.nx,m.mono.row,h1,fun r e1 e2=> ?_,m.mono.born⟩,fun h4 h5=> ?_⟩
    ·have h6:st2.low<=(st.row r).time:=m.mono.old r e1 e2;have h7:=hw.t r e1;show lo<=_;rcases h2 with h2|h2<;>omega
    ·have h4:lo<st.low:=h4;have h5:lo<st.t:=h5;have e:=h3 h4;obtain⟨r,r1,r2,r3⟩:=m.low (by show st2.low<st.t;omega) (by show st2.low<st.t;omega);exact⟨r,r1,r2,by have r3:(st.row r).time<=st2.low:=r3;show(st.row r).time<=lo;omega⟩
   simp only at he;by_cases h1:st2.low<st.t
   ·rw[if_pos h1]at he
    cases okW with
    |none=>cases he
    | some l=>
      simp only at he;by_cases h2:still fr st2 st.t l=true
      ·rw[if_pos h2]at he;injection he with he;injection he with _ he;subst he;refine key _ ?_ ?_ ?_<;>split<;>omega
      ·rw[if_neg h2]at he;cases he
   ·rw[if_neg h1]at he;injection he with he;injection he with _ he;subst he;exact key _ (Nat.le_refl _) (.inr (by omega)) fun h=>absurd h (Nat.lt_irrefl _)
theorem JlM {draw:Bool}{fr fr':Fr}{st st':St}{x:Ins}(he:Qh self draw fr st x=some (fr',st'))(hw:WF st):Mon st st':=by
 obtain⟨v,_,h|h⟩:=kn he
 ·rw[h];exact Mon.refl hw
 ·split at h
  ·exact Jgr hself h hw
  ·exact Jeb hself h hw
theorem jX {draw:Bool}:∀{l:List Ins} {fr fr':Fr} {st st':St},JU self draw l fr st=some (fr',st')->WF st->Mon st st'
 | [],_,_,_,_,h,hw=>by
   simp only[JU,Option.some.injEq,Prod.mk.injEq]at h;obtain⟨_,rfl⟩:=h;exact Mon.refl hw
 | i::r,fr,fr',st,st',h,hw=>by
   simp only[JU]at h
   split at h
   ·rename_i fr1 st1 h1
    have m1:=JlM hself h1 hw;exact m1.trans hw (jX h m1.mono.wf)
   ·cases h
omit hself in
theorem Jft {body:Fr->St->Option Out}{live:List Nat}(hb:∀fr st out,body fr st=some out->WF st->Mon st out.st):∀(k:Nat) {fr:Fr} {st:St} {out:Out},Yw body live k fr st=some out->WF st->Mon st out.st
 |0,_,_,_,h,_=>by cases h
 | k+1,fr,st,out,h,hw=>by
   simp only[Yw]at h
   split at h
   ·rename_i fr1 st1 h1
    have m1:=hb _ _ _ h1 hw;exact m1.trans hw (Jft hb k h m1.mono.wf)
   ·exact hb _ _ _ h hw
theorem Jpi (lf:Nat):∀(cc:C) {fr:Fr} {st:St} {out:Out},evD self lf cc fr st=some out->WF st->Mon st out.st:=by
 intro cc
 induction cc with
 |skip=>intro fr st out h hw;simp only[evD,Option.some.injEq]at h;subst h;exact Mon.refl hw
 | reg l=>
   intro fr st out h hw;simp only[evD]at h;obtain⟨⟨fr1,st1⟩,h1,h2⟩:=JA h;subst h2;exact jX hself h1 hw
 | drw l chk=>
   intro fr st out h hw;simp only[evD]at h
   split at h
   ·rename_i fr1 st1 h1
    split at h
    ·injection h with h;subst h;exact jX hself h1 hw
    ·cases h
   ·cases h
 | seq x y ihx ihy=>
   intro fr st out h hw;simp only[evD]at h
   split at h
   ·rename_i fr1 st1 h1
    have m1:=ihx h1 hw;exact m1.trans hw (ihy h m1.mono.wf)
   ·exact ihx h hw
 | seqj live x y ihx ihy=>
   intro fr st out h hw;simp only[evD]at h
   split at h
   ·rename_i fr1 st1 h1
    have m1:=ihx h1 hw;exact m1.trans hw (ihy h m1.mono.wf)
   ·exact ihx h hw
 | cond c x y ihx ihy=>
   intro fr st out h hw;simp only[evD]at h
   split at h
   ·split at h
    ·exact ihx h hw
    ·exact ihy h hw
   ·cases h
 | block id x ih=>
   intro fr st out h hw;simp only[evD]at h
   split at h
   ·rename_i i fr1 st1 h1
    have m1:Mon st st1:=ih h1 hw
    split at h
    ·injection h with h;subst h;exact m1
    ·injection h with h;subst h;exact m1
   ·exact ih h hw
 | loop live x ih=>
   intro fr st out h hw;exact Jft (fun fr st out h hw=>ih h hw) _ h hw
 |exit i=>intro fr st out h hw;simp only[evD,Option.some.injEq]at h;subst h;exact Mon.refl hw
 |ret=>intro fr st out h hw;simp only[evD,Option.some.injEq]at h;subst h;exact Mon.refl hw
end
def JaO (b:Self->List V->St->Option (V×St)):Prop:=∀self,JkX self->∀args st v st',b self args st=some (v,st')->WF st->Mon st st'
theorem Jre (lf:Nat)(cf:Fn):JaO (evFn lf cf):=by
 intro self hs args st v st' h hw;unfold evFn at h
 cases hc:evD self lf cf.body (Yg args) st with
 |none=>rw[hc]at h;cases h
 | some o=>
   have m:=Jpi hs lf cf.body hc hw;rw[hc]at h
   cases o with
   | norm fr st1=>
     obtain⟨u,_,h2⟩:=JA h;injection h2 with _ h2;subst h2;exact m
   | ret fr st1=>
     obtain⟨u,_,h2⟩:=JA h;injection h2 with _ h2;subst h2;exact m
   |exit i fr st1=>cases h
theorem Jrf (g:List V->Option V):JaO (Y7 g).b:=by
 intro self hs args st v st' h hw;have h:(match g args with
  |some v=>some (v,st)
  |none=>none)=some (v,st'):=h
 split at h
 ·injection h with h;injection h with _ h;subst h;exact Mon.refl hw
 ·cases h
theorem Jqt {T:Table}(h:∀f b,T f=some b->JaO b):∀n,JkX (run T n)
 |0=>fun _ _ _ _ _ k=>by cases k
 | n+1=>fun f a st v st' k hw=>by
   simp only[run]at k
   split at k
   ·rename_i b hb
    exact h f b hb _ (Jqt h n) a st v st' k hw
   ·cases k
theorem Jsa {t:BT}(h:t.all fun _ e=>JaO e.b):∀f,JaO (selB t f):=by
 induction t with
 | leaf i e=>
   intro f;show JaO (bif Nat.beq f i then e.b else JbC)
   cases Nat.beq f i with
   |true=>exact h
   |false=>exact fun _ _ _ _ _ _ k=>by cases k
 | node n l r ihl ihr=>
   intro f;show JaO (bif Nat.ble f n then selB l f else selB r f)
   cases Nat.ble f n with
   |true=>exact ihl h.1 f
   |false=>exact ihr h.2 f
def TabM (T:Table):Prop:=∀n,JkX (run T n)
theorem Jsb {t:BT}(h:t.all fun _ e=>JaO e.b):TabM (tabT t):=Jqt fun f b hb=>by
 simp only[tabT,Option.some.injEq]at hb;subst hb;exact Jsa h f
theorem Does.mon {T:Table}(hM:TabM T){f:Nat}{args:List V}{st:St}{Q:V->St->Prop}(hw:WF st)(h:Does T f args st Q):Does T f args st fun v st'=>Mon st st'/\Q v st':=by
 obtain⟨v,st',h1,N,h2⟩:=h;exact⟨v,st',⟨hM _ _ _ _ _ _ (h2 N (Nat.le_refl _)) hw,h1⟩,N,h2⟩
theorem Mon.gr {a b:St}(h:Mon a b)(k:∀r,a.row r≠ .none->b.row r=a.row r):Gr a b:=by
 refine⟨h.mono,k,fun e=> ?_⟩;have l:=h.mono.low;apply Classical.byContradiction;intro ne;obtain⟨r,r1,r2,_⟩:=h.low (by omega) (by omega);exact r2 (k r r1)
theorem Does.gr {T:Table}(hM:TabM T){f:Nat}{args:List V}{st:St}{Q:V->St->Prop}(hw:WF st)(h:Does T f args st fun v st'=>(∀r,st.row r≠ .none->st'.row r=st.row r)/\Q v st'):
  Does T f args st fun v st'=>Gr st st'/\Q v st':=(h.mon hM hw).mono fun _ _ ⟨m,k,q⟩=>⟨m.gr k,q⟩
theorem Does.ch {T:Table}(hM:TabM T){W:Pt->Prop}{f:Nat}{args:List V}{st:St}{Q:V->St->Prop}(hw:WF st)(h:Does T f args st fun v st'=>(∀r,st.row r≠ .none->¬W r->st'.row r=st.row r)/\Q v st'):
  Does T f args st fun v st'=>Ch W st st'/\Q v st':=(h.mon hM hw).mono fun _ _ ⟨m,k,q⟩=>⟨⟨m.mono,k⟩,q⟩
def up :Nat->Pt->Pt
 |0,p=>p
 |k+1,p=>(up k p).suc
theorem Yn (k:Nat)(p:Pt):(up k p).suc=up (k+1) p:=of_eq_true (eq_self _)
theorem Qt :∀(k:Nat) (p:Pt),(up k p).num=p.num+k
 |0,_=>rfl
 |k+1,p=>by show((up k p).suc).num=_;rw[Pt.num_suc,Qt k p];omega
theorem JcP (i j:Nat)(p:Pt):(up i p=up j p)=(i=j):=by
 apply propext;constructor
 ·intro h;have:=congrArg Pt.num h;rw[Qt,Qt]at this;omega
 ·intro h;rw[h]
theorem jE (i j:Nat)(p:Pt):(up i p≠up j p)=(i≠j):=by rw[Ne,JcP]
theorem up0 (p:Pt):p=up 0 p:=of_eq_true (eq_self _)
theorem nxE (S:St):∃n,S.nx=up 0 n:=⟨_,up0 _⟩
theorem exE {α:Sort _}(a:α):∃b,b=a:=⟨a,rfl⟩
theorem opE (P:Fr->St->Prop):∃I:Fr->St->Prop,∀fr S,I fr S<->P fr S:=⟨P,fun _ _=>Iff.rfl⟩
theorem loE (P:Nat->Fr->St->Prop):∃I:Nat->Fr->St->Prop,∀j fr S,I j fr S<->P j fr S:=⟨P,fun _ _ _=>Iff.rfl⟩
section
variable (st : St) (f : Nat -> Row) (p q : Pt) (t : Nat)
theorem YI :(st.new f).nx=st.nx.suc:=of_eq_true (eq_self _)
theorem YX :(st.wr p t f).nx=st.nx:=of_eq_true (eq_self _)
theorem Kg :(st.new f).row p=if p=st.nx then f st.t else st.row p:=by
 rw[St.row_new];by_cases h:p=st.nx
 ·rw[if_pos h,h,Jp]
 ·rw[if_neg h,Jt _ _ h]
theorem Jk :(st.wr q t f).row p=if p=q then f st.t else st.row p:=by
 rw[St.row_wr];by_cases h:p=q
 ·rw[if_pos h,h,Jp]
 ·rw[if_neg h,Jt _ _ h]
end
theorem YJ {st:St}(hw:WF st){n:Pt}(hn:st.nx=up 0 n){r:Pt}(h:st.row r≠ .none)(k:Nat):(r=up k n)=False:=by
 apply propext;constructor
 ·intro e;have h1:=hw.nx r h;rw[hn,e,Qt,Qt]at h1;omega
 ·exact False.elim
theorem Jz {st:St}(hw:WF st){n:Pt}(hn:st.nx=up 0 n){r:Pt}(h:st.row r≠ .none)(k:Nat):r≠up k n:=fun e=>by
 have:=YJ hw hn h k;rw[this]at e;exact e
theorem Jfu (l:List V):(V.agg l).cells=some l:=of_eq_true (eq_self _)
theorem Jfv (k:IntKind)(n:Int):(V.int k n).cells=some [.int k n]:=of_eq_true (eq_self _)
theorem Jec (b:Bool):(V.bool b).cells=some [.bool b]:=of_eq_true (eq_self _)
theorem Jfw (l:List UInt8):(ofL l).cells=some [ofL l]:=of_eq_true (eq_self _)
theorem Jfx (r:Pt)(o:Nat):(V.ptr r o).cells=some [.ptr r o]:=of_eq_true (eq_self _)
theorem Jed :V.snil.cells=some [.snil]:=of_eq_true (eq_self _)
theorem Jh3 (r:Pt)(o n z:Nat):(V.sl r o n z).cells=some [.sl r o n z]:=of_eq_true (eq_self _)
theorem Jfy (r:Pt)(o n z c:Nat):(V.slx r o n z c).cells=some [.slx r o n z c]:=of_eq_true (eq_self _)
theorem Jfz (r:Pt):(V.map r).cells=some [.map r]:=of_eq_true (eq_self _)
theorem Jh4 (f:Nat)(a b:List V):(V.fn f a b).cells=some [.fn f a b]:=of_eq_true (eq_self _)
theorem Jgs (k:IntKind)(n:Int):(V.int k n).sc=true:=of_eq_true (eq_self _)
theorem JkY (b:Bool):(V.bool b).sc=true:=of_eq_true (eq_self _)
theorem Jgt (l:List UInt8):(ofL l).sc=true:=of_eq_true (eq_self _)
theorem Jnt (r:Pt)(o:Nat):(V.ptr r o).sc=true:=of_eq_true (eq_self _)
theorem JkZ :V.snil.sc=true:=of_eq_true (eq_self _)
theorem Jqu (r:Pt)(o n z:Nat):(V.sl r o n z).sc=true:=of_eq_true (eq_self _)
theorem Jnu (r:Pt)(o n z c:Nat):(V.slx r o n z c).sc=true:=of_eq_true (eq_self _)
theorem Jnv (r:Pt):(V.map r).sc=true:=of_eq_true (eq_self _)
theorem Jqv (f:Nat)(a b:List V):(V.fn f a b).sc=true:=of_eq_true (eq_self _)
theorem Jgu :V.mnil.sc=true:=of_eq_true (eq_self _)
theorem Ja7 :V.mnil.cells=some [.mnil]:=of_eq_true (eq_self _)
theorem Jan :Km []=true:=of_eq_true (eq_self _)
theorem jY (a:V)(l:List V):Km (a::l)=(a.sc&&Km l):=of_eq_true (eq_self _)
theorem KL (l:List V)(o:Nat)(vs:List V):JI l o vs=l.take o++vs++l.drop (o+vs.length):=of_eq_true (eq_self _)
def Jk0 (x:Row)(r:Pt)(o n:Nat)(vs:List V):Option (V×Eff):=match x with
 | .cells t l=>if vs.length=n/\o+vs.length<=l.length/\Km vs=true then some (JR, .wr r t fun u=> .cells u (JI l o vs))else none
 |_=>none
def Jnw (st:St)(n:Nat)(x:V)(c:Option (List V)):Option (V×Eff):=match c with
 | some vs=>match x with
   | .ptr r o=>Jk0 (st.row r) r o n vs
   |_=>none
 |none=>none
theorem JfA (st:St)(n:Nat)(x v:V):Jno st n x v=Jnw st n x v.cells:=by
 unfold Jno Jnw
 cases v.cells with
 |none=>rfl
 | some vs=>
   simp only
   cases x with
   | ptr r o=>
     simp only[JN,Jk0]
     cases st.row r with
     | cells t l=>
       simp only;by_cases h:vs.length=n
       ·by_cases h2:o+vs.length<=l.length/\Km vs=true
        ·rw[if_pos h,if_pos h2,if_pos ⟨h,h2⟩];rfl
        ·rw[if_pos h,if_neg h2,if_neg fun e=>h2 e.2];rfl
       ·rw[if_neg h,if_neg fun e=>h e.1]
     |_=>simp only[Option.map_none,ite_self]
   |_=>simp only[JN,Option.map_none,ite_self]
theorem JfB (st:St)(n:Nat)(r:Pt)(o:Nat)(vs:List V):Jnw st n (.ptr r o) (some vs)=Jk0 (st.row r) r o n vs:=of_eq_true (eq_self _)
theorem JcQ (t:Nat)(l:List V)(r:Pt)(o n:Nat)(vs:List V):Jk0 (.cells t l) r o n vs=if vs.length=n/\o+vs.length<=l.length/\Km vs=true then some (JR, .wr r t fun u=> .cells u (JI l o vs))else none:=of_eq_true (eq_self _)
def boxB (st:St)(c:Option (List V)):Option (V×Eff):=match c with
 |some vs=>if Km vs=true then some (.ptr st.nx 0,Eff.new fun t=> .cells t vs)else none
 |none=>none
theorem Jh5 (st:St)(x:V):boxV st x=boxB st x.cells:=of_eq_true (eq_self _)
theorem JfC (st:St)(vs:List V):boxB st (some vs)=if Km vs=true then some (.ptr st.nx 0,Eff.new fun t=> .cells t vs)else none:=of_eq_true (eq_self _)
def Jqw (z:List V)(o n:Nat)(r:List (Nat×Nat×V))(c:Option (List V)):Option (List V):=match c with
 |some vs=>if vs.length=n/\o+n<=z.length then QM (JI z o vs) r else none
 |none=>none
theorem Jh6 (z:List V):QM z []=some z:=of_eq_true (eq_self _)
theorem JfD (z:List V)(o n:Nat)(v:V)(r:List (Nat×Nat×V)):QM z ((o,n,v)::r)=Jqw z o n r v.cells:=of_eq_true (eq_self _)
theorem Jee (z:List V)(o n:Nat)(r:List (Nat×Nat×V))(vs:List V):Jqw z o n r (some vs)=if vs.length=n/\o+n<=z.length then QM (JI z o vs) r else none:=of_eq_true (eq_self _)
theorem Jef (st:St)(zs:List V)(ps:List (Nat×Nat×V)):JmC st zs ps=(QM zs ps).map fun l=>(.agg l, .no):=of_eq_true (eq_self _)
def bslB (st:St)(z n:Nat)(c:Option (List V)):Option (V×Eff):=match c with
 |some l=>if Km l=true/\l.length=n*z then some (.slx st.nx 0 n z n,Eff.new fun t=> .cells t l)else none
 |none=>none
theorem Jh7 (st:St)(z n:Nat)(zs:List V)(ps:List (Nat×Nat×V)):bslV st z n zs ps=bslB st z n (QM zs ps):=of_eq_true (eq_self _)
theorem JfE (st:St)(z n:Nat)(l:List V):bslB st z n (some l)=if Km l=true/\l.length=n*z then some (.slx st.nx 0 n z n,Eff.new fun t=> .cells t l)else none:=of_eq_true (eq_self _)
theorem JfF (fr:Fr):evps fr []=[]:=of_eq_true (eq_self _)
theorem Jeg (fr:Fr)(a b:Nat)(x:Opd)(r:List (Nat×Nat×Opd)):evps fr ((a,b,x)::r)=(a,b,x.ev fr)::evps fr r:=of_eq_true (eq_self _)
theorem Jnx (fr:Fr)(st:St)(z:Nat)(d x:Opd):evOp fr st (.copy z d x)=copyV st z (d.ev fr) (x.ev fr):=of_eq_true (eq_self _)
theorem Jny (fr:Fr)(st:St)(n z:Nat)(x:Opd)(lo hi mx:Option Opd):evOp fr st (.cutA n z x lo hi mx)=Jp7 st n z (x.ev fr) (lo.map (Opd.ev fr)) (hi.map (Opd.ev fr)) (mx.map (Opd.ev fr)):=of_eq_true (eq_self _)
theorem Jk1 (fr:Fr)(st:St):evOp fr st .mkmap=some (.map st.nx,Eff.new fun t=> .mob t []):=of_eq_true (eq_self _)
theorem Jnz (fr:Fr)(st:St)(z:Nat)(zs:List V)(n c:Opd):evOp fr st (.mksl z zs n c)=Jp6 st z zs (n.ev fr) (c.ev fr):=of_eq_true (eq_self _)
theorem JnA (fr:Fr)(st:St)(x:Opd):evOp fr st (.lenM x)=JrY st (x.ev fr):=of_eq_true (eq_self _)
def JnB (x:Row)(n z:Nat)(r:Pt)(o:Nat)(lo hi mx:Option V):Option (V×Eff):=match x with
 | .cells _ l=>if o+n*z<=l.length then(Qz z (.slx r o n z n) lo hi mx).map fun v=>(v, .no)else none
 |_=>none
theorem JfG (st:St)(n z:Nat)(r:Pt)(o:Nat)(lo hi mx:Option V):Jp7 st n z (.ptr r o) lo hi mx=JnB (st.row r) n z r o lo hi mx:=of_eq_true (eq_self _)
theorem JfH (t:Nat)(l:List V)(n z:Nat)(r:Pt)(o:Nat):JnB (.cells t l) n z r o none none none=if o+n*z<=l.length then some (.slx r o n z n, .no)else none:=by
 unfold JnB;simp only
 split
 ·simp[Qz,JP]
 ·rfl
theorem Jk2 (st:St)(fr:Fr)(i n:Nat)(Q:V->St->Prop):resP st fr [.cn i n] Q=wW (jW st n (fr i)) st Q:=by
 have h:=JbD fr st n (.s i);have h:(KG st n (fr i)).map (fun l=>(V.agg l,Eff.no))=jW st n (fr i):=h;rw[<-h];simp only[resP,KB,QA,List.mapM_cons,List.mapM_nil]
 cases KG st n (fr i)<;>rfl
theorem JfI (st:St)(fr:Fr)(i n j:Nat)(Q:V->St->Prop):resP st fr [.cn i n, .s j] Q=wW (jW st n (fr i)) st fun v st=>Q (.tup [v,fr j]) st:=by
 have h:=JbD fr st n (.s i);have h:(KG st n (fr i)).map (fun l=>(V.agg l,Eff.no))=jW st n (fr i):=h;rw[<-h];simp only[resP,KB,QA,List.mapM_cons,List.mapM_nil]
 cases KG st n (fr i)<;>rfl
theorem Jk3 (st:St)(R:V->St->Prop):wW none st R=False:=propext Iff.rfl
theorem SlAt.cells {P:Pt->Prop}{st:St}{v:V}{z:Nat}{es:List (List V)}(h:SlAt P st v z es):v.cells=some [v]:=by
 rcases h.2 with⟨rfl,rfl⟩|⟨r,o,_,rfl|⟨c,_,rfl⟩,_⟩<;>rfl
theorem SlAt.sc {P:Pt->Prop}{st:St}{v:V}{z:Nat}{es:List (List V)}(h:SlAt P st v z es):v.sc=true:=by
 rcases h.2 with⟨rfl,rfl⟩|⟨r,o,_,rfl|⟨c,_,rfl⟩,_⟩<;>rfl
theorem SlAt.all {P:Pt->Prop}{st:St}{v:V}{z:Nat}{es:List (List V)}(h:SlAt P st v z es):JL st z es.length v=some es.flatten:=by
 rcases h.2 with⟨rfl,rfl⟩|⟨r,o,_,hv,l,hl,h1,h2⟩
 ·rfl
 ·have key:KG st (es.length*z) (.ptr r o)=some es.flatten:=by
   rcases hl with⟨t,hl⟩|hl
   ·simp only[KG,hl,if_pos h1,h2]
   ·simp only[KG,hl,if_pos h1,h2]
  rcases hv with rfl|⟨c,_,rfl⟩
  ·simp only[JL,Nat.le_refl,true_and,if_true,key]
  ·simp only[JL,Nat.le_refl,true_and,if_true,key]
theorem SlAt.pre {P:Pt->Prop}{st:St}{v:V}{z:Nat}{es:List (List V)}(h:SlAt P st v z es){k:Nat}(hk:k<=es.length):JL st z k v=some (es.flatten.take (k*z)):=by
 rcases h.2 with⟨rfl,rfl⟩|⟨r,o,_,hv,l,hl,h1,h2⟩
 ·have:k=0:=by simpa using hk
  subst this;simp[JL]
 ·have hk2:k*z<=es.length*z:=Nat.mul_le_mul_right _ hk;have key:KG st (k*z) (.ptr r o)=some (es.flatten.take (k*z)):=by
   rw[<-h2,List.take_take,Nat.min_eq_left hk2];rcases hl with⟨t,hl⟩|hl
   ·simp only[KG,hl];rw[if_pos (by omega)]
   ·simp only[KG,hl];rw[if_pos (by omega)]
  rcases hv with rfl|⟨c,_,rfl⟩
  ·simp only[JL,hk,true_and,if_true,key]
  ·simp only[JL,hk,true_and,if_true,key]
def okC (es:List (List V)):Prop:=∀e∈es,Km e=true
theorem okC.flat {es:List (List V)}(h:okC es):Km es.flatten=true:=by
 rw[Km,List.all_flatten,List.all_eq_true];intro e he;exact h e he
theorem SlAt.fresh {P:Pt->Prop}{st:St}{r:Pt}{t z:Nat}{es:List (List V)}(hr:st.row r= .cells t es.flatten)(hp:P r)(hz:∀e∈es,e.length=z):SlAt P st (.sl r 0 es.length z) z es:=
 ⟨hz, .inr ⟨r,0,hp, .inl rfl,es.flatten, .inl ⟨t,hr⟩,by rw[JF hz];omega,by rw[List.drop_zero,<-JF hz,List.take_length]⟩⟩
theorem SlAt.freshx {P:Pt->Prop}{st:St}{r:Pt}{t z:Nat}{es:List (List V)}(hr:st.row r= .cells t es.flatten)(hp:P r)(hz:∀e∈es,e.length=z):SlAt P st (.slx r 0 es.length z es.length) z es:=
 ⟨hz, .inr ⟨r,0,hp, .inr ⟨_,Nat.le_refl _,rfl⟩,es.flatten, .inl ⟨t,hr⟩,by rw[JF hz];omega,by rw[List.drop_zero,<-JF hz,List.take_length]⟩⟩
theorem Jao {P:Pt->Prop}{st:St}{v:V}{z:Nat}{es:List (List V)}(h:SlAt P st v z es)(hok:okC es)(hn:es.length<2^20)(h0:0<es.length){r:Pt}{t:Nat}(hr:st.row r= .cells t []):
  appV st z (.slx r 0 0 z 0) v=some (.sl st.nx 0 es.length z, .new fun u=> .cells u es.flatten):=by
 unfold appV;rw[h.slen];simp only[h.all];rw[if_pos ⟨hn,hok.flat⟩];unfold JE;rw[if_neg (by omega)];simp only[hr];rw[if_neg (by simp;omega),if_pos (by simp),if_neg (by omega)];simp
theorem jZ {P:Pt->Prop}{st:St}{v:V}{z:Nat}(h:SlAt P st v z []){r:Pt}:
  appV st z (.slx r 0 0 z 0) v=some (.slx r 0 0 z 0, .no):=by
 unfold appV;rw[h.slen];have h2:=h.all;simp only[List.length_nil]at h2⊢;rw[h2];rfl
theorem Jsc (lf:Nat)(cf:Fn):JaO (fnD lf cf).b:=Jre lf cf
theorem nx0 {st:St}(hw:WF st){n:Pt}(hn:st.nx=up 0 n)(k:Nat):st.row (up k n)= .none:=by
 apply Classical.byContradiction;intro e;exact Jz hw hn e k rfl
theorem SlAt.slenX {P:Pt->Prop}{st:St}{v:V}{z:Nat}{es:List (List V)}(h:SlAt P st v z es):slenX v=some es.length:=by
 rcases h.2 with⟨rfl,rfl⟩|⟨r,o,_,rfl|⟨c,_,rfl⟩,_⟩<;>rfl
theorem SlAt.cellsX {P:Pt->Prop}{st:St}{v:V}{z:Nat}{es:List (List V)}(h:SlAt P st v z es):cellsX st z es.length v=some es.flatten:=by
 have:=h.all;rcases h.2 with⟨rfl,rfl⟩|⟨r,o,_,rfl|⟨c,_,rfl⟩,_⟩<;>exact this
theorem Jk4 {P:Pt->Prop}{st0 S:St}{v:V}{z:Nat}{es:List (List V)}(h:SlAt P st0 v z es)(hS:∀r,st0.row r≠ .none->S.row r=st0.row r)(hok:okC es){r:Pt}{t o n:Nat}{l:List V}(hr:S.row r= .cells t l)(hle:o+n*z<=l.length)(hn:es.length<=n)
  {R:V->St->Prop} (k:∀S' t',S'.row r= .cells t' (JI l o es.flatten)->(∀p,p≠r->S'.row p=S.row p)->S'.nx=S.nx->R (.int .i64 es.length) S'):wW (copyV S z (.slx r o n z n) v) S R:=by
 have h':SlAt P S v z es:=h.imp fun r p e=>⟨p,hS r e⟩
 have hlen:=JF h.1;have hm:Nat.min es.length n=es.length:=Nat.min_eq_left hn;have hle2:es.length*z<=n*z:=Nat.mul_le_mul_right _ hn;unfold copyV;rw[h'.slenX];simp only[slen,hm,h'.cellsX];by_cases h0:es.length=0
 ·rw[if_pos h0];have:es=[]:=List.length_eq_zero_iff.1 h0;subst this;refine k S t ?_ (fun _ _=>rfl) rfl;rw[hr];simp[KL]
 ·rw[if_neg h0];simp only[qu,JN,hr];rw[if_pos ⟨by omega,hok.flat⟩];refine k _ S.t ?_ (fun p hp=> ?_) rfl
  ·rw[Jkv,Jm]
  ·rw[Jkv,Jl _ _ _ hp]
def ints (l:List Nat):List (List V):=(l.map fun n:Nat=>V.int .i64 (n:Int)).map fun x=>[x]
theorem kf (l:List Str):okC (strs l):=fun e he=>by
 obtain⟨x,hx,rfl⟩:=List.mem_map.1 he;obtain⟨y,_,rfl⟩:=List.mem_map.1 hx;rfl
theorem Jgv (l:List Nat):okC (ints l):=fun e he=>by
 obtain⟨x,hx,rfl⟩:=List.mem_map.1 he;obtain⟨y,_,rfl⟩:=List.mem_map.1 hx;rfl
theorem JW (l:List Str):(strs l).length=l.length:=by simp[strs]
theorem Yo (l:List Nat):(ints l).length=l.length:=by simp[ints]
theorem qL (l:List V):(l.map fun x=>[x]).flatten=l:=by
 induction l with
 |nil=>rfl
 |cons a r ih=>simp[ih]
theorem JfJ (l:List Str):(strs l).flatten=l.map ofL:=qL _
theorem Jcb (l:List Nat):(ints l).flatten=l.map fun n:Nat=>V.int .i64 (n:Int):=qL _
def NdC (P:Pt->Prop)(st:St)(e:List V)(n:Nd):Prop:=∃nv kv,e=[.int .i64 n.kind,ofL n.name,nv,kv]/\SlAt P st nv 1 (strs n.names)/\SlAt P st kv 1 (ints n.kids)
theorem NdC.imp {P Q:Pt->Prop}{st st':St}{e:List V}{n:Nd}(h:NdC P st e n)(k:∀r,P r->st.row r≠ .none->Q r/\st'.row r=st.row r):NdC Q st' e n:=by
 obtain⟨nv,kv,h1,h2,h3⟩:=h;exact⟨nv,kv,h1,h2.imp k,h3.imp k⟩
theorem NdC.gr {P:Pt->Prop}{st st':St}{e:List V}{n:Nd}(h:NdC P st e n)(g:Gr st st'):NdC P st' e n:=h.imp fun r p e=>⟨p,g.same r e⟩
def pad (l:List V)(z:V):List V:=l++List.replicate (8-l.length) z
def keyL (n:Nd):List V:=[.int .i64 n.kind, .int .i64 n.names.length, .int .i64 n.kids.length,ofL n.name]++(pad (n.names.map ofL) (ofL [])++pad (n.kids.map fun k:Nat=>V.int .i64 (k:Int)) (.int .i64 0))
def Nd.fit (n:Nd):Prop:=n.names.length<=8/\n.kids.length<=8
theorem Jj (fr:Fr):JZ fr []=true:=of_eq_true (eq_self _)
theorem Jdj {l:List V}{z:V}(h:l.length<=8):(pad l z).length=8:=by simp[pad];omega
theorem JcR (a:List V)(s:V)(b vs:List V)(h:vs.length<=8):JI (a++(List.replicate 8 s++b)) a.length vs=a++(pad vs s++b):=by
 have e1:(a++(List.replicate 8 s++b)).drop (a.length+vs.length)=List.replicate (8-vs.length) s++b:=by
  rw[List.drop_append,List.drop_eq_nil_of_le (by omega),Nat.add_sub_cancel_left,List.drop_append_of_le_length (by simpa using h),List.drop_replicate,List.nil_append]
 rw[KL,e1,pad];simp
theorem Q1 {l vs:List V}(h:l.length=vs.length):JI l 0 vs=vs:=by
 rw[KL,Nat.zero_add,<-h];simp
theorem Jsd (a b c d:V)(s i:V)(vs:List V)(h:vs.length<=8):JI [a,b,c,d,s,s,s,s,s,s,s,s,i,i,i,i,i,i,i,i] 4 vs=[a,b,c,d]++(pad vs s++List.replicate 8 i):=JcR [a,b,c,d] s (List.replicate 8 i) vs h
theorem Jse (a b c d:V)(s i:V)(us vs:List V)(hu:us.length<=8)(h:vs.length<=8):JI ([a,b,c,d]++(pad us s++List.replicate 8 i)) 12 vs=[a,b,c,d]++(pad us s++pad vs i):=by
 have:=JcR ([a,b,c,d]++pad us s) i [] vs h;rw[List.append_nil,List.append_nil,List.append_assoc,List.length_append,Jdj hu]at this;rw[show([a,b,c,d]:List V).length+8=12 from rfl]at this;rw[this,List.append_assoc]
theorem j7 (a b:List V):Km (a++b)=(Km a&&Km b):=by simp[Km]
theorem JbI {n:Nd}(h:n.fit):(keyL n).length=20:=by
 have h1:=Jdj (l:=n.names.map ofL) (z:=ofL []) (by simpa using h.1);have h2:=Jdj (l:=n.kids.map fun k:Nat=>V.int .i64 (k:Int)) (z:= .int .i64 0) (by simpa using h.2);simp only[keyL,List.length_append,h1,h2];rfl
theorem JfK {l:List V}{z:V}(h:Km l=true)(hz:z.sc=true):Km (pad l z)=true:=by
 rw[pad,j7,h];simp[Km,hz]
theorem Jgw (n:Nd):Km (keyL n)=true:=by
 rw[keyL,j7,j7,JfK,JfK]
 ·rfl
 ·simp[Km,V.sc]
 ·rfl
 ·rw[<-JfJ];exact(kf _).flat
 ·rfl
theorem Jeh :∀{ks ks':List KD} {xs ys xs' ys':List V} {b b':Bool},keqs ks xs ys=some b->keqs ks' xs' ys'=some b'->keqs (ks++ks') (xs++xs') (ys++ys')=some (b&&b')
 |[],_,[],[],_,_,b,b',h,h'=>by simp only[keqs,Option.some.injEq]at h;subst h;simpa using h'
 | k::ks,_,x::xs,y::ys,_,_,b,b',h,h'=>by
   simp only[keqs,List.cons_append]at h⊢
   split at h
   ·rename_i e;exact Jeh h h'
   ·rename_i e;simp only[Option.some.injEq]at h;subst h;rfl
   ·cases h
 |[],_,x::xs,ys,_,_,_,_,h,_=>by simp[keqs]at h
 |[],_,[],y::ys,_,_,_,_,h,_=>by simp[keqs]at h
 |k::ks,_,[],ys,_,_,_,_,h,_=>by simp[keqs]at h
 |k::ks,_,x::xs,[],_,_,_,_,h,_=>by simp[keqs]at h
theorem Jh8 :∀{n:Nat} {l m:List Str},l.length=n->m.length=n->keqs (List.replicate n .s) (l.map ofL) (m.map ofL)=some (decide (l=m))
 | 0,l,m,hl,hm=>by
   rw[List.length_eq_zero_iff.1 hl,List.length_eq_zero_iff.1 hm];rfl
 |n+1,[],_,hl,_=>by simp at hl
 |n+1,_::_,[],_,hm=>by simp at hm
 | n+1,a::l,b::m,hl,hm=>by
   have ih:=Jh8 (n:=n) (l:=l) (m:=m) (by simpa using hl) (by simpa using hm);simp only[List.replicate_succ,List.map_cons,keqs,keq,ofL,JbE];by_cases h:a=b
   ·subst h;simp only[decide_true,List.cons.injEq,true_and];exact ih
   ·simp[h]
theorem JbJ :∀{n:Nat} {l m:List Int},l.length=n->m.length=n->keqs (List.replicate n .i) (l.map (V.int .i64)) (m.map (V.int .i64))=some (decide (l=m))
 | 0,l,m,hl,hm=>by
   rw[List.length_eq_zero_iff.1 hl,List.length_eq_zero_iff.1 hm];rfl
 |n+1,[],_,hl,_=>by simp at hl
 |n+1,_::_,[],_,hm=>by simp at hm
 | n+1,a::l,b::m,hl,hm=>by
   have ih:=JbJ (n:=n) (l:=l) (m:=m) (by simpa using hl) (by simpa using hm);simp only[List.replicate_succ,List.map_cons,keqs,keq,if_true];by_cases h:a=b
   ·subst h;simp only[List.cons.injEq,true_and,beq_self_eq_true];exact ih
   ·have e:(a==b)=false:=by simpa using h
    rw[e];simp[h]
def padS (l:List Str):List Str:=l++List.replicate (8-l.length) []
def padI (l:List Nat):List Int:=l.map (fun n:Nat=>(n:Int))++List.replicate (8-l.length) 0
theorem Jei (n:Nd):keyL n=([n.kind,(n.names.length:Int),(n.kids.length:Int)]:List Int).map (V.int .i64)++((n.name::padS n.names).map ofL++(padI n.kids).map (V.int .i64)):=by
 simp[keyL,pad,padS,padI,Function.comp_def]
abbrev ekN :EK:= .many [.i, .i, .i, .s, .s, .s, .s, .s, .s, .s, .s, .s, .i, .i, .i, .i, .i, .i, .i, .i]
theorem Jrg {a b:Nd}(ha:a.fit)(hb:b.fit):ekN.eq (.agg (keyL a)) (.agg (keyL b))=some (decide (a=b)):=by
 have h1:ekN.eq (.agg (keyL a)) (.agg (keyL b))=keqs [.i, .i, .i, .s, .s, .s, .s, .s, .s, .s, .s, .s, .i, .i, .i, .i, .i, .i, .i, .i] (keyL a) (keyL b):=by
  show(if _ then _ else _)=_;rw[if_pos ⟨by rw[JbI ha];rfl,by rw[JbI hb];rfl⟩]
 have l1:∀l:List Str,l.length<=8->(padS l).length=8:=fun l h=>by simp[padS];omega
 have l2:∀l:List Nat,l.length<=8->(padI l).length=8:=fun l h=>by simp[padI];omega
 have h2:=Jeh (JbJ (n:=3) (l:=[a.kind,(a.names.length:Int),(a.kids.length:Int)]) (m:=[b.kind,(b.names.length:Int),(b.kids.length:Int)]) rfl rfl)
  (Jeh (Jh8 (n:=9) (l:=a.name::padS a.names) (m:=b.name::padS b.names) (by simp[l1 _ ha.1]) (by simp[l1 _ hb.1])) (JbJ (n:=8) (l:=padI a.kids) (m:=padI b.kids) (l2 _ ha.2) (l2 _ hb.2)))
 rw[h1,Jei,Jei];refine h2.trans ?_;congr 1;rw[<-Bool.decide_and,<-Bool.decide_and];apply decide_eq_decide.2;constructor
 ·rintro⟨e1,e2,e3⟩;simp only[List.cons.injEq,and_true]at e1 e2;obtain⟨k1,k2,k3⟩:=e1;obtain⟨k4,k5⟩:=e2;have k2:a.names.length=b.names.length:=by omega
  have k3:a.kids.length=b.kids.length:=by omega
  have n1:a.names=b.names:=(List.append_inj k5 k2).1;have n2:a.kids.map (fun n:Nat=>(n:Int))=b.kids.map (fun n:Nat=>(n:Int)):=(List.append_inj e3 (by simpa using k3)).1;have n2:a.kids=b.kids:=(List.map_inj_right (fun x y h=>by omega)).1 n2
  cases a;cases b
  simp_all
 ·rintro rfl;exact⟨rfl,rfl,rfl⟩
theorem Gr.nw {a S:St}(h:Gr a S){p:Pt}(hp:S.nx=p){f g:Nat->Row}(hf:∀u,(f u).time=u/\f u≠ .none)(hg:∀u,(g u).time=u/\g u≠ .none):Gr a ((S.new f).wr p S.t g):=by
 subst hp;have h1:=h.trans (Gr.new h.wf hf);exact h1.wr h.fresh (by rw[JG];exact(hf _).2) (by rw[JG];exact(hf _).1) hg
theorem Gr.nn {a S:St}(h:Gr a S){f:Nat->Row}(hf:∀u,(f u).time=u/\f u≠ .none):Gr a (S.new f):=h.trans (Gr.new h.wf hf)
theorem Ja (l:List V):∀u,(Row.cells u l).time=u/\Row.cells u l≠ .none:=fun u=>⟨rfl,fun e=>by cases e⟩
theorem K1 (l:List (V×V)):∀u,(Row.mob u l).time=u/\Row.mob u l≠ .none:=fun u=>⟨rfl,fun e=>by cases e⟩
theorem Jc {st:St}{r:Pt}{t:Nat}{l:List V}(h:st.row r= .cells t l):st.row r≠ .none:=by rw[h];exact fun e=>by cases e
abbrev zk :List V:=[.int .i64 0, .int .i64 0, .int .i64 0,ofL [],ofL [],ofL [],ofL [],ofL [],ofL [],ofL [],ofL [],ofL [], .int .i64 0, .int .i64 0, .int .i64 0, .int .i64 0, .int .i64 0, .int .i64 0, .int .i64 0, .int .i64 0]
theorem JlN {n:Nd}(h:n.fit):((keyL n).drop 12).take 8=(padI n.kids).map (V.int .i64):=by
 have l1:(padS n.names).length=8:=by have:=h.1;simp[padS];omega
 have l2:(padI n.kids).length=8:=by have:=h.2;simp[padI];omega
 rw[Jei,<-List.append_assoc,List.drop_append,List.drop_eq_nil_of_le (by simp[l1])];simp only[List.nil_append,List.length_append,List.length_map,List.length_cons,l1];rw[List.take_of_length_le (by simp[l2])];rfl
theorem Jpj {l:List Int}(h:l.length=8):eqV (.many [.i, .i, .i, .i, .i, .i, .i, .i]) false (.agg (l.map (V.int .i64))) (.agg (l.map (V.int .i64)))=some (.bool true, .no):=by
 have h1:=JbJ h h;have h2:EK.eq (.many [.i, .i, .i, .i, .i, .i, .i, .i]) (.agg (l.map (V.int .i64))) (.agg (l.map (V.int .i64)))=some true:=by
  show(if _ then _ else _)=_;rw[if_pos ⟨by simp[h],by simp[h]⟩];exact h1.trans (by simp)
 simp only[eqV,h2];rfl
theorem NdC.low {P:Pt->Prop}{st:St}{e:List V}{n:Nd}(h:NdC P st e n)(k:Nat):NdC P {st with low:=k} e n:=h.imp fun r p _=>⟨p,rfl⟩
theorem SlAt.low {P:Pt->Prop}{st:St}{v:V}{z:Nat}{es:List (List V)}(h:SlAt P st v z es)(k:Nat):SlAt P {st with low:=k} v z es:=h.imp fun r p _=>⟨p,rfl⟩
theorem SlAt.unlow {P:Pt->Prop}{st:St}{v:V}{z k:Nat}{es:List (List V)}(h:SlAt P {st with low:=k} v z es):SlAt P st v z es:=h.imp fun r p _=>⟨p,rfl⟩
theorem TyC.low {P:Pt->Prop}{st:St}{e:List V}{t:Ty}(h:TyC P st e t)(k:Nat):TyC P {st with low:=k} e t:=h.imp fun r p _=>⟨p,rfl⟩
theorem nes {p q:Pt}(h:p≠q):(p=q)=False/\(q=p)=False:=⟨eq_false h,eq_false fun e=>h e.symm⟩
theorem Ch.nw {W:Pt->Prop}{a S:St}(h:Ch W a S){p:Pt}(hp:S.nx=p){f g:Nat->Row}(hf:∀u,(f u).time=u/\f u≠ .none)(hg:∀u,(g u).time=u/\g u≠ .none):Ch W a ((S.new f).wr p S.t g):=by
 subst hp;have h1:=h.new hf;exact h1.wr (by rw[JG];exact(hf _).2) (by rw[JG];exact(hf _).1) (.inr (h.fresh (Kj h.wf))) hg
theorem Ju {T:Table}(hM:TabM T){f lf:Nat}{cf:Fn}{b:Self->List V->St->Option (V×St)}(hT:T f=some b)(hb:b=evFn lf cf){args:List V}{st:St}(hw:WF st){Q:V->St->Prop}
  (h:∀K:V->St->Prop,(∀v S,(∀r,st.row r≠ .none->S.row r=st.row r)->(Gr st S->Q v S)->K v S)->wC T lf cf.body (Yg args) st (kRet cf.res K)):Does T f args st fun v st'=>Gr st st'/\Q v st':=
 (Does.gr hM hw (Jy hT hb (h (fun v S=>(∀r,st.row r≠ .none->S.row r=st.row r)/\(Gr st S->Q v S)) fun v S a b=>⟨a,b⟩))).mono fun _ _ ⟨a,b⟩=>⟨a,b a⟩
theorem QS {T:Table}(hM:TabM T){W:Pt->Prop}{f lf:Nat}{cf:Fn}{b:Self->List V->St->Option (V×St)}(hT:T f=some b)(hb:b=evFn lf cf){args:List V}{st:St}(hw:WF st){Q:V->St->Prop}
  (h:∀K:V->St->Prop,(∀v S,(∀r,st.row r≠ .none->¬W r->S.row r=st.row r)->(Ch W st S->Q v S)->K v S)->wC T lf cf.body (Yg args) st (kRet cf.res K)):Does T f args st fun v st'=>Ch W st st'/\Q v st':=
 (Does.ch hM hw (Jy hT hb (h (fun v S=>(∀r,st.row r≠ .none->¬W r->S.row r=st.row r)/\(Ch W st S->Q v S)) fun v S a b=>⟨a,b⟩))).mono fun _ _ ⟨a,b⟩=>⟨a,b a⟩
theorem QY {T:Table}{lf:Nat}{a b:C}{fr:Fr}{st:St}{K:Out->Prop}(I:Fr->St->Prop)(h1:wC T lf a fr st (kCut I K))(h2:∀f s,I f s->wC T lf b f s K):wC T lf (.seq a b) fr st K:=
 JM (l:=[]) I h1 h2
section
variable {P : Pt -> Prop} {st : St}
theorem TyC.four {e:List V}{t:Ty}(h:TyC P st e t):e.length=4:=by
 obtain⟨_,_,_,rfl,_⟩:=h.inv;rfl
theorem TyC.ok {e:List V}{t:Ty}(h:TyC P st e t):Km e=true:=by
 obtain⟨_,_,_,rfl,h1,h2,_⟩:=h.inv;simp only[jY,Jan,Jgs,Jgt,h1.sc,h2.sc,Bool.and_self]
end
def encN (n:Nd):V:= .agg (keyL n)
def LsAt (W:Pt->Prop)(st:St)(rt:Pt)(v:V)(z n:Nat)(cs:List V):Prop:=cs.length=n*z/\((v= .snil/\n=0)\/∃r t,v= .sl r 0 n z/\st.row r= .cells t cs/\W r/\r≠rt)
structure je (W F:Pt->Prop) (st:St) (rt:Pt) (tb:Tb) (lv:V) (ra rn rs:Pt) (es:List (List V)) (sv:List (Str×V)):Prop where
 cell:∃t,st.row rt= .cells t [lv, .map ra, .map rn, .int .i64 tb.main, .map rs]
 w:W rt/\W ra/\W rn/\W rs
 own:∀r,W r->st.row r≠ .none
 fw:∀r,F r->¬W r
 dis:ra≠rn/\ra≠rs/\rn≠rs
 l:LsAt W st rt lv 4 tb.nodes.length es.flatten
 z:∀e∈es,e.length=4
 len:es.length=tb.nodes.length
 nd:∀i (h:i<es.length) (h':i<tb.nodes.length),NdC F st es[i] tb.nodes[i]
 fit:∀n∈tb.nodes,n.fit
 few:tb.nodes.length<=120
 key:QR st ra encN (tb.nodes.zipIdx.map fun p=>(p.1,V.int .i64 (p.2:Int)))
 named:QR st rn ofL (tb.named.map fun p=>(p.1,V.int .i64 (p.2:Int)))
 sigs:QR st rs ofL sv
 slen:sv.length=tb.sigs.length
 sig:∀i (h:i<sv.length) (h':i<tb.sigs.length),sv[i].1=tb.sigs[i].1/\SlAt F st sv[i].2 1 (ints tb.sigs[i].2)
def Tab (W F:Pt->Prop)(st:St)(rt:Pt)(tb:Tb):Prop:=∃lv ra rn rs es sv,je W F st rt tb lv ra rn rs es sv
section
variable {W W' F F' : Pt -> Prop} {st st' : St} {rt : Pt} {tb : Tb} {lv : V} {ra rn rs : Pt} {es : List (List V)} {sv : List (Str × V)}
theorem QR.ne {α:Type}{r:Pt}{enc:α->V}{m:List (α×V)}(h:QR st r enc m):st.row r≠ .none:=by
 obtain⟨t,h⟩:=h;rw[h];exact fun e=>by cases e
theorem QR.of {α:Type}{r:Pt}{enc:α->V}{m:List (α×V)}(h:QR st r enc m)(k:st'.row r=st.row r):QR st' r enc m:=by
 obtain⟨t,h⟩:=h;exact⟨t,by rw[k,h]⟩
theorem je.keep (h:je W F st rt tb lv ra rn rs es sv)(k:∀r,W r\/F r->st.row r≠ .none->st'.row r=st.row r):je W F st' rt tb lv ra rn rs es sv:=by
 refine{h with own:=fun r w=>by rw[k r (.inl w) (h.own r w)];exact h.own r w,cell:= ?_,l:= ?_,nd:=fun i a b=>(h.nd i a b).imp fun r p e=>⟨p,k r (.inr p) e⟩,key:=h.key.of (k _ (.inl h.w.2.1) h.key.ne),named:=h.named.of (k _ (.inl h.w.2.2.1) h.named.ne),sigs:=h.sigs.of (k _ (.inl h.w.2.2.2) h.sigs.ne),sig:=fun i a b=>⟨(h.sig i a b).1,(h.sig i a b).2.imp fun r p e=>⟨p,k r (.inr p) e⟩⟩}
 ·obtain⟨t,e⟩:=h.cell;exact⟨t,by rw[k _ (.inl h.w.1) (by rw[e];exact fun e=>by cases e),e]⟩
 ·refine⟨h.l.1, ?_⟩;rcases h.l.2 with l|⟨r,t,l1,l2,l3⟩
  ·exact .inl l
  ·exact .inr ⟨r,t,l1,by rw[k _ (.inl l3.1) (by rw[l2];exact fun e=>by cases e),l2],l3⟩
theorem je.gr (h:je W F st rt tb lv ra rn rs es sv)(g:Gr st st'):je W F st' rt tb lv ra rn rs es sv:=h.keep fun r _ e=>g.same r e
theorem Tab.keep (h:Tab W F st rt tb)(k:∀r,W r\/F r->st.row r≠ .none->st'.row r=st.row r):Tab W F st' rt tb:=by
 obtain⟨lv,ra,rn,rs,es,sv,h⟩:=h;exact⟨lv,ra,rn,rs,es,sv,h.keep k⟩
theorem Tab.gr (h:Tab W F st rt tb)(g:Gr st st'):Tab W F st' rt tb:=h.keep fun r _ e=>g.same r e
theorem Tab.live (h:Tab W F st rt tb):Tab W (fun r=>F r/\st.row r≠ .none) st rt tb:=by
 obtain⟨lv,ra,rn,rs,es,sv,h⟩:=h;exact⟨lv,ra,rn,rs,es,sv,{h with fw:=fun r f=>h.fw r f.1,nd:=fun i a b=>(h.nd i a b).imp fun r p e=>⟨⟨p,e⟩,rfl⟩,sig:=fun i a b=>⟨(h.sig i a b).1,(h.sig i a b).2.imp fun r p e=>⟨⟨p,e⟩,rfl⟩⟩}⟩
theorem je.rt_ne (h:je W F st rt tb lv ra rn rs es sv):st.row rt≠ .none:=by
 obtain⟨t,e⟩:=h.cell;rw[e];exact fun e=>by cases e
theorem LsAt.len {z n:Nat}{cs:List V}(h:LsAt W st rt lv z n cs):Kf lv=some (.int .i64 n, .no):=by
 rcases h.2 with⟨rfl,rfl⟩|⟨r,t,rfl,_⟩
 ·rfl
 ·rfl
theorem LsAt.cells {z n:Nat}{cs:List V}(h:LsAt W st rt lv z n cs):lv.cells=some [lv]/\lv.sc=true:=by
 rcases h.2 with⟨rfl,rfl⟩|⟨r,t,rfl,_⟩
 ·exact⟨rfl,rfl⟩
 ·exact⟨rfl,rfl⟩
theorem je.elem (h:je W F st rt tb lv ra rn rs es sv){i:Nat}(hi:i<es.length):
  ∃r q,JJ 4 lv (.int .i64 i)=some (.ptr r q, .no)/\(st.row r≠ .none)/\r≠rt/\W r/\ldn (st.row r) q 4=some (.agg es[i], .no)/\∀j (hj:j<es[i].length),ld1 (st.row r) (q+j)=some (es[i][j], .no):=by
 have hl:SlAt (fun r=>r≠rt/\W r) st lv 4 es:=by
  refine⟨h.z, ?_⟩;rcases h.l.2 with⟨l,n⟩|⟨r,t,l1,l2,l3,l4⟩
  ·exact .inl ⟨l,List.length_eq_zero_iff.1 (by rw[h.len,n])⟩
  ·refine .inr ⟨r,0,⟨l4,l3⟩, .inl (by rw[l1,h.len]),es.flatten, .inl ⟨t,l2⟩,by rw[JF h.z];omega, ?_⟩;rw[List.drop_zero,<-JF h.z,List.take_length]
 obtain⟨r,q,a,b,c,d,e⟩:=hl.elem hi;exact⟨r,q,a,c,b.1,b.2,d,e⟩
end
theorem Jgx (n:Nd):∀(l:List Nd) (i:Nat),at_ n ((l.zipIdx i).map fun p=>(p.1,V.int .i64 (p.2:Int)))=(idx n l i).map fun k:Nat=>V.int .i64 (k:Int)
 |[],_=>rfl
 | a::r,i=>by
   simp only[List.zipIdx_cons,List.map_cons,at_,idx]
   split
   ·rfl
   ·exact Jgx n r (i+1)
theorem JnC {n:Nd}:∀{l:List Nd} {i k:Nat},idx n l i=some k->i<=k/\∃h:k-i<l.length,l[k-i]=n
 |[],_,_,h=>by cases h
 | a::r,i,k,h=>by
   simp only[idx]at h
   split at h
   ·rename_i e
    injection h with h;subst h;subst e;exact⟨Nat.le_refl _,by simp,by simp⟩
   ·obtain⟨h1,h2,h3⟩:=JnC h;refine⟨by omega,by simp;omega, ?_⟩;have:k-i=(k-(i+1))+1:=by omega
    simp only[this,List.getElem_cons_succ];exact h3
theorem Jpk {n:Nd}{l:List Nd}(h:idx n l 0=none)(v:V):Qy n v ((l.zipIdx).map fun p=>(p.1,V.int .i64 (p.2:Int)))=(l.zipIdx.map fun p=>(p.1,V.int .i64 (p.2:Int)))++[(n,v)]:=by
 apply jC (i:=0);have h2:=Jgx n l 0;rw[h,<-Jgq n _ 0]at h2;simpa using h2
theorem JnD {W:Pt->Prop}{S:St}{rt:Pt}{lv:V}{z n:Nat}{cs:List V}(h:LsAt W S rt lv z n cs){q:Pt}{tq:Nat}{new:List V}(hq:S.row q= .cells tq new)(hqn:new.length=z)(hsc:Km new=true)(hn:n+1<=2^24)(hw:WF S){R:V->St->Prop}
  (k:∀S' t',S'.row S.nx= .cells t' (cs++new)->S'.nx=S.nx.suc->(∀p,p≠S.nx->rowOf lv≠some p->S'.row p=S.row p)->(∀p,S.row p≠ .none->S'.row p≠ .none)->Mono S S'->R (.sl S.nx 0 (n+1) z) S'):wW (appV S z lv (.slx q 0 1 z 1)) S R:=by
 have hload:JL S z 1 (.slx q 0 1 z 1)=some new:=by
  simp only[JL,Nat.le_refl,true_and,if_true,KG,hq];rw[if_pos (by omega)];simp[<-hqn]
 have happ:appV S z lv (.slx q 0 1 z 1)=JE S z 1 new lv:=by
  simp only[appV,slen,hload];rw[if_pos ⟨by decide,hsc⟩]
 rw[happ];rcases h.2 with⟨rfl,rfl⟩|⟨r,t,rfl,hr,_⟩
 ·have hcs:cs=[]:=List.length_eq_zero_iff.1 (by rw[h.1];simp);subst hcs;exact k (S.new fun t=> .cells t new) S.t (by rw[JG];rfl) rfl (fun p hp _=>Ja6 _ _ hp) (fun p hp=>by rw[Ko hw _ hp];exact hp) (YV hw (Ja _))
 ·have e:JE S z 1 new (.sl r 0 n z)=some (.sl S.nx 0 (n+1) z, .dn r t fun u=> .cells u (cs++new)):=by
   simp only[JE,hr];rw[if_neg (by decide),if_neg (by omega),if_pos (by rw[h.1];omega)];simp[<-h.1]
  rw[e];refine k ((S.wr r t .dead).new fun u=> .cells u (cs++new)) (S.t+1) ?_ rfl (fun p hp hne=> ?_) (fun p hp=> ?_) ?_
  ·exact JG (S.wr r t .dead) _
  rotate_left
  ·have hw2:WF (S.wr r t .dead):=(QW hw (by rw[hr];exact fun e=>by cases e) (by rw[hr];rfl) fun u=>⟨rfl,fun e=>by cases e⟩).wf;have hp2:(S.wr r t .dead).row p≠ .none:=by
    by_cases e:p=r
    ·subst e;rw[Jm];exact fun e=>by cases e
    ·rw[Jl _ _ _ e];exact hp
   rw[Ko hw2 _ hp2];exact hp2
  ·exact Jal hw (e:= .dn r t fun u=> .cells u (cs++new)) ⟨(by rw[hr];exact fun e=>by cases e),(by rw[hr];rfl),Ja _⟩
  ·rw[Ja6 _ _ (by exact hp),Jl _ _ _ (fun e=>hne (by rw[e];rfl))]
theorem LsAt.imp {W:Pt->Prop}{st S:St}{rt:Pt}{lv:V}{z n:Nat}{cs:List V}(h:LsAt W st rt lv z n cs)(k:∀r t,W r->r≠rt->st.row r= .cells t cs->S.row r=st.row r):LsAt W S rt lv z n cs:=by
 refine⟨h.1, ?_⟩;rcases h.2 with h|⟨r,t,h1,h2,h3,h4⟩
 ·exact .inl h
 ·exact .inr ⟨r,t,h1,by rw[k r t h3 h4 h2,h2],h3,h4⟩
theorem LsAt.row {W:Pt->Prop}{st:St}{rt:Pt}{lv:V}{z n:Nat}{cs:List V}(h:LsAt W st rt lv z n cs){r:Pt}(hr:rowOf lv=some r):W r/\r≠rt/\∃t,st.row r= .cells t cs:=by
 rcases h.2 with⟨rfl,_⟩|⟨q,t,rfl,h2,h3,h4⟩
 ·cases hr
 ·injection hr with hr;subst hr;exact⟨h3,h4,t,h2⟩
theorem je.push {W F:Pt->Prop}{st S:St}{rt q:Pt}{tb:Tb}{lv:V}{ra rn rs:Pt}{es:List (List V)}{sv:List (Str×V)}{e:List V}{nd:Nd}(hT:je W F st rt tb lv ra rn rs es sv)(hq:st.row q= .none)
  (h1:∃t,S.row rt= .cells t [.sl q 0 (tb.nodes.length+1) 4, .map ra, .map rn, .int .i64 tb.main, .map rs]) (h2:∃t,S.row q= .cells t (es.flatten++e))
  (h3:∃t,S.row ra= .mob t ((Qy nd (.int .i64 (tb.nodes.length:Nat)) (tb.nodes.zipIdx.map fun p=>(p.1,V.int .i64 (p.2:Int)))).map fun p=>(encN p.1,p.2)))
  (h4:∀r,st.row r≠ .none->r≠rt->r≠ra->rowOf lv≠some r->S.row r=st.row r) (h5:∀r,st.row r≠ .none->S.row r≠ .none)
  {F':Pt->Prop} (hF:∀r,F r->F' r) (hF':∀r,F' r->¬W r/\r≠q) (he:NdC F' S e nd) (hf:nd.fit) (hi:idx nd tb.nodes 0=none) (hl:tb.nodes.length<120):
  je (fun r=>W r\/r=q) F' S rt {tb with nodes:=tb.nodes++[nd]} (.sl q 0 (tb.nodes.length+1) 4) ra rn rs (es++[e]) sv:=by
 obtain⟨t0,c0⟩:=hT.cell;have he4:e.length=4:=by obtain⟨_,_,rfl,_⟩:=he;rfl
 have mob:∀r,(∃t m,st.row r= .mob t m)->r≠ra->S.row r=st.row r:=fun r ⟨t,m,h⟩ hne=>h4 r (by rw[h];exact fun e=>by cases e) (fun e=>by rw[e,c0]at h;cases h) hne fun e=>by
  obtain⟨_,_,t2,h2⟩:=hT.l.row e;rw[h2]at h;cases h
 have old:∀r,F r->st.row r≠ .none->F' r/\S.row r=st.row r:=fun r f e=>have n:=hT.fw r f;⟨hF r f,h4 r e (fun k=>n (by rw[k];exact hT.w.1)) (fun k=>n (by rw[k];exact hT.w.2.1)) fun k=>n (hT.l.row k).1⟩;refine{cell:= ?_,w:=⟨.inl hT.w.1, .inl hT.w.2.1, .inl hT.w.2.2.1, .inl hT.w.2.2.2⟩,own:= ?_,fw:= ?_,dis:=hT.dis,l:= ?_,z:= ?_,len:=by simp[hT.len],nd:= ?_,fit:= ?_,few:=by simp;omega,key:= ?_,named:= ?_,sigs:= ?_,slen:=hT.slen,sig:= ?_}
 ·exact h1
 ·rintro r (w|rfl)
  ·exact h5 r (hT.own r w)
  ·obtain⟨t,h2⟩:=h2;rw[h2];exact fun e=>by cases e
 ·rintro r f (w|w)
  ·exact(hF' r f).1 w
  ·exact(hF' r f).2 w
 ·refine⟨?_, .inr ?_⟩
  ·rw[List.flatten_append,List.length_append,hT.l.1];simp[he4];omega
  ·obtain⟨t,h2⟩:=h2;refine⟨q,t,by simp,by rw[h2];simp, .inr rfl,fun e=> ?_⟩;rw[e,c0]at hq;cases hq
 ·intro x hx;rcases List.mem_append.1 hx with hx|hx
  ·exact hT.z x hx
  ·rw[List.mem_singleton.1 hx];exact he4
 ·intro i hi1 hi2;by_cases h:i<es.length
  ·have h':i<tb.nodes.length:=by rw[<-hT.len];exact h
   simp only[List.getElem_append_left h,List.getElem_append_left h'];exact(hT.nd i h h').imp old
  ·have e1:i=es.length:=by simp at hi1;omega
   subst e1;have e2:es.length=tb.nodes.length:=hT.len;simp only[List.getElem_append_right (Nat.le_refl es.length),Nat.sub_self,List.getElem_cons_zero];have:(tb.nodes++[nd])[es.length]'hi2=nd:=by
    simp only[e2,List.getElem_append_right (Nat.le_refl tb.nodes.length),Nat.sub_self,List.getElem_cons_zero]
   rw[this];exact he
 ·intro x hx;rcases List.mem_append.1 hx with hx|hx
  ·exact hT.fit x hx
  ·rw[List.mem_singleton.1 hx];exact hf
 ·obtain⟨t,h3⟩:=h3;refine⟨t, ?_⟩;rw[h3,Jpk hi];simp[List.zipIdx_append]
 ·exact hT.named.of (mob rn (by obtain⟨t,h⟩:=hT.named;exact⟨t,_,h⟩) hT.dis.1.symm)
 ·exact hT.sigs.of (mob rs (by obtain⟨t,h⟩:=hT.sigs;exact⟨t,_,h⟩) hT.dis.2.1.symm)
 ·exact fun i a b=>⟨(hT.sig i a b).1,(hT.sig i a b).2.imp old⟩
theorem LsAt.sl {W:Pt->Prop}{st:St}{rt:Pt}{v:V}{z n:Nat}{es:List (List V)}(h:LsAt W st rt v z n es.flatten)(hz:∀e∈es,e.length=z)(hn:es.length=n):SlAt W st v z es:=by
 refine⟨hz, ?_⟩;rcases h.2 with⟨l,n0⟩|⟨r,t,l1,l2,l3,l4⟩
 ·exact .inl ⟨l,List.length_eq_zero_iff.1 (by rw[hn,n0])⟩
 ·refine .inr ⟨r,0,l3, .inl (by rw[l1,hn]),es.flatten, .inl ⟨t,l2⟩,by rw[JF hz];omega, ?_⟩;rw[List.drop_zero,<-JF hz,List.take_length]
theorem JnE (l:List Nat):∀e∈ints l,e.length=1:=fun e he=>by
 obtain⟨x,_,rfl⟩:=List.mem_map.1 he;rfl
def defI (tb:Tb)(n:Str):Option Nat:=(tb.named.find? fun p=>n=p.1).map (·.2)
def Kh (tb:Tb):Nat->Nat->Nat×Bool
 |0,_=>(0,false)
 | f+1,id=>match tb.nodes[id]? with
   |none=>(0,false)
   | some x=>if x.kind≠9 then(id,true)else match defI tb x.name with
     |none=>(0,false)
     |some j=>Kh tb f j
theorem YK {tb:Tb}{f id:Nat}(h:tb.nodes.length<=id):Kh tb (f+1) id=(0,false):=by
 rw[Kh,List.getElem?_eq_none h]
theorem Qm {tb:Tb}{f id:Nat}(h:id<tb.nodes.length)(k:tb.nodes[id].kind≠9):Kh tb (f+1) id=(id,true):=by
 rw[Kh,List.getElem?_eq_getElem h];simp only[if_pos k]
theorem qM {tb:Tb}{f id:Nat}(h:id<tb.nodes.length)(k:tb.nodes[id].kind=9)(d:defI tb tb.nodes[id].name=none):Kh tb (f+1) id=(0,false):=by
 rw[Kh,List.getElem?_eq_getElem h];simp[k,d]
theorem kq {tb:Tb}{f id j:Nat}(h:id<tb.nodes.length)(k:tb.nodes[id].kind=9)(d:defI tb tb.nodes[id].name=some j):Kh tb (f+1) id=Kh tb f j:=by
 rw[Kh,List.getElem?_eq_getElem h];simp[k,d]
def Jjy :Nd:=⟨0,[],[],[]⟩
theorem Jk5 (n:Str):∀(l:List (Str×Nat)),at_ n (l.map fun p=>(p.1,V.int .i64 (p.2:Int)))=((l.find? fun p=>n=p.1).map (·.2)).map fun k:Nat=>V.int .i64 (k:Int)
 |[]=>rfl
 | (a,k)::r=>by
   by_cases h:n=a
   ·simp[at_,List.find?,h]
   ·simp only[List.map_cons,at_,Jk5 n r,List.find?,h,decide_false,if_false]
theorem jp {T:Table}{f:Nat}{args:List V}{fr:Fr}{st:St}{W:Pt->Prop}{P:V->St->Prop}{Q:V->St->Prop}(hw:WF st)(h:Does T f args {st with low:=st.t} fun v st'=>Ch W {st with low:=st.t} st'/\P v st')
  (k:∀v st' lo,Ch W st {st' with low:=lo}->P v st'->Q v {st' with low:=lo}):kG T true (some []) f args fr st Q:=by
 unfold kG;simp only[if_true];refine h.mono fun v st' ⟨hc,hp⟩=> ?_;have m:=hc.mono;have key:∀lo,lo<=st.low->lo<=st'.low\/st'.low=st.t->Ch W st {st' with low:=lo}:=fun lo h1 h2=>by
  refine⟨⟨⟨m.wf.nx,m.wf.t⟩,m.t,m.nx,m.row,h1,fun r e1 e2=> ?_,m.born⟩,hc.same⟩;have h6:st'.low<=(st.row r).time:=m.old r e1 e2;have h7:=hw.t r e1;show lo<=_;rcases h2 with h2|h2<;>omega
 have hl:=m.low;have hl:st'.low<=st.t:=hl;unfold JdP;by_cases h1:st'.low<st.t
 ·rw[if_pos h1];refine⟨rfl,k v st' _ (key _ ?_ ?_) hp⟩<;>split<;>omega
 ·rw[if_neg h1];exact k v st' _ (key _ (Nat.le_refl _) (.inr (by omega))) hp
theorem YQ {α:Type}(k:Str)(es:List (Str×α)):∀p∈es,EK.eq (.one .s) (ofL k) (ofL p.1)=some (decide (k=p.1)):=fun p _=>JbG k p.1
end Eva
namespace Eva
open Go Go.RowKit
set_option maxRecDepth 100000
set_option linter.unusedSimpArgs false
def digB (x:Nat):Bool:=decide (48<=x)&&decide (x<=57)
def letB (x:Nat):Bool:=decide (x=95)||(decide (97<=x|||32)&&decide (x|||32<=122))
def okB (x:Nat):Bool:=letB x||digB x
theorem JlO {x:Nat}(hx:x<256)(h:okB x=true):x<128:=by
 have:∀x:Fin 256,okB x.1=true->x.1<128:=by decide+kernel
 exact this ⟨x,hx⟩ h
theorem Jsf (x:Nat)(hx:x<256):binV .or (.int .u8 x) (.int .u8 32)=some (.int .u8 ((x|||32:Nat):Int), .no):=by
 have h:(0:Int)<=(x:Int)/\(x:Int)<=IntKind.u8.max/\(0:Int)<=32/\(32:Int)<=IntKind.u8.max:=by
  have:IntKind.u8.max=255:=rfl;omega
 simp[binV,arith,h]
def Yp (l:List UInt8):Bool:=l.all fun c=>okB c.toNat
def fore :List UInt8->Nat
 |[]=>0
 |c::r=>if okB c.toNat then fore r+1 else 0
theorem JlP (l:List UInt8):fore l<=l.length:=by
 induction l with
 |nil=>exact Nat.le_refl _
 |cons c r ih=>simp only[fore,List.length_cons];split<;>omega
theorem Jcc (l:List UInt8):fore l=l.length<->Yp l=true:=by
 induction l with
 |nil=>simp[fore,Yp]
 | cons c r ih=>
   simp only[fore,List.length_cons,Yp,List.all_cons,Bool.and_eq_true];have:=JlP r
   split
   ·rename_i h
    rw[show(r.all fun c=>okB c.toNat)=Yp r from rfl,<-ih];constructor
    ·intro e;exact⟨h,by omega⟩
    ·intro e;omega
   ·rename_i h
    constructor
    ·intro e;omega
    ·intro e;exact absurd e.1 h
theorem Jh9 :∀(l:List UInt8) (p:Nat),p<=l.length->(∀j (hj:j<l.length),j<p->okB l[j].toNat=true)->∀hp:p<l.length,okB l[p].toNat=false->fore l=p
 |[],p,_,_,hp,_=>by simp at hp
 | c::r,0,_,_,_,h=>by
   have h:okB c.toNat=false:=h;simp[fore,h]
 | c::r,p+1,h1,h2,hp,h=>by
   have h0:okB c.toNat=true:=h2 0 (by simp) (by omega);have:=Jh9 r p (by simpa using h1) (fun j hj hjp=>h2 (j+1) (by simpa using hj) (by omega)) (by simpa using hp) h;simp[fore,h0,this]
theorem Jjz {l:List UInt8}{p:Nat}(hp:p<l.length)(h:l[p].toNat<128):(rune l p).2=1:=by
 have hg:l.getD p 0=l[p]:=by rw[List.getD_eq_getElem?_getD,List.getElem?_eq_getElem hp];rfl
 unfold rune;rw[hg,if_pos h]
def jF :List UInt8:=[32,108,101,110,32,110,111,116,32,97,110,100,32,111,114,32,101,113,32,108,116,32,97,100,100,32,115,117,98,32,109,117,108,32,115,104,108,32,115,104,114,32,105,56,32,105,49,54,32,105,51,50,32,117,56,32,117,49,54,32,117,51,50,32,99,97,116,32,116,101,120,116,32,97,116,32,103,101,116,32,104,97,115,32,111,114,101,108,115,101,32]
def Kb (l:List UInt8):Bool:=match l with
 |[]=>false
 |c::r=>decide ((c::r).length<=16)&&(!digB c.toNat&&Yp (c::r))
theorem JcS (a b:List UInt8)(h:a.length<4294967281):Q9 [ofL a,ofL b]=some (.bool (Lib.contains a b)):=by
 simp only[Q9,ofL,if_pos h];unfold Lib.contains;rw[JcM]
 cases JdJ a.length (snum a) b.length (snum b)<;>simp
theorem Jej {l:List UInt8}(h:Kb l=true):l.length<=16:=by
 cases l with
 |nil=>simp
 | cons c r=>
   simp only[Kb,Bool.and_eq_true,decide_eq_true_eq]at h;exact h.1
structure Sg where
 name:Str
 params:List Ty
 result:Ty
structure Sch where
 main:Ty
 types:List (Str×Ty)
 sigs:List Sg
def KX (t:Ty):Nat:=if t.kind=4\/t.kind=5\/t.kind=6 then 1 else if t.kind=7\/t.kind=8 then t.names.length else 0
def Ka (p:Option Str)(n:Str):Bool:=match p with
 |none=>false
 |some p=> !Op.bytesLess p n
def Kx :Option Str->List Str->Int
 |_,[]=>0
 |p,n::r=>if Kb n=false then 15 else if Ka p n=true then 6 else Kx (some n) r
def KW (t:Ty):Int:=if 8<t.names.length then 3 else if Kx none t.names≠0 then Kx none t.names else if t.kind=8/\t.names=[]then 12 else 0
mutual
def mayS (has:Str->Bool):Ty->Nat->Nat->Int×Nat
 | .mk k n ns ks,deep,met=>
   if 400<met+1 then(3,met+1)else if 12<deep then(13,met+1)else if k<1\/9<k then(1,met+1)else
   if ks.length≠KX (.mk k n ns ks)\/(n≠[]/\k≠9)\/(0<ns.length/\¬(k=7\/k=8))then(12,met+1)else
   if k=9/\has n=false then(15,met+1)else
   if KW (.mk k n ns ks)≠0 then(KW (.mk k n ns ks),met+1)else Jq has ks (deep+1) (met+1)
def Jq (has:Str->Bool):List Ty->Nat->Nat->Int×Nat
 |[],_,met=>(0,met)
 |t::r,deep,met=>if(mayS has t deep met).1≠0 then mayS has t deep met else Jq has r deep (mayS has t deep met).2
end
def words :Str:=[32,66,111,111,108,32,73,110,116,32,84,101,120,116,32,76,105,115,116,32,77,97,112,32,79,112,116,32,85,110,105,111,110,32]
def QZ (n:Str):Bool:= !Kb n||Lib.contains words (32::(n++[32]))
def Kd :Option Str->List Str->Int
 |_,[]=>0
 |p,n::r=>if QZ n=true then 15 else if Ka p n=true then 6 else Kd (some n) r
def Qq (n:Str):Bool:=Kb n&&Lib.contains jF (32::(n++[32]))
def KN (has:Str->Bool):Option Str->List Sg->Nat->Int×Nat
 |_,[],met=>(0,met)
 | p,f::r,met=>if(!Kb f.name||Qq f.name)=true then(15,met)else if Ka p f.name=true then(6,met)else if 4<f.params.length then(18,met)else
   if(Jq has (f.params++[f.result]) 1 met).1≠0 then Jq has (f.params++[f.result]) 1 met else KN has (some f.name) r (Jq has (f.params++[f.result]) 1 met).2
def hasN (l:List (Str×Ty))(n:Str):Bool:=l.any fun p=>p.1=n
def defN (l:List (Str×Ty))(n:Str):Option Ty:=(l.find? fun p=>p.1=n).map (·.2)
def Qu :Ty:= .mk 0 [] [] []
def KO (l:List (Str×Ty)):Nat->Ty->Ty
 |0,t=>t
 |k+1,t=>KO l k (if t.kind=9 then(defN l t.name).getD Qu else t)
mutual
def qN (l:List (Str×Ty)):Ty->Bool
 | .mk k n ns ks=>(if k=6/\ks.length=1 then decide ((KO l l.length (ks.headD Qu)).kind=6)else false)||Y4 l ks
def Y4 (l:List (Str×Ty)):List Ty->Bool
 |[]=>false
 |t::r=>qN l t||Y4 l r
end
mutual
def KS (has:Str->Bool):Ty->Nat->Bool
 | .mk k n ns ks,deep=>if 12<deep then false else if k=9 then has n else if k=8 then YR has ks (deep+1)else if k=7 then YS has ks (deep+1)else true
def YR (has:Str->Bool):List Ty->Nat->Bool
 |[],_=>false
 |t::r,deep=>KS has t deep||YR has r deep
def YS (has:Str->Bool):List Ty->Nat->Bool
 |[],_=>true
 |t::r,deep=>KS has t deep&&YS has r deep
end
def gB (n:Str):List (Str×Bool)->Bool
 |[]=>false
 |(a,c)::r=>if n=a then c else gB n r
def sB (n:Str)(b:Bool):List (Str×Bool)->List (Str×Bool)
 |[]=>[(n,b)]
 |(a,c)::r=>if n=a then(n,b)::r else(a,c)::sB n b r
def KT :List (Str×Ty)->List (Str×Bool)->List (Str×Bool)
 |[],has=>has
 |(n,t)::r,has=>KT r (sB n (gB n has||KS (fun x=>gB x has) t 1) has)
def Kk (l:List (Str×Ty)):Nat->List (Str×Bool)->List (Str×Bool)
 |0,has=>has
 |k+1,has=>Kk l k (KT l has)
def finS (l:List (Str×Ty))(t:Ty):Bool:=
 if(Jq (hasN l) (l.map (·.2)) 1 0).1≠0 then false else if(mayS (hasN l) t 1 0).1≠0 then false else KS (fun x=>gB x (Kk l l.length [])) t 1
def Qj (s:Sch):List Ty:=s.types.map (·.2)++[s.main]++(s.sigs.map fun f=>f.params++[f.result]).flatten
def Qv (s:Sch):Int:=
 if 12<s.types.length\/12<s.sigs.length then 3 else
 if Kd none (s.types.map (·.1))≠0 then Kd none (s.types.map (·.1))else
 let m1:=Jq (hasN s.types) (s.types.map (·.2)) 1 0
 if m1.1≠0 then m1.1 else
 let m2:=mayS (hasN s.types) s.main 1 m1.2
 if m2.1≠0 then m2.1 else
 let m3:=KN (hasN s.types) none s.sigs m2.2
 if m3.1≠0 then m3.1 else
 if s.types.any (fun p=> !finS s.types p.2)then 14 else
 if Y4 s.types (Qj s)then 17 else 0
def NmC (P:Pt->Prop)(st:St)(e:List V)(x:Str×Ty):Prop:=∃c,e=ofL x.1::c/\TyC P st c x.2
def SgC (P:Pt->Prop)(st:St)(e:List V)(f:Sg):Prop:=∃pv c,e=ofL f.name::pv::c/\Jfs P st pv f.params/\TyC P st c f.result
def LstAt {α:Type}(C:List V->α->Prop)(P:Pt->Prop)(st:St)(v:V)(z:Nat)(l:List α):Prop:=∃es,SlAt P st v z es/\es.length=l.length/\∀i (h:i<es.length) (h':i<l.length),C es[i] l[i]
def SchC (P:Pt->Prop)(st:St)(e:List V)(s:Sch):Prop:=∃c tv sv,e=c++[tv,sv]/\TyC P st c s.main/\LstAt (NmC P st) P st tv 5 s.types/\LstAt (SgC P st) P st sv 6 s.sigs
section
variable {P Q : Pt -> Prop} {st st' : St}
theorem NmC.imp {e:List V}{x:Str×Ty}(h:NmC P st e x)(k:∀r,P r->st.row r≠ .none->Q r/\st'.row r=st.row r):NmC Q st' e x:=by
 obtain⟨c,h1,h2⟩:=h;exact⟨c,h1,h2.imp k⟩
theorem SgC.imp {e:List V}{x:Sg}(h:SgC P st e x)(k:∀r,P r->st.row r≠ .none->Q r/\st'.row r=st.row r):SgC Q st' e x:=by
 obtain⟨pv,c,h1,h2,h3⟩:=h;exact⟨pv,c,h1,h2.imp k,h3.imp k⟩
theorem LstAt.imp {α:Type}{C D:List V->α->Prop}{v:V}{z:Nat}{l:List α}(h:LstAt C P st v z l)(kc:∀e x,C e x->D e x)(k:∀r,P r->st.row r≠ .none->Q r/\st'.row r=st.row r):LstAt D Q st' v z l:=by
 obtain⟨es,h1,h2,h3⟩:=h;exact⟨es,h1.imp k,h2,fun i a b=>kc _ _ (h3 i a b)⟩
theorem SchC.imp {e:List V}{s:Sch}(h:SchC P st e s)(k:∀r,P r->st.row r≠ .none->Q r/\st'.row r=st.row r):SchC Q st' e s:=by
 obtain⟨c,tv,sv,h1,h2,h3,h4⟩:=h;exact⟨c,tv,sv,h1,h2.imp k,h3.imp (fun _ _ x=>x.imp k) k,h4.imp (fun _ _ x=>x.imp k) k⟩
theorem LstAt.len {α:Type}{C:List V->α->Prop}{v:V}{z:Nat}{l:List α}(h:LstAt C P st v z l):Kf v=some (.int .i64 l.length, .no):=by
 obtain⟨es,h1,h2,_⟩:=h;rw[h1.len,h2]
theorem LstAt.sc {α:Type}{C:List V->α->Prop}{v:V}{z:Nat}{l:List α}(h:LstAt C P st v z l):v.sc=true/\v.cells=some [v]:=by
 obtain⟨es,h1,h2,_⟩:=h;exact⟨h1.sc,h1.cells⟩
theorem LstAt.elem {α:Type}{C:List V->α->Prop}{v:V}{z:Nat}{l:List α}(h:LstAt C P st v z l){i:Nat}(hi:i<l.length):
  ∃r q e,JJ z v (.int .i64 i)=some (.ptr r q, .no)/\P r/\(st.row r≠ .none)/\ldn (st.row r) q z=some (.agg e, .no)/\C e l[i]/\e.length=z/\∀j (hj:j<e.length),ld1 (st.row r) (q+j)=some (e[j], .no):=by
 obtain⟨es,h1,h2,h3⟩:=h;obtain⟨r,q,a,b,c,d,e⟩:=h1.elem (i:=i) (by omega);exact⟨r,q,es[i],a,b,c,d,h3 i (by omega) hi,h1.1 _ (List.getElem_mem _),e⟩
end
theorem Jpl {P:Pt->Prop}{st:St}{v:V}{ts:List Ty}:Jfs P st v ts<->LstAt (TyC P st) P st v 4 ts:=Iff.rfl
theorem Jap (has:Str->Bool)(k:Int)(n:Str)(ns:List Str)(ks:List Ty)(deep met:Nat):mayS has (.mk k n ns ks) deep met=
  if 400<met+1 then(3,met+1)else if 12<deep then(13,met+1)else if k<1\/9<k then(1,met+1)else
  if ks.length≠KX (.mk k n ns ks)\/(n≠[]/\k≠9)\/(0<ns.length/\¬(k=7\/k=8))then(12,met+1)else
  if k=9/\has n=false then(15,met+1)else
  if KW (.mk k n ns ks)≠0 then(KW (.mk k n ns ks),met+1)else Jq has ks (deep+1) (met+1):=by rw[mayS]
theorem KR (has:Str->Bool)(deep met:Nat):Jq has [] deep met=(0,met):=by rw[Jq]
theorem JT (has:Str->Bool)(t:Ty)(r:List Ty)(deep met:Nat):Jq has (t::r) deep met=if(mayS has t deep met).1≠0 then mayS has t deep met else Jq has r deep (mayS has t deep met).2:=by rw[Jq]
mutual
theorem K7 (has:Str->Bool):∀(t:Ty) (deep met:Nat),met<=400->(mayS has t deep met).2<=401/\((mayS has t deep met).1=0->(mayS has t deep met).2<=400)
 | .mk k n ns ks,deep,met,h=>by
   rw[Jap]
   split
   ·simp only;exact⟨by omega,fun h=>by cases h⟩
   rename_i h1
   have h3:=QJ has ks (deep+1) (met+1) (by omega)
   repeat' split
   all_goals first
    |exact h3
    |(simp only;exact⟨by omega,fun h=>by first|cases h|omega⟩)
theorem QJ (has:Str->Bool):∀(l:List Ty) (deep met:Nat),met<=400->(Jq has l deep met).2<=401/\((Jq has l deep met).1=0->(Jq has l deep met).2<=400)
 |[],deep,met,h=>by rw[KR];simp only;omega
 | t::r,deep,met,h=>by
   have h1:=K7 has t deep met h;rw[JT]
   split
   ·exact h1
   ·rename_i h2
    exact QJ has r deep _ (h1.2 (by simpa using h2))
end
def JcT (P:Pt->Prop)(st:St)(r:Pt)(l:List (Str×Ty)):Prop:=∃es:List (Str×List V),QR st r ofL (es.map fun p=>(p.1,V.agg p.2))/\es.length=l.length/\∀i (h:i<es.length) (h':i<l.length),es[i].1=l[i].1/\TyC P st es[i].2 l[i].2
theorem JcT.imp {P Q:Pt->Prop}{st st':St}{r:Pt}{l:List (Str×Ty)}(h:JcT P st r l)(hr:st'.row r=st.row r)(k:∀r,P r->st.row r≠ .none->Q r/\st'.row r=st.row r):JcT Q st' r l:=by
 obtain⟨es,h1,h2,h3⟩:=h;exact⟨es,h1.of hr,h2,fun i a b=>⟨(h3 i a b).1,(h3 i a b).2.imp k⟩⟩
theorem Jqx {P:Pt->Prop}{st:St}(n:Str):∀(es:List (Str×List V)) (l:List (Str×Ty)),es.length=l.length->(∀i (h:i<es.length) (h':i<l.length),es[i].1=l[i].1/\TyC P st es[i].2 l[i].2)->
  match defN l n with
  |some t=>∃c,at_ n (es.map fun p=>(p.1,V.agg p.2))=some (.agg c)/\TyC P st c t
  |none=>at_ n (es.map fun p=>(p.1,V.agg p.2))=none
 |[],[],_,_=>rfl
 |[],_::_,h,_=>by simp at h
 |_::_,[],h,_=>by simp at h
 | (a,c)::es,(b,t)::l,h,k=>by
   have k0:=k 0 (by simp) (by simp);simp only[List.getElem_cons_zero]at k0;obtain⟨rfl,k1⟩:=k0;by_cases e:n=a
   ·subst e;simp only[defN,List.find?,decide_true,Option.map_some,List.map_cons,at_,if_true];exact⟨c,rfl,k1⟩
   ·have e':¬a=n:=fun x=>e x.symm;have ih:=Jqx n es l (by simpa using h) (fun i h1 h2=>by have:=k (i+1) (by simpa using h1) (by simpa using h2);simpa using this);have hd:defN ((a,t)::l) n=defN l n:=by simp[defN,List.find?,e']
    rw[hd];simp only[List.map_cons,at_,if_neg e];exact ih
theorem Jek (l:List (Str×Ty))(n:Str):hasN l n=(defN l n).isSome:=by
 induction l with
 |nil=>rfl
 | cons p l ih=>
   by_cases h:p.1=n
   ·simp[hasN,defN,List.find?,h]
   ·have:hasN (p::l) n=hasN l n:=by simp[hasN,h]
    rw[this,ih];simp[defN,List.find?,h]
theorem JcT.look {P:Pt->Prop}{st:St}{r:Pt}{l:List (Str×Ty)}(h:JcT P st r l)(z:V)(n:Str):∃v,(∀ok (S:St),S.row r=st.row r->QX S (.one .s) z ok (.map r) (ofL n)=some (if ok then .tup [v, .bool (hasN l n)]else v, .no))/\(match defN l n with
  |some t=>∃c,v= .agg c/\TyC P st c t
  |none=>v=z):=by
 obtain⟨es,h1,h2,h3⟩:=h;have ha:=Jqx n es l h2 h3;rw[Jek];have hl:∀ok (S:St),S.row r=st.row r->QX S (.one .s) z ok (.map r) (ofL n)=some (ansL z ok (at_ n (es.map fun p=>(p.1,V.agg p.2))), .no):=fun ok S hS=>Qi (enc:=ofL) (h1.of hS) z ok n (YQ n _) rfl
 cases hd:defN l n with
 | none=>
   rw[hd]at ha;simp only at ha;rw[ha]at hl;exact⟨z,hl,rfl⟩
 | some t=>
   rw[hd]at ha;obtain⟨c,h4,h5⟩:=ha;rw[h4]at hl;exact⟨.agg c,hl,c,rfl,h5⟩
theorem Jpm (T:Table)(d:Bool)(ow:Option (List Nat))(x:Opd)(fr:Fr)(st:St)(R:V->St->Prop):wO T d ow (.rngM x) fr st R=wW (evOp fr st (.rngM x)) st R:=propext Iff.rfl
theorem JbK (T:Table)(d:Bool)(ow:Option (List Nat))(x:Opd)(fr:Fr)(st:St)(R:V->St->Prop):wO T d ow (.nextM x) fr st R=wW (evOp fr st (.nextM x)) st R:=propext Iff.rfl
theorem Jrh (fr:Fr)(st:St)(x:Opd):evOp fr st (.rngM x)=Jkd st (x.ev fr):=of_eq_true (eq_self _)
theorem Jdk (fr:Fr)(st:St)(x:Opd):evOp fr st (.nextM x)=JdO st (x.ev fr):=of_eq_true (eq_self _)
theorem Jpn {st:St}{r:Pt}{t:Nat}{es:List (V×V)}(h:st.row r= .mob t es):Jkd st (.map r)=some (.ptr st.nx 0, .new fun t=> .mit t (some r) es.length 0):=by
 simp only[Jkd,h]
theorem JjA {st:St}{q r:Pt}{t t' n:Nat}{es:List (V×V)}(hq:st.row q= .mit t (some r) es.length n)(h:st.row r= .mob t' es)(hn:n<es.length):
  JdO st (.ptr q 0)=some (.tup [.bool true, .any, .any], .wr q t fun u=> .mit u (some r) es.length (n+1)):=by
 simp only[JdO,hq,h];rw[if_neg (by simp),if_pos hn]
theorem JjB {st:St}{q r:Pt}{t t' n:Nat}{es:List (V×V)}(hq:st.row q= .mit t (some r) es.length n)(h:st.row r= .mob t' es)(hn:¬n<es.length):
  JdO st (.ptr q 0)=some (.tup [.bool false], .no):=by
 simp only[JdO,hq,h];rw[if_neg (by simp),if_neg hn]
def zTy :List V:=[.int .i64 0,ofL [], .snil, .snil]
theorem JnF (P:Pt->Prop)(st:St):TyC P st zTy Qu:= .mk (es:=[]) (SlAt.nil _ _ _) (SlAt.nil _ _ _) rfl fun i h=>absurd h (by simp)
theorem kK (l:List (Str×Ty))(k:Nat)(t:Ty):KO l (k+1) t=KO l k (if t.kind=9 then(defN l t.name).getD Qu else t):=by rw[KO]
theorem kL (l:List (Str×Ty)):∀(k:Nat) (t:Ty),KO l (k+1) t=(if(KO l k t).kind=9 then(defN l (KO l k t).name).getD Qu else KO l k t)
 |0,t=>by rw[kK];rfl
 | k+1,t=>by
   rw[kK,kL l k,<-kK]
theorem Jia (l:List (Str×Ty))(k:Int)(n:Str)(ns:List Str)(ks:List Ty):qN l (.mk k n ns ks)=((if k=6/\ks.length=1 then decide ((KO l l.length (ks.headD Qu)).kind=6)else false)||Y4 l ks):=by rw[qN]
theorem j8 (l:List (Str×Ty)):∀ts:List Ty,Y4 l ts=ts.any (qN l)
 |[]=>by rw[Y4];rfl
 |t::r=>by rw[Y4,j8 l r];rfl
def j9 (p:Ty->Bool):List Ty->Nat->Option Nat
 |[],_=>none
 |t::r,i=>if p t=true then some i else j9 p r (i+1)
theorem Jel (p:Ty->Bool):∀(l:List Ty) (i:Nat),(j9 p l i).isSome=l.any p
 |[],_=>rfl
 | t::r,i=>by
   simp only[j9,List.any_cons]
   cases h:p t with
   |true=>simp
   |false=>simpa using Jel p r (i+1)
mutual
def cntT :Ty->Nat
 | .mk _ _ _ ks=>1+kN ks
def kN :List Ty->Nat
 |[]=>0
 |t::r=>cntT t+kN r
end
theorem Yq (k:Int)(n:Str)(ns:List Str)(ks:List Ty):cntT (.mk k n ns ks)=1+kN ks:=by rw[cntT]
theorem kO (t:Ty)(r:List Ty):kN (t::r)=cntT t+kN r:=by rw[kN]
theorem JfL :kN []=0:=by rw[kN]
theorem JnG :∀t:Ty,1<=cntT t
 | .mk k n ns ks=>by rw[Yq];omega
theorem jf :∀{ks:List Ty} {i:Nat} (h:i<ks.length),cntT ks[i]<=kN ks
 |t::r,0,_=>by rw[kO];exact Nat.le_add_right _ _
 | t::r,i+1,h=>by
   rw[kO];have:=jf (ks:=r) (i:=i) (by simpa using h);simp only[List.getElem_cons_succ];omega
theorem JbL :∀ks:List Ty,ks.length<=kN ks
 |[]=>Nat.zero_le _
 | t::r=>by
   rw[kO];have h1:=JbL r;have h2:=JnG t;simp only[List.length_cons];omega
mutual
theorem qO (has:Str->Bool):∀(t:Ty) (deep met:Nat),(mayS has t deep met).1=0->(mayS has t deep met).2=met+cntT t
 | .mk k n ns ks,deep,met,h=>by
   rw[Jap]at h⊢;rw[Yq]
   repeat' split at h
   all_goals first
    |(exfalso;simp only at h;first|omega|(exact absurd h (by assumption)))
    |skip
   rename_i h1 h2 h3 h4 h5 h6
   rw[if_neg h1,if_neg h2,if_neg h3,if_neg h4,if_neg h5,if_neg h6,ku has ks _ _ h];omega
theorem ku (has:Str->Bool):∀(l:List Ty) (deep met:Nat),(Jq has l deep met).1=0->(Jq has l deep met).2=met+kN l
 |[],deep,met,h=>by rw[KR,JfL];rfl
 | t::r,deep,met,h=>by
   rw[JT]at h⊢;rw[kO]
   split at h
   ·rename_i h2;exact absurd h h2
   ·rename_i h2
    rw[if_neg h2,ku has r _ _ h,qO has t _ _ (by simpa using h2)];omega
end
theorem YY {T:Table}{lf:Nat}{l:List Nat}{b:C}{fr:Fr}{st:St}{K:Out->Prop}(hlf:0<lf)(h:wC T lf b fr st (Jfc (fun _ _ _=>False) 0 K)):wC T lf (.loop l b) fr st K:=
 Jn (fun _ f s=>f=fr/\s=st) 0 hlf ⟨rfl,rfl⟩ fun k f s ⟨h1,h2⟩=>by
  subst h1;subst h2;refine JkV b (fun o ho=> ?_) h
  cases o with
  |norm f s=>obtain⟨j,hj,_⟩:=ho;exact absurd hj (Nat.not_lt_zero j)
  |exit i f s=>exact ho
  |ret f s=>exact ho
theorem LstAt.nil_len {α:Type}{C:List V->α->Prop}{P:Pt->Prop}{st:St}{v:V}{z:Nat}(h:LstAt C P st v z []):Kf v=some (.int .i64 0, .no):=h.len
abbrev Was :=List (Nat×Nat)
def idxN (n:Str):List Str->Nat->Option Nat
 |[],_=>none
 |a::r,i=>if n=a then some i else idxN n r (i+1)
def JnH (x y:Nd)(first:Bool)(n:Str)(i:Nat):Option (Nat×Nat):=match idxN n x.names 0 with
 |none=>none
 |some j=>if j<x.kids.length/\i<y.kids.length then some (if first=true then(x.kids.getD j 0,y.kids.getD i 0)else(y.kids.getD i 0,x.kids.getD j 0))else none
def byP (x y:Nd)(first:Bool):List Str->Nat->List (Option (Nat×Nat))
 |[],_=>[]
 |n::r,i=>JnH x y first n i::byP x y first r (i+1)
def Jem (y:Nd):List Nat->Nat->List (Option (Nat×Nat))
 |[],_=>[]
 |a::r,i=>(if i<y.kids.length then some (a,y.kids.getD i 0)else none)::Jem y r (i+1)
def JfM (a:Nat)(x y:Nd):Option (List (Option (Nat×Nat))):=
 if y.kind=6/\x.kind≠6/\y.kids.length=1 then some [some (a,y.kids.getD 0 0)]else
 if x.kind≠y.kind then none else if y.kind=7 then some (byP x y true y.names 0)else if y.kind=8 then some (byP y x false x.names 0)else some (Jem y x.kids 0)
def plan (tb:Tb)(a b:Nat):Option (List (Option (Nat×Nat))):=
 if(Kh tb (tb.nodes.length+1) a).2=true/\(Kh tb (tb.nodes.length+1) b).2=true then
  JfM (Kh tb (tb.nodes.length+1) a).1 (tb.nodes.getD (Kh tb (tb.nodes.length+1) a).1 Jjy) (tb.nodes.getD (Kh tb (tb.nodes.length+1) b).1 Jjy)
 else none
def jG (f:Was->Nat->Nat->Option (Bool×Was)):List (Option (Nat×Nat))->Was->Option (Bool×Was)
 |[],was=>some (true,was)
 |none::_,was=>some (false,was)
 | some p::r,was=>match f was p.1 p.2 with
   |none=>none
   |some (false,was)=>some (false,was)
   |some (true,was)=>jG f r was
def Yr (tb:Tb):Nat->Was->Nat->Nat->Option (Bool×Was)
 |0,_,_,_=>none
 | f+1,was,a,b=>if a=b\/(a,b)∈was then some (true,was)else match plan tb a b with
   |none=>some (false,was++[(a,b)])
   |some l=>jG (Yr tb f) l (was++[(a,b)])
theorem Jib {tb:Tb}:∀{f id:Nat},(Kh tb f id).2=true->(Kh tb f id).1<tb.nodes.length
 |0,_,h=>by cases h
 | f+1,id,h=>by
   by_cases h1:tb.nodes.length<=id
   ·rw[YK h1]at h;cases h
   have h1:id<tb.nodes.length:=by omega
   by_cases k:tb.nodes[id].kind=9
   ·cases d:defI tb tb.nodes[id].name with
    |none=>rw[qM h1 k d]at h;cases h
    |some j=>rw[kq h1 k d]at h⊢;exact Jib h
   ·rw[Qm h1 k];exact h1
def encP (p:Nat×Nat):V:= .agg [.int .i64 (p.1:Int), .int .i64 (p.2:Int)]
structure jg (W F:Pt->Prop) (st:St) (rt kr rw:Pt) (tb:Tb) (was:Was):Prop where
 tab:Tab W F st rt tb
 cell:∃t,st.row kr= .cells t [.ptr rt 0, .map rw]
 map:QR st rw encP (was.map fun p=>(p,V.int .i64 1))
 sep:∀r,W r\/F r->r≠rw
section
variable {W F : Pt -> Prop} {st st' : St} {rt kr rw : Pt} {tb : Tb} {was was' : Was}
theorem jg.krw (h:jg W F st rt kr rw tb was):kr≠rw:=fun e=>by
 obtain⟨t,h1⟩:=h.cell;obtain⟨u,h2⟩:=h.map;rw[e,h2]at h1;cases h1
theorem jg.ch (h:jg W F st rt kr rw tb was)(c:Ch (fun r=>r=rw) st st')(m:QR st' rw encP (was'.map fun p=>(p,V.int .i64 1))):jg W F st' rt kr rw tb was':=by
 refine⟨h.tab.keep fun r w e=>c.same r e (h.sep r w), ?_,m,h.sep⟩;obtain⟨t,e⟩:=h.cell;exact⟨t,by rw[c.same kr (Jc e) h.krw,e]⟩
theorem jg.gr (h:jg W F st rt kr rw tb was)(g:Gr st st'):jg W F st' rt kr rw tb was:=h.ch (Ch.of _ g) (h.map.of (g.same rw h.map.ne))
theorem jg.low (h:jg W F st rt kr rw tb was)(k:Nat):jg W F {st with low:=k} rt kr rw tb was:=⟨h.tab.keep fun r _ _=>rfl,h.cell,h.map,h.sep⟩
theorem jg.unlow {k:Nat}(h:jg W F {st with low:=k} rt kr rw tb was):jg W F st rt kr rw tb was:=⟨h.tab.keep fun r _ _=>rfl,h.cell,h.map,h.sep⟩
end
theorem Jri (fr:Fr)(st:St)(e:EK)(z:V)(m k:Opd):evOp fr st (.ment e z m k)=JdL st e z (m.ev fr) (k.ev fr):=by
 simp only[evOp,JdL]
 cases m.ev fr<;>rfl
theorem Jrj (fr:Fr)(st:St)(m s v:Opd):evOp fr st (.ests m s v)=JdM st (m.ev fr) (s.ev fr) (v.ev fr):=by
 simp only[evOp,JdM]
 cases m.ev fr<;>cases KE (s.ev fr)<;>rfl
theorem JnI {α:Type}[DecidableEq α]{enc:α->V}{e:EK}{st:St}{r:Pt}{es:List (α×V)}{t:Nat}(h:st.row r= .mob t (es.map fun p=>(enc p.1,p.2)))(k:α)(z:V)(heq:∀p∈es,e.eq (enc k) (enc p.1)=some (decide (k=p.1)))(hfit:e.fit (enc k)=true)(hr:e.refl (enc k)=true)(hn:Ya k es 0=none):
  JdL st e z (.map r) (enc k)=some (.tup [z, .int .i64 es.length], .wr r t fun u=> .mob u ((es++[(k,z)]).map fun p=>(enc p.1,p.2))):=by
 simp only[JdL,h,hfit,hr,kJ k es 0 heq,hn];simp
theorem JlQ {st:St}{r:Pt}{es:List (V×V)}{t:Nat}{k z v:V}(h:st.row r= .mob t (es++[(k,z)])):JdM st (.map r) (.int .i64 es.length) v=some (JR, .wr r t fun u=> .mob u (es++[(k,v)])):=by
 simp only[JdM,QI,Int.natCast_nonneg,if_true,Int.toNat_natCast,h];rw[if_pos (by simp)];have e:(es++[(k,z)]).modify es.length (fun e=>(e.1,v))=es++[(k,v)]:=by
  clear h
  induction es with
  |nil=>rfl
  |cons a r ih=>simpa using ih
 rw[e]
theorem Jpo (T:Table)(d:Bool)(ow:Option (List Nat))(e:EK)(z:V)(m k:Opd)(fr:Fr)(st:St)(R:V->St->Prop):wO T d ow (.ment e z m k) fr st R=wW (evOp fr st (.ment e z m k)) st R:=propext Iff.rfl
theorem Jpp (T:Table)(d:Bool)(ow:Option (List Nat))(m s v:Opd)(fr:Fr)(st:St)(R:V->St->Prop):wO T d ow (.ests m s v) fr st R=wW (evOp fr st (.ests m s v)) st R:=propext Iff.rfl
def JC :Tb:=⟨[],[],0,[]⟩
def setI {α:Type}(n:Str)(x:α):List (Str×α)->List (Str×α)
 |[]=>[(n,x)]
 |(a,y)::r=>if n=a then(n,x)::r else(a,y)::setI n x r
def Jr :List (Str×Ty)->Tb->Tb×Int
 |[],tb=>(tb,0)
 |(n,t)::r,tb=>if(addT t 400 tb).2.2.1≠0 then((addT t 400 tb).1,(addT t 400 tb).2.2.1)else Jr r {(addT t 400 tb).1 with named:=setI n (addT t 400 tb).2.1 (addT t 400 tb).1.named}
def Jx :List Ty->Tb->Tb×List Nat×Int
 |[],tb=>(tb,[],0)
 |t::r,tb=>if(addT t 400 tb).2.2.1≠0 then((addT t 400 tb).1,[],(addT t 400 tb).2.2.1)else((Jx r (addT t 400 tb).1).1,(addT t 400 tb).2.1::(Jx r (addT t 400 tb).1).2.1,(Jx r (addT t 400 tb).1).2.2)
def Kl :List Sg->Tb->Tb×Int
 |[],tb=>(tb,0)
 |f::r,tb=>if(Jx (f.params++[f.result]) tb).2.2≠0 then((Jx (f.params++[f.result]) tb).1,(Jx (f.params++[f.result]) tb).2.2)else Kl r {(Jx (f.params++[f.result]) tb).1 with sigs:=setI f.name (Jx (f.params++[f.result]) tb).2.1 (Jx (f.params++[f.result]) tb).1.sigs}
def newS (s:Sch):Option Tb×Int:=
 if Qv s≠0 then(none,Qv s)else
 if(Jr s.types JC).2≠0 then(none,(Jr s.types JC).2)else
 if(addT s.main 400 (Jr s.types JC).1).2.2.1≠0 then(none,(addT s.main 400 (Jr s.types JC).1).2.2.1)else
 if(Kl s.sigs {(addT s.main 400 (Jr s.types JC).1).1 with main:=(addT s.main 400 (Jr s.types JC).1).2.1}).2≠0 then(none,(Kl s.sigs {(addT s.main 400 (Jr s.types JC).1).1 with main:=(addT s.main 400 (Jr s.types JC).1).2.1}).2)else
 (some (Kl s.sigs {(addT s.main 400 (Jr s.types JC).1).1 with main:=(addT s.main 400 (Jr s.types JC).1).2.1}).1,0)
theorem Tab.setMain {W F:Pt->Prop}{st:St}{rt:Pt}{tb:Tb}(h:Tab W F st rt tb)(id:Nat):∃t l,st.row rt= .cells t l/\l.length=5/\Tab W F (st.wr rt t fun u=> .cells u (JI l 3 [.int .i64 (id:Int)])) rt {tb with main:=id}:=by
 obtain⟨lv,ra,rn,rs,es,sv,h⟩:=h;obtain⟨t,c⟩:=h.cell;have old:∀r,r≠rt->(st.wr rt t fun u=> .cells u (JI [lv, .map ra, .map rn, .int .i64 tb.main, .map rs] 3 [.int .i64 (id:Int)])).row r=st.row r:=fun r n=>Jl _ _ _ n;have mob:∀r,(∃t m,st.row r= .mob t m)->r≠rt:=fun r ⟨_,_,e⟩ k=>by rw[k,c]at e;cases e
 have fr:∀r,F r->st.row r≠ .none->F r/\(st.wr rt t fun u=> .cells u (JI [lv, .map ra, .map rn, .int .i64 tb.main, .map rs] 3 [.int .i64 (id:Int)])).row r=st.row r:=fun r f _=>⟨f,old r fun k=>h.fw r f (by rw[k];exact h.w.1)⟩
 refine⟨t,_,c,rfl,lv,ra,rn,rs,es,sv,{h with cell:=⟨st.t,Jm _ _ _ _⟩,own:=fun r w=> ?_,l:= ?_,nd:=fun i a b=>(h.nd i a b).imp fr,key:=h.key.of (old _ (mob _ (by obtain⟨t,e⟩:=h.key;exact⟨t,_,e⟩))),named:=h.named.of (old _ (mob _ (by obtain⟨t,e⟩:=h.named;exact⟨t,_,e⟩))),sigs:=h.sigs.of (old _ (mob _ (by obtain⟨t,e⟩:=h.sigs;exact⟨t,_,e⟩))),sig:=fun i a b=>⟨(h.sig i a b).1,(h.sig i a b).2.imp fr⟩}⟩
 ·by_cases e:r=rt
  ·rw[e,Jm];exact fun e=>by cases e
  ·rw[old r e];exact h.own r w
 ·exact h.l.imp fun r t _ n _=>old r n
def SlF (S0 st:St)(v:V)(z:Nat)(es:List (List V)):Prop:=
 (∀e∈es,e.length=z)/\((v= .snil/\es=[])\/∃r t,S0.row r= .none/\st.row r= .cells t es.flatten/\(v= .sl r 0 es.length z\/v= .slx r 0 es.length z es.length))
section
variable {S0 st st' : St} {v : V} {z : Nat} {es : List (List V)}
theorem SlF.nil (S0 st:St)(z:Nat):SlF S0 st .snil z []:=⟨by simp, .inl ⟨rfl,rfl⟩⟩
theorem SlF.at (h:SlF S0 st v z es):SlAt (fun r=>S0.row r= .none) st v z es:=by
 refine⟨h.1, ?_⟩;rcases h.2 with h2|⟨r,t,h2,h3,h4⟩
 ·exact .inl h2
 ·refine .inr ⟨r,0,h2, ?_,es.flatten, .inl ⟨t,h3⟩,by rw[JF h.1];omega,by rw[List.drop_zero,<-JF h.1,List.take_length]⟩;rcases h4 with h4|h4
  ·exact .inl h4
  ·exact .inr ⟨_,Nat.le_refl _,h4⟩
theorem SlF.keep (h:SlF S0 st v z es)(k:∀r,rowOf v=some r->st'.row r=st.row r):SlF S0 st' v z es:=by
 refine⟨h.1, ?_⟩;rcases h.2 with h2|⟨r,t,h2,h3,h4⟩
 ·exact .inl h2
 ·refine .inr ⟨r,t,h2, ?_,h4⟩;rw[k r (by rcases h4 with rfl|rfl<;>rfl),h3]
theorem SlF.gr (h:SlF S0 st v z es)(g:Gr st st'):SlF S0 st' v z es:=by
 refine h.keep fun r hr=>g.same r ?_;rcases h.2 with⟨rfl,_⟩|⟨q,t,h2,h3,h4⟩
 ·cases hr
 ·have:r=q:=by rcases h4 with rfl|rfl<;>(injection hr with hr;exact hr.symm)
  rw[this,h3];exact fun e=>by cases e
theorem SlF.early {S1:St}(h:SlF S0 st v z es)(g:∀r,S0.row r= .none->S1.row r= .none):SlF S1 st v z es:=by
 refine⟨h.1, ?_⟩;rcases h.2 with h2|⟨r,t,h2,h3,h4⟩
 ·exact .inl h2
 ·exact .inr ⟨r,t,g r h2,h3,h4⟩
theorem SlF.row (h:SlF S0 st v z es){r:Pt}(hr:rowOf v=some r):S0.row r= .none/\∃t,st.row r= .cells t es.flatten:=by
 rcases h.2 with⟨rfl,_⟩|⟨q,t,h2,h3,h4⟩
 ·cases hr
 ·have:r=q:=by rcases h4 with rfl|rfl<;>(injection hr with hr;exact hr.symm)
  subst this;exact⟨h2,t,h3⟩
theorem Jgy {P:Pt->Prop}{vx:V}{xs:List (List V)}(hg:Gr S0 st)(h:SlF S0 st v z es)(hx:SlAt P st vx z xs)(hok:okC xs)(hn:xs.length<2^20)(hn2:es.length+xs.length<=2^24){R:V->St->Prop}
  (k:∀S' v',Gr S0 S'->SlF S0 S' v' z (es++xs)->(∀p,st.row p≠ .none->rowOf v≠some p->S'.row p=st.row p)->R v' S'):wW (appV st z v vx) st R:=by
 have happ:appV st z v vx=JE st z xs.length xs.flatten v:=by
  unfold appV;rw[hx.slen];simp only[hx.all];rw[if_pos ⟨hn,hok.flat⟩]
 have hz:∀e∈es++xs,e.length=z:=fun e he=>by
  rcases List.mem_append.1 he with he|he
  ·exact h.1 e he
  ·exact hx.1 e he
 rw[happ];have w:=hg.wf;by_cases h0:xs.length=0
 ·have hxs:xs=[]:=List.length_eq_zero_iff.1 h0;have e1:JE st z xs.length xs.flatten v=some (v, .no):=by
   have hs:(slen v).isSome=true:=by rw[h.at.slen];rfl
   unfold JE;rw[if_pos h0,if_pos hs]
  rw[e1];refine k st v hg ?_ fun _ _ _=>rfl;rw[hxs,List.append_nil];exact h
 rcases h.2 with⟨rfl,hes⟩|⟨r,t,h2,h3,h4⟩
 ·have e1:JE st z xs.length xs.flatten .snil=some (.sl st.nx 0 xs.length z, .new fun t=> .cells t xs.flatten):=by
   unfold JE;rw[if_neg h0]
  rw[e1];subst hes;refine k (st.new fun t=> .cells t xs.flatten) _ (hg.nn (Ja _)) ⟨hz, .inr ⟨st.nx,st.t,hg.fresh,by rw[JG];simp, .inl (by simp)⟩⟩ fun p hp _=>Ko w _ hp
 ·have hfl:=JF h.1;have hle:0+es.length*z<=es.flatten.length:=by omega
  have htk:(es.flatten.drop 0).take (es.length*z)=es.flatten:=by rw[List.drop_zero,<-hfl,List.take_length]
  rcases h4 with rfl|rfl
  ·have e1:JE st z xs.length xs.flatten (.sl r 0 es.length z)=some (.sl st.nx 0 (es.length+xs.length) z, .dn r t fun u=> .cells u (es.flatten++xs.flatten)):=by
    unfold JE;rw[if_neg h0];simp only[h3];rw[if_neg (by simp;omega),if_pos hle,htk]
   rw[e1];refine k ((st.wr r t .dead).new fun u=> .cells u (es.flatten++xs.flatten)) _ (hg.dn h2 (by rw[h3];exact fun e=>by cases e) (by rw[h3];rfl) (Ja _)) ⟨hz, .inr ⟨st.nx,st.t+1,hg.fresh, ?_, .inl (by simp)⟩⟩ fun p hp hne=> ?_
   ·rw[List.flatten_append];exact JG (st.wr r t .dead) _
   ·have hpr:p≠r:=fun e=>hne (by rw[e];rfl);have hw2:WF (st.wr r t .dead):=(QW w (by rw[h3];exact fun e=>by cases e) (by rw[h3];rfl) fun u=>⟨rfl,fun e=>by cases e⟩).wf;rw[Ko hw2 _ (by rw[Jl _ _ _ hpr];exact hp),Jl _ _ _ hpr]
  ·have e1:JE st z xs.length xs.flatten (.slx r 0 es.length z es.length)=some (.sl st.nx 0 (es.length+xs.length) z, .new fun u=> .cells u (es.flatten++xs.flatten)):=by
    unfold JE;rw[if_neg h0];simp only[h3];rw[if_neg (by simp;omega),if_pos hle,if_neg (by omega),htk]
   rw[e1];refine k (st.new fun u=> .cells u (es.flatten++xs.flatten)) _ (hg.nn (Ja _)) ⟨hz, .inr ⟨st.nx,st.t,hg.fresh, ?_, .inl (by simp)⟩⟩ fun p hp _=>Ko w _ hp;rw[List.flatten_append];exact JG st _
theorem JnJ {P:Pt->Prop}(h:SlAt P st v z es){k:Nat}(hk:k<=es.length):∃v',jb st z v none (some (.int .i64 (k:Int))) none=some (v', .no)/\SlAt P st v' z (es.take k)/\rowOf v'=rowOf v:=by
 rcases h.2 with⟨rfl,hes⟩|⟨r,o,hp,hv,l,hl,h1,h2⟩
 ·subst hes;have:k=0:=by simpa using hk
  subst this;exact⟨.snil,by simp[jb,Qz,JP,KE],⟨by simp, .inl ⟨rfl,by simp⟩⟩,rfl⟩
 ·have hkz:k*z<=es.length*z:=Nat.mul_le_mul_right _ hk;have hlen:(es.take k).length=k:=by rw[List.length_take];omega
  have hfl:(l.drop o).take (k*z)=(es.take k).flatten:=by
   have e1:(l.drop o).take (k*z)=es.flatten.take (k*z):=by rw[<-h2,List.take_take,Nat.min_eq_left hkz]
   rw[e1]
   conv=>lhs;rw[<-List.take_append_drop k es,List.flatten_append]
   have e2:(es.take k).flatten.length=k*z:=by rw[JF fun e he=>h.1 e (List.mem_of_mem_take he),hlen]
   rw[List.take_append_of_le_length (by omega),<-e2,List.take_length]
  have at':∀v',(v'= .sl r o k z\/∃c,k<=c/\v'= .slx r o k z c)->SlAt P st v' z (es.take k):=fun v' hv'=>
   ⟨fun e he=>h.1 e (List.mem_of_mem_take he), .inr ⟨r,o,hp,by rw[hlen];exact hv',l,hl,by rw[hlen];omega,by rw[hlen];exact hfl⟩⟩
  rcases hv with rfl|⟨c,hc,rfl⟩
  ·refine⟨.sl r o k z, ?_,at' _ (.inl rfl),rfl⟩;simp only[jb,Qz,JP,QI];simp;omega
  ·refine⟨.slx r o k z c, ?_,at' _ (.inr ⟨c,by omega,rfl⟩),rfl⟩;simp only[jb,Qz,JP,QI];simp;omega
theorem JnK {P:Pt->Prop}(h:SlAt P st v z es){k:Nat}(hk:k<=es.length):∃v',jb st z v (some (.int .i64 (k:Int))) none none=some (v', .no)/\SlAt P st v' z (es.drop k)/\rowOf v'=rowOf v:=by
 rcases h.2 with⟨rfl,hes⟩|⟨r,o,hp,hv,l,hl,h1,h2⟩
 ·subst hes;have:k=0:=by simpa using hk
  subst this;exact⟨.snil,by simp[jb,Qz,JP,KE],⟨by simp, .inl ⟨rfl,by simp⟩⟩,rfl⟩
 ·have hkz:k*z<=es.length*z:=Nat.mul_le_mul_right _ hk;have hsub:(es.length-k)*z=es.length*z-k*z:=Nat.sub_mul _ _ _;have hlen:(es.drop k).length=es.length-k:=List.length_drop;have hfl:(l.drop (o+k*z)).take ((es.length-k)*z)=(es.drop k).flatten:=by
   have e1:(l.drop (o+k*z)).take ((es.length-k)*z)=es.flatten.drop (k*z):=by
    rw[<-h2,List.drop_take,List.drop_drop,hsub]
   rw[e1]
   conv=>lhs;rw[<-List.take_append_drop k es,List.flatten_append]
   have e2:(es.take k).flatten.length=k*z:=by rw[JF fun e he=>h.1 e (List.mem_of_mem_take he),List.length_take,Nat.min_eq_left hk]
   rw[<-e2,List.drop_left]
  have at':∀v',(v'= .sl r (o+k*z) (es.length-k) z\/∃c,es.length-k<=c/\v'= .slx r (o+k*z) (es.length-k) z c)->SlAt P st v' z (es.drop k):=fun v' hv'=>
   ⟨fun e he=>h.1 e (List.mem_of_mem_drop he), .inr ⟨r,o+k*z,hp,by rw[hlen];exact hv',l,hl,by rw[hlen];omega,by rw[hlen];exact hfl⟩⟩
  rcases hv with rfl|⟨c,hc,rfl⟩
  ·refine⟨.sl r (o+k*z) (es.length-k) z, ?_,at' _ (.inl rfl),rfl⟩;simp only[jb,Qz,JP,QI];simp;omega
  ·refine⟨.slx r (o+k*z) (es.length-k) z (c-k), ?_,at' _ (.inr ⟨c-k,by omega,rfl⟩),rfl⟩;simp only[jb,Qz,JP,QI];simp;omega
end
theorem Jgz (fr:Fr)(a b:Nat):JZ fr [([a],[b])]=(match rowOf (fr a),rowOf (fr b)with
  |some r,some q=>decide (r≠q)
  |_,_=>true):=by
 simp only[JZ,List.all_cons,List.all_nil,Bool.and_true];rfl
theorem Kq {fr:Fr}{a b:Nat}{v w:V}{q:Pt}(ha:fr a=v)(hb:fr b=w)(hw:rowOf w=some q)(h:rowOf v≠some q):JZ fr [([a],[b])]=true:=by
 rw[Jgz,ha,hb,hw]
 cases hv:rowOf v with
 |none=>rfl
 | some r=>
   have:r≠q:=fun e=>h (by rw[hv,e]);simp[this]
theorem Qd {st:St}{z:Nat}{e:List V}(hz:e.length=z):SlAt (fun r=>r=st.nx) (st.new fun t=> .cells t e) (.slx st.nx 0 1 z 1) z [e]:=
 ⟨fun x hx=>by rw[List.mem_singleton.1 hx];exact hz, .inr ⟨st.nx,0,rfl, .inr ⟨1,Nat.le_refl 1,rfl⟩,e, .inl ⟨st.t,JG _ _⟩,by simp[hz],by simp[<-hz]⟩⟩
end Eva
namespace Eva
open Go Go.RowKit
set_option linter.unusedVariables false
set_option maxRecDepth 10000
theorem an {a b:Prop}(x:a)(y:b):a/\b:=⟨x,y⟩
def XX := an (an (an (an (an (an (an (an @Jhi @Jhj) (an @JdS @Jhk)) (an (an @Jr5 @JmO) (an @JdU @JcO))) (an (an (an @Jkh @Jqa) (an @Jki @Jqb)) (an (an @Jkj @JbD) (an @Jb9 (an @Jjo @ko))))) (an (an (an (an @JdV @JdW) (an @JdX @Jkk)) (an (an @JdY @Jfe) (an @Jr6 @Jkl))) (an (an (an @Jkm @Jkn) (an @Jko @Jhm)) (an (an @Jhn @Jqc) (an @Jho (an @Jhp @Jhq)))))) (an (an (an (an (an @Jhr @Jhs) (an @Jht @Jhu)) (an (an @Jhv @Jhw) (an @Jhx @JdZ))) (an (an (an @QH @Jqd) (an @Jff @Jkp)) (an (an @Jd0 @Jkq) (an @Jd1 (an @JmP @JmQ))))) (an (an (an (an @Jkr @Jks) (an @Jfg @Jhy)) (an (an @JmR @Jkt) (an @Jd2 (an @Jqe @Jhz)))) (an (an (an @Jfh @JhA) (an @YH @kI)) (an (an @JhB @Jd3) (an @JmU (an @JhC @JmV))))))) (an (an (an (an (an (an @Jqf @JhD) (an @JmW @JhE)) (an (an @JmX @JhF) (an @Jgo @JhG))) (an (an (an @Jqh @Jqi) (an @JhH @JhI)) (an (an @Jo @Jqj) (an @JmZ (an @Jm0 @JhJ))))) (an (an (an (an @Jqk @Jm1) (an @Jkv @Jql)) (an (an @Jr7 @Jr8) (an @Jkw (an @JhK @Jfi)))) (an (an (an @Jkx @Jm2) (an @Jqm @Jqn)) (an (an @Jqo @Jky) (an @Jkz (an @Jm3 @Jfj)))))) (an (an (an (an (an @Jfk @JhL) (an @Jd4 @Jd5)) (an (an @Jfl @Jfm) (an @JhM @JkA))) (an (an (an @JhN @Jm4) (an @Jm5 @Jm6)) (an (an @Jm7 @JkB) (an @JkC (an @Jm8 @Jm9))))) (an (an (an (an @JkD @JhO) (an @JkE @Jna)) (an (an @Jnb @Jqp) (an @Jqq (an @JkF @JhP)))) (an (an (an @Jnc @Jqr) (an @JkG @JhQ)) (an (an @Jnd @JhR) (an @Jne (an @JhS @JhT)))))))) (an (an (an (an (an (an (an @JhU @JhV) (an @Jqs @Jnf)) (an (an @Jng @JhW) (an @JhX @Jnh))) (an (an (an @JkH @JkI) (an @JkJ @JhY)) (an (an @Jni @Jfn) (an @Jfo (an @JkK @JkL))))) (an (an (an (an @Jnj @JkM) (an @JkN @Jnk)) (an (an @Jnl @Jnm) (an @JkO (an @JhZ @Jh0)))) (an (an (an @JkP @Jfp) (an @JkQ @JkR)) (an (an @JkS @JkT) (an @JbF (an @Bool.false_eq_true @Bool.not_eq_true')))))) (an (an (an (an (an @not_true_eq_false @not_false_eq_true) (an @Int.toNat_natCast @Int.toNat_zero)) (an (an @Int.toNat_one @Nat.zero_add) (an @Nat.add_zero @Nat.one_ne_zero))) (an (an (an @Nat.zero_ne_one @Bool.true_eq_false) (an @Bool.not_true @Bool.not_false)) (an (an @Bool.not_not @decide_true) (an @decide_false (an @true_and @and_true))))) (an (an (an (an @and_self @Nat.mul_one) (an @Jnp @YI)) (an (an @YX @Yn) (an @JcP (an @jE @Kg)))) (an (an (an @Jk @JfA) (an @JfB @JcQ)) (an (an @Jh5 @JfC) (an @Jh6 (an @JfD @Jee))))))) (an (an (an (an (an (an @Jef @Jh7) (an @JfE @JfF)) (an (an @Jeg @Jfu) (an @Jfv @Jec))) (an (an (an @Jfw @Jfx) (an @Jed @Jh3)) (an (an @Jfy @Jfz) (an @Jh4 (an @Jgs @JkY))))) (an (an (an (an @Jgt @Jnt) (an @JkZ @Jqu)) (an (an @Jnu @Jnv) (an @Jqv (an @Jan @jY)))) (an (an (an @Bool.and_self @Bool.and_true) (an @Bool.true_and @Bool.and_false)) (an (an @Bool.false_and @JaN) (an @Jnx (an @Jny @JfG)))))) (an (an (an (an (an @JfH @Jk1) (an @Jnz @Jh2)) (an (an @Jnr @JnA) (an @Jk2 @JfI))) (an (an (an @Jk3 @Nat.le_refl) (an @Jj @Jfq)) (an (an @Jfr @Jh1) (an @Option.map_some.{0,0} (an @Option.map_none.{0,0} (@List.getElem?_cons_zero.{0})))))) (an (an (an (an (@List.getElem?_cons_succ.{0}) (@List.getElem?_nil.{0})) (an @Option.getD_some.{0} @Option.getD_none.{0})) (an (an @if_true.{1} @if_false.{1}) (an @ne_eq.{1} (an @List.nil_append.{0} @List.cons_append.{0})))) (an (an (an @List.length_cons.{0} @List.length_nil.{0}) (an @List.take_succ_cons.{0} @List.take_zero.{0})) (an (an @List.drop_succ_cons.{0} @List.drop_zero.{0}) (an @List.take_nil.{0} (an @List.drop_nil.{0} @List.append_nil.{0}))))))))
def iq (d:Nat)(o:Iop):Ins:=⟨some d,o,none,none⟩
theorem JnL (d:Nat)(o:Iop):iq d o=⟨some d,o,none,none⟩:=of_eq_true (eq_self _)
def ig (d a:Nat)(b:Bool)(o:Iop):Ins:=⟨some d,o,some (a,b),none⟩
theorem JnM (d a:Nat)(b:Bool)(o:Iop):ig d a b o=⟨some d,o,some (a,b),none⟩:=of_eq_true (eq_self _)
def iz (o:Iop):Ins:=⟨none,o,none,none⟩
theorem JnN (o:Iop):iz o=⟨none,o,none,none⟩:=of_eq_true (eq_self _)
def im (d x:Nat):Ins:=⟨some d, .mv (.s x),none,none⟩
theorem JnO (d x:Nat):im d x=⟨some d, .mv (.s x),none,none⟩:=of_eq_true (eq_self _)
def ia (d o x:Nat):Ins:=⟨some d, .faddr o (.s x),none,none⟩
theorem JnP (d o x:Nat):ia d o x=⟨some d, .faddr o (.s x),none,none⟩:=of_eq_true (eq_self _)
def il (d x:Nat):Ins:=⟨some d, .load1 (.s x),none,none⟩
theorem JnQ (d x:Nat):il d x=⟨some d, .load1 (.s x),none,none⟩:=of_eq_true (eq_self _)
def ie (d n x:Nat):Ins:=⟨some d, .ext n (.s x),none,none⟩
theorem JnR (d n x:Nat):ie d n x=⟨some d, .ext n (.s x),none,none⟩:=of_eq_true (eq_self _)
def ik (d:Nat)(n:Int):Ins:=⟨some d, .mv (.c (.int .i64 n)),none,none⟩
theorem JnS (d:Nat)(n:Int):ik d n=⟨some d, .mv (.c (.int .i64 n)),none,none⟩:=of_eq_true (eq_self _)
def sr (l:List Ins)(c:C):C:= .seq (.reg l) c
theorem JnT (l:List Ins)(c:C):sr l c= .seq (.reg l) c:=of_eq_true (eq_self _)
def ci (n:Int):Opd:= .c (.int .i64 n)
theorem JnU (n:Int):ci n= .c (.int .i64 n):=of_eq_true (eq_self _)
theorem XI :type_of%(an (an @JnL (an @JnM @JnN)) (an (an @JnO @JnP) (an (an @JnQ (an @JnR @JnS)) (an @JnT @JnU)))):=an (an @JnL (an @JnM @JnN)) (an (an @JnO @JnP) (an (an @JnQ (an @JnR @JnS)) (an @JnT @JnU)))
theorem XN :type_of%(an XX XI):=an XX XI
theorem XM :type_of%(an XN (an @Jb @Je)):=an XN (an @Jb @Je)
theorem XY :type_of%(an XN @KL):=an XN @KL
theorem XZ :type_of%(an XM @KL):=an XM @KL
end Eva
