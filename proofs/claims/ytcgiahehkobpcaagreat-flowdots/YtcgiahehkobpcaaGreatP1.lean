/- 'SubWidth', plainly. 'SubUnions', plainly. Two unions under way, in memory. What types  -/
import Derived.Test.YtcgiahehkobpcaaGreatEvd9
import Derived.ChangeArms
set_option linter.unusedVariables false
set_option linter.unusedSimpArgs false
set_option linter.unusedSectionVars false
set_option maxRecDepth 100000
namespace Eva
open Go Go.RowKit
def tb0 :Tb:=⟨[⟨2,[],[],[]⟩],[],0,[]⟩
abbrev ndI :Nd:=⟨2,[],[],[]⟩
abbrev ndU (l:List Str)(k:Nat):Nd:=⟨8,[],l,List.replicate l.length k⟩
abbrev tyI :Ty:= .mk 2 [] [] []
abbrev tyU (l:List Str)(t:Ty):Ty:= .mk 8 [] l (List.replicate l.length t)
theorem Jcq {t:Ty}{tb:Tb}{i:Nat}{c:Int}(hc:0<=c)(h:∀left,c<=left->addT t left tb=(tb,i,0,left-c)):∀(m:Nat) (left:Int),m*c<=left->addTs (List.replicate m t) left tb=(tb,List.replicate m i,0,left-m*c)
 |0,left,_=>by rw[List.replicate_zero,Qw];simp
 | m+1,left,hl=>by
   have hm:((m+1:Nat):Int)*c=m*c+c:=by push_cast;rw[Int.add_mul,Int.one_mul]
   have h0:(0:Int)<=m*c:=Int.mul_nonneg (by omega) hc;rw[hm]at hl⊢;rw[List.replicate_succ,Qe,h left (by omega)];simp only[ne_eq,not_true_eq_false,if_false];rw[Jcq hc h m (left-c) (by omega)];simp only[List.replicate_succ];congr 3;omega
theorem Jkr {t:Ty}{tb tb':Tb}{i:Nat}{c:Int}(hc:0<=c)(h1:∀left,c<=left->addT t left tb=(tb',i,0,left-c))(h:∀left,c<=left->addT t left tb'=(tb',i,0,left-c))(m:Nat)(left:Int)(hl:(m+1:Nat)*c<=left):addTs (List.replicate (m+1) t) left tb=(tb',List.replicate (m+1) i,0,left-(m+1:Nat)*c):=by
 have hm:((m+1:Nat):Int)*c=m*c+c:=by push_cast;rw[Int.add_mul,Int.one_mul]
 have h0:(0:Int)<=m*c:=Int.mul_nonneg (by omega) hc;rw[hm]at hl⊢;rw[List.replicate_succ,Qe,h1 left (by omega)];simp only[ne_eq,not_true_eq_false,if_false];rw[Jcq hc h m (left-c) (by omega)];simp only[List.replicate_succ];congr 3;omega
theorem nI {tb:Tb}{r:List Nd}(hr:tb.nodes=ndI::r)(left:Int)(hl:1<=left):addT tyI left tb=(tb,0,0,left-1):=by
 rw[Q7,if_neg (by simp;omega),Qw];simp[layS,hr,idx]
theorem nI0 (left:Int)(hl:1<=left):addT tyI left emptyTb=(⟨[ndI],[],0,[]⟩,0,0,left-1):=by
 rw[Q7,if_neg (by simp;omega),Qw];simp[layS,emptyTb,idx]
theorem nX {xs:List Str}(h0:xs≠[])(h8:xs.length<=8):addT (tyU xs tyI) 400 emptyTb=((⟨[ndI,ndU xs 0],[],0,[]⟩:Tb),1,0,399-(xs.length:Int)):=by
 obtain⟨m,hm⟩:∃m,xs.length=m+1:=⟨xs.length-1,by have:=List.length_pos_iff.2 h0;omega⟩
 rw[Q7,if_neg (by simp;omega),hm,Jkr (tb:=emptyTb) (tb':=⟨[ndI],[],0,[]⟩) (i:=0) (c:=1) (by omega) nI0 (nI (tb:=⟨[ndI],[],0,[]⟩) (r:=[]) rfl) m _ (by omega)];simp only[ne_eq,not_true_eq_false,if_false];simp[layS,idx,hm]
theorem nY {xs ys:List Str}(h0:ys≠[])(h8:ys.length<=8):addT (tyU ys tyI) 400 ⟨[ndI,ndU xs 0],[],1,[]⟩=if ys=xs then(⟨[ndI,ndU xs 0],[],1,[]⟩,1,0,399-(ys.length:Int))else(⟨[ndI,ndU xs 0,ndU ys 0],[],1,[]⟩,2,0,399-(ys.length:Int)):=by
 rw[Q7,if_neg (by simp;omega),Jcq (c:=1) (by omega) (nI (tb:=⟨[ndI,ndU xs 0],[],1,[]⟩) rfl) ys.length _ (by omega)];simp only[ne_eq,not_true_eq_false,if_false];have h1:¬(ndU ys 0=ndI):=fun e=>by have:=congrArg Nd.kind e;cases this
 by_cases h:ys=xs
 ·subst h;simp[layS,idx]
 ·have h2:¬(ndU ys 0=ndU xs 0):=fun e=>h (by have:=congrArg Nd.names e;exact this);have h3:idx (ndU ys 0) [ndI,ndU xs 0] 0=none:=by simp only[idx,if_neg h1,if_neg h2]
  simp only[layS,h3,if_neg h];simp
theorem Ji3 (tb:Tb)(f:Nat)(was:Was)(a:Nat):fitsS tb (f+1) was a a=some (true,was):=by rw[fitsS,if_pos (.inl rfl)]
theorem Jab {S0 st:St}{v:V}{z:Nat}{es:List (List V)}{P:Pt->Prop}{vx:V}{xs:List (List V)}(hg:Gr S0 st)(h:SlF S0 st v z es)(hx:SlAt P st vx z xs)(hok:okC xs)(h0:xs≠[])(hn:xs.length<2^20)(hn2:es.length+xs.length<=2^24){R:V->St->Prop}
  (k:∀S' v',Gr S0 S'->SlF S0 S' v' z (es++xs)->rowOf v'=some st.nx->(∀p,st.row p≠ .none->rowOf v≠some p->S'.row p=st.row p)->R v' S'):wW (appV st z v vx) st R:=by
 have h0:¬xs.length=0:=fun e=>h0 (List.length_eq_zero_iff.1 e);have happ:appV st z v vx=JV st z xs.length xs.flatten v:=by
  unfold appV;rw[hx.slen];simp only[hx.all];rw[if_pos ⟨hn,hok.flat⟩]
 have hz:∀e∈es++xs,e.length=z:=fun e he=>by
  rcases List.mem_append.1 he with he|he
  ·exact h.1 e he
  ·exact hx.1 e he
 rw[happ];have w:=hg.wf;rcases h.2 with⟨rfl,hes⟩|⟨r,t,h2,h3,h4⟩
 ·have e1:JV st z xs.length xs.flatten .snil=some (.sl st.nx 0 xs.length z, .new fun t=> .cells t xs.flatten):=by
   unfold JV;rw[if_neg h0]
  rw[e1];subst hes;refine k (st.new fun t=> .cells t xs.flatten) _ (hg.nn (Ja _)) ⟨hz, .inr ⟨st.nx,st.t,hg.fresh,by rw[Ka];simp, .inl (by simp)⟩⟩ rfl fun p hp _=>Q6 w _ hp
 ·have hfl:=JC h.1;have hle:0+es.length*z<=es.flatten.length:=by omega
  have htk:(es.flatten.drop 0).take (es.length*z)=es.flatten:=by rw[List.drop_zero,<-hfl,List.take_length]
  rcases h4 with rfl|rfl
  ·have e1:JV st z xs.length xs.flatten (.sl r 0 es.length z)=some (.sl st.nx 0 (es.length+xs.length) z, .dn r t fun u=> .cells u (es.flatten++xs.flatten)):=by
    unfold JV;rw[if_neg h0];simp only[h3];rw[if_neg (by simp;omega),if_pos hle,htk]
   rw[e1];refine k ((st.wr r t .dead).new fun u=> .cells u (es.flatten++xs.flatten)) _ (hg.dn h2 (by rw[h3];exact fun e=>by cases e) (by rw[h3];rfl) (Ja _)) ⟨hz, .inr ⟨st.nx,st.t+1,hg.fresh, ?_, .inl (by simp)⟩⟩ rfl fun p hp hne=> ?_
   ·rw[List.flatten_append];exact Ka (st.wr r t .dead) _
   ·have hpr:p≠r:=fun e=>hne (by rw[e];rfl);have hw2:WF (st.wr r t .dead):=(YR w (by rw[h3];exact fun e=>by cases e) (by rw[h3];rfl) fun u=>⟨rfl,fun e=>by cases e⟩).wf;rw[Q6 hw2 _ (by rw[JR _ _ _ hpr];exact hp),JR _ _ _ hpr]
  ·have e1:JV st z xs.length xs.flatten (.slx r 0 es.length z es.length)=some (.sl st.nx 0 (es.length+xs.length) z, .new fun u=> .cells u (es.flatten++xs.flatten)):=by
    unfold JV;rw[if_neg h0];simp only[h3];rw[if_neg (by simp;omega),if_pos hle,if_neg (by omega),htk]
   rw[e1];refine k (st.new fun u=> .cells u (es.flatten++xs.flatten)) _ (hg.nn (Ja _)) ⟨hz, .inr ⟨st.nx,st.t,hg.fresh, ?_, .inl (by simp)⟩⟩ rfl fun p hp _=>Q6 w _ hp;rw[List.flatten_append];exact Ka st _
def OwnF (S:St)(f:Nat->V):Prop:=(∀i r,rowOf (f i)=some r->S.row r≠ .none)/\∀i j r,i≠j->rowOf (f i)=some r->rowOf (f j)≠some r
def setF (f:Nat->V)(k:Nat)(v:V):Nat->V:=fun i=>if i=k then v else f i
theorem Jhj (f:Nat->V)(k:Nat)(v:V):setF f k v k=v:=if_pos rfl
theorem JdC (f:Nat->V){k i:Nat}(v:V)(h:i≠k):setF f k v i=f i:=if_neg h
def intW :List V:=[.int .i64 2,ofL [], .snil, .snil]
def kidW (wd:Bool)(f:Nat->V)(i:Nat):List V:=if wd=true then[.int .i64 6,ofL [], .snil,f (8+i)]else intW
structure UI (S1:St) (wd:Bool) (o x y:Pt) (S:St) (f:Nat->V) (xs:List Str) (n:Nat) (ys:List Str) (m:Nat) (cx cy:List V):Prop where
 gr:Gr S1 S
 own:OwnF S f
 eo:f 4= .ptr o 0
 ex:f 5= .ptr x 0
 ey:f 6= .ptr y 0
 fo:S1.row x= .none/\S1.row y= .none
 ro:∃t,S.row o= .cells t intW
 rx:∃t,S.row x= .cells t cx
 ry:∃t,S.row y= .cells t cy
 nx:SlF S1 S (f 0) 1 (strs xs)
 kx:SlF S1 S (f 1) 4 (List.replicate n intW)
 ny:SlF S1 S (f 2) 1 (strs ys)
 ky:SlF S1 S (f 3) 4 ((List.range m).map (kidW wd f))
 kids:wd=true->∀i,i<m->SlF S1 S (f (8+i)) 4 [intW]
section
variable {S1 S S' : St} {wd : Bool} {o x y : Pt} {f : Nat -> V} {xs ys : List Str} {n m : Nat} {cx cy : List V}
theorem SlF.some {S0 st:St}{v:V}{z:Nat}{es:List (List V)}(h:SlF S0 st v z es){r:Pt}(hr:rowOf v=some r):st.row r≠ .none:=by
 obtain⟨_,t,e⟩:=h.row hr;exact Jd e
theorem UI.same (h:UI S1 wd o x y S f xs n ys m cx cy)(g:Gr S1 S')(k:∀p,S.row p≠ .none->S'.row p=S.row p):UI S1 wd o x y S' f xs n ys m cx cy:=by
 have ks:∀{v:V} {z:Nat} {es:List (List V)},SlF S1 S v z es->SlF S1 S' v z es:=fun hs=>hs.keep fun r hr=>k r (hs.some hr);have kr:∀{p:Pt} {c:List V},(∃t,S.row p= .cells t c)->∃t,S'.row p= .cells t c:=fun⟨t,e⟩=>⟨t,by rw[k _ (Jd e),e]⟩
 exact{h with gr:=g,own:=⟨fun i r hr=>by rw[k r (h.own.1 i r hr)];exact h.own.1 i r hr,h.own.2⟩,ro:=kr h.ro,rx:=kr h.rx,ry:=kr h.ry,nx:=ks h.nx,kx:=ks h.kx,ny:=ks h.ny,ky:=ks h.ky,kids:=fun a i b=>ks (h.kids a i b)}
theorem OwnF.set {k:Nat}{v':V}(h:OwnF S f)(hf:∀r,rowOf v'=some r->S.row r= .none/\S'.row r≠ .none)(keep:∀p,S.row p≠ .none->rowOf (f k)≠some p->S'.row p=S.row p):OwnF S' (setF f k v'):=by
 refine⟨fun i r hr=> ?_,fun i j r hij hi hj=> ?_⟩
 ·by_cases e:i=k
  ·subst e;rw[Jhj]at hr;exact(hf r hr).2
  ·rw[JdC _ _ e]at hr;rw[keep r (h.1 i r hr) (h.2 i k r e hr)];exact h.1 i r hr
 ·by_cases e:i=k
  ·subst e;rw[Jhj]at hi;rw[JdC _ _ (fun e=>hij e.symm)]at hj;exact h.1 j r hj (hf r hi).1
  ·rw[JdC _ _ e]at hi;by_cases e2:j=k
   ·subst e2;rw[Jhj]at hj;exact h.1 i r hi (hf r hj).1
   ·rw[JdC _ _ e2]at hj;exact h.2 i j r hij hi hj
section
variable {v' : V} (h : UI S1 wd o x y S f xs n ys m cx cy) (g : Gr S1 S') (hf : ∀ r, rowOf v' = some r -> S.row r = .none /\ S'.row r ≠ .none)
include h g hf
end
theorem UI.ne {i j:Nat}{p q:Pt}(h:UI S1 wd o x y S f xs n ys m cx cy)(hij:i≠j)(hi:f i= .ptr p 0)(hj:f j= .ptr q 0):p≠q:=fun e=>h.own.2 i j p hij (by rw[hi];rfl) (by rw[hj,e];rfl)
theorem UI.wx (h:UI S1 wd o x y S f xs n ys m cx cy){t:Nat}(ht:S.row x= .cells t cx)(c:List V):UI S1 wd o x y (S.wr x t fun u=> .cells u c) f xs n ys m c cy:=by
 have old:∀p,p≠x->(S.wr x t fun u=> .cells u c).row p=S.row p:=fun p hp=>JR _ _ _ hp;have hx:∀{i r},i≠5->rowOf (f i)=some r->r≠x:=fun{i r} hi hr e=>h.own.2 i 5 r hi hr (by rw[h.ex,e];rfl);have ks:∀{i:Nat} {z:Nat} {es:List (List V)},i≠5->SlF S1 S (f i) z es->SlF S1 (S.wr x t fun u=> .cells u c) (f i) z es:=fun hi hs=>hs.keep fun r hr=>old r (hx hi hr);have kr:∀{i:Nat} {p:Pt} {c':List V},i≠5->f i= .ptr p 0->(∃t,S.row p= .cells t c')->∃t',(S.wr x t fun u=> .cells u c).row p= .cells t' c':=fun hi hp ⟨t',e⟩=>⟨t',by rw[old _ (hx hi (by rw[hp];rfl)),e]⟩
 exact{h with gr:=h.gr.wr h.fo.1 (Jd ht) (by rw[ht];rfl) (Ja _),own:=⟨fun i r hr=>by
  by_cases e:r=x
  ·rw[e,J7];exact fun e=>by cases e
  ·rw[old r e];exact h.own.1 i r hr,h.own.2⟩,ro:=kr (by decide) h.eo h.ro,rx:=⟨_,J7 _ _ _ _⟩,ry:=kr (by decide) h.ey h.ry,nx:=ks (by decide) h.nx,kx:=ks (by decide) h.kx,ny:=ks (by decide) h.ny,ky:=ks (by decide) h.ky,kids:=fun w i hi=>ks (by omega) (h.kids w i hi)}
theorem UI.wy (h:UI S1 wd o x y S f xs n ys m cx cy){t:Nat}(ht:S.row y= .cells t cy)(c:List V):UI S1 wd o x y (S.wr y t fun u=> .cells u c) f xs n ys m cx c:=by
 have old:∀p,p≠y->(S.wr y t fun u=> .cells u c).row p=S.row p:=fun p hp=>JR _ _ _ hp;have hx:∀{i r},i≠6->rowOf (f i)=some r->r≠y:=fun{i r} hi hr e=>h.own.2 i 6 r hi hr (by rw[h.ey,e];rfl);have ks:∀{i:Nat} {z:Nat} {es:List (List V)},i≠6->SlF S1 S (f i) z es->SlF S1 (S.wr y t fun u=> .cells u c) (f i) z es:=fun hi hs=>hs.keep fun r hr=>old r (hx hi hr);have kr:∀{i:Nat} {p:Pt} {c':List V},i≠6->f i= .ptr p 0->(∃t,S.row p= .cells t c')->∃t',(S.wr y t fun u=> .cells u c).row p= .cells t' c':=fun hi hp ⟨t',e⟩=>⟨t',by rw[old _ (hx hi (by rw[hp];rfl)),e]⟩
 exact{h with gr:=h.gr.wr h.fo.2 (Jd ht) (by rw[ht];rfl) (Ja _),own:=⟨fun i r hr=>by
  by_cases e:r=y
  ·rw[e,J7];exact fun e=>by cases e
  ·rw[old r e];exact h.own.1 i r hr,h.own.2⟩,ro:=kr (by decide) h.eo h.ro,rx:=kr (by decide) h.ex h.rx,ry:=⟨_,J7 _ _ _ _⟩,nx:=ks (by decide) h.nx,kx:=ks (by decide) h.kx,ny:=ks (by decide) h.ny,ky:=ks (by decide) h.ky,kids:=fun w i hi=>ks (by omega) (h.kids w i hi)}
end
section
variable {S1 S S' : St} {wd : Bool} {o x y : Pt} {f : Nat -> V} {xs ys : List Str} {n m : Nat} {cx cy : List V}
end
theorem Jhk (fr:Fr)(p q:List Nat×List Nat):Ky fr [p,q]=(Ky fr [p]&&Ky fr [q]):=by simp only[Ky,List.all_cons,List.all_nil,Bool.and_true]
theorem jD {fr:Fr}{p q:List Nat×List Nat}(h1:Ky fr [p]=true)(h2:Ky fr [q]=true):Ky fr [p,q]=true:=by rw[Jhk,h1,h2];rfl
theorem UI.apart {S1 S:St}{wd:Bool}{o x y:Pt}{f:Nat->V}{xs ys:List Str}{n m:Nat}{cx cy:List V}(h:UI S1 wd o x y S f xs n ys m cx cy)(i j:Nat)(hij:i≠j){p:Pt}{k:Nat}(hj:f j= .ptr p k):rowOf (f i)≠some p:=fun e=>h.own.2 i j p hij e (by rw[hj];rfl)
inductive Rw where
 |mk (kind n:Int) (names:List Int) (kids:List Rw)
 deriving Inhabited
def Rw.kind :Rw->Int| .mk k _ _ _=>k
def Rw.n :Rw->Int| .mk _ n _ _=>n
def Rw.names :Rw->List Int| .mk _ _ l _=>l
def Rw.kids :Rw->List Rw| .mk _ _ _ l=>l
def In64 (z:Int):Prop:= -9223372036854775808<=z/\z<9223372036854775808
def cellsI (l:List Int):List (List V):=l.map fun z=>[V.int .i64 z]
inductive RwC (P:Pt->Prop) (st:St):List V->Rw->Prop
 | mk {k n:Int} {zs:List Int} {ks:List Rw} {nv kv:V} {es:List (List V)} (hk:In64 k) (hn:In64 n) (hz:∀z∈zs,In64 z) (h1:SlAt P st nv 1 (cellsI zs)) (h2:SlAt P st kv 4 es) (h3:es.length=ks.length) (hl:zs.length<2^63/\ks.length<2^63) (h4:∀i (h:i<es.length) (h':i<ks.length),RwC P st es[i] ks[i]):
   RwC P st [.int .i64 k, .int .i64 n,nv,kv] (.mk k n zs ks)
section
variable {P Q : Pt -> Prop} {st st' : St} {e : List V} {r : Rw}
theorem RwC.imp (h:RwC P st e r)(k:∀r,P r->st.row r≠ .none->Q r/\st'.row r=st.row r):RwC Q st' e r:=by
 induction h with
 |mk hk hn hz h1 h2 h3 hl h4 ih=>exact .mk hk hn hz (h1.imp k) (h2.imp k) h3 hl ih
theorem RwC.gr (h:RwC P st e r)(g:Gr st st'):RwC P st' e r:=h.imp fun r p e=>⟨p,g.same r e⟩
theorem RwC.inv (h:RwC P st e r):∃nv kv es,e=[.int .i64 r.kind, .int .i64 r.n,nv,kv]/\In64 r.kind/\In64 r.n/\(∀z∈r.names,In64 z)/\SlAt P st nv 1 (cellsI r.names)/\SlAt P st kv 4 es/\es.length=r.kids.length/\(r.names.length<2^63/\r.kids.length<2^63)/\∀i (h:i<es.length) (h':i<r.kids.length),RwC P st es[i] r.kids[i]:=by
 cases h with
 |mk hk hn hz h1 h2 h3 hl h4=>exact⟨_,_,_,rfl,hk,hn,hz,h1,h2,h3,hl,h4⟩
theorem RwC.len (h:RwC P st e r):e.length=4:=by cases h;rfl
end
def placeS (n:Str):List Str->Nat
 |[]=>0
 |a::r=>if Op.bytesLess a n=true then placeS n r+1 else 0
theorem Jgs (n:Str):∀l,placeS n l<=l.length
 |[]=>Nat.le_refl _
 | a::r=>by
   rw[placeS];have:=Jgs n r
   split
   ·simp;omega
   ·omega
theorem Jgt (n:Str):∀(l:List Str) (i:Nat) (h:i<l.length),i<placeS n l->Op.bytesLess l[i] n=true
 | a::r,i,h,hi=>by
   rw[placeS]at hi
   split at hi
   ·cases i with
    |zero=>assumption
    |succ i=>exact Jgt n r i (by simpa using h) (by omega)
   ·omega
def putS (t:Ty)(n:Str)(x:Ty):Ty:=
 if t.names[placeS n t.names]? =some n then t else .mk t.kind t.name (t.names.take (placeS n t.names)++n::t.names.drop (placeS n t.names)) (t.kids.take (placeS n t.names)++x::t.kids.drop (placeS n t.names))
theorem JdD {S0 st:St}{v:V}{z:Nat}{es:List (List V)}{P:Pt->Prop}{vx:V}{xs:List (List V)}(hg:Gr S0 st)(h:SlF S0 st v z es)(hx:SlAt P st vx z xs)(hok:okC xs)(hn:xs.length<2^20)(hn2:es.length+xs.length<=2^24){R:V->St->Prop}
  (k:∀S' v',Gr S0 S'->SlF S0 S' v' z (es++xs)->(rowOf v'=rowOf v\/rowOf v'=some st.nx)->(∀p,st.row p≠ .none->rowOf v≠some p->S'.row p=st.row p)->R v' S'):wW (appV st z v vx) st R:=by
 by_cases h0:xs=[]
 ·subst h0;have happ:appV st z v vx=JV st z 0 [] v:=by
   unfold appV;rw[hx.slen];simp only[hx.all];rw[if_pos ⟨hn,hok.flat⟩];rfl
  have e1:JV st z 0 [] v=some (v, .no):=by
   have hs:(slen v).isSome=true:=by rw[h.at.slen];rfl
   unfold JV;rw[if_pos rfl,if_pos hs]
  rw[happ,e1];exact k st v hg (by rw[List.append_nil];exact h) (.inl rfl) fun _ _ _=>rfl
 ·exact Jab hg h hx hok h0 hn hn2 fun S' v' a b c d=>k S' v' a b (.inr c) d
theorem tmodC (a:Int){n:Int}(h0:0<n):(¬a.tmod n<0/\a.tmod n=a%n)\/(a.tmod n<0/\a.tmod n+n=a%n):=by
 have e1:=Int.emod_nonneg a (show n≠0 by omega);have e2:=Int.emod_lt_of_pos a h0;have e3:=Int.tmod_eq_emod (a:=a) (b:=n);have e4:(n.natAbs:Int)=n:=by omega
 by_cases c:0<=a\/n∣a
 ·rw[if_pos c]at e3;left;omega
 ·rw[if_neg c]at e3;right;have:a%n≠0:=fun h=>c (.inr (Int.dvd_of_emod_eq_zero h));omega
theorem JM {T:Table}{lf:Nat}{c:C}{fr:Fr}{S:St}{Q:Out->Prop}(h:∀S',S'=S->wC T lf c fr S' Q):wC T lf c fr S Q:=h S rfl
structure Rn where
 f:Pt->Pt
 s:Nat->V
instance : CoeFun Rn fun _=>Pt->Pt:=⟨Rn.f⟩
def Rn.ok (φ:Rn):Prop:=∀i,∃k n,φ.s i= .int k n
mutual
def mv (φ:Rn):V->V
 | .ptr r o=> .ptr (φ r) o
 | .sl r o n z=> .sl (φ r) o n z
 | .slx r o n z c=> .slx (φ r) o n z c
 | .map r=> .map (φ r)
 | .fn f a b=> .fn f (mvs φ a) (mvs φ b)
 | .agg l=> .agg (mvs φ l)
 | .tup l=> .tup (mvs φ l)
 | .bool b=> .bool b
 | .int k n=> .int k n
 | .im c m=> .im c m
 | .str n v=> .str n v
 | .pnil=> .pnil
 | .snil=> .snil
 | .mnil=> .mnil
 | .fnil=> .fnil
 | .any=> .any
 | .opq i=>φ.s i
def mvs (φ:Rn):List V->List V
 |[]=>[]
 |x::r=>mv φ x::mvs φ r
end
mutual
def closed :V->Bool
 | .ptr _ _=>false
 | .sl _ _ _ _=>false
 | .slx _ _ _ _ _=>false
 | .map _=>false
 | .fn _ a b=>closeds a&&closeds b
 | .agg l=>closeds l
 | .tup l=>closeds l
 | .opq _=>false
 |_=>true
def closeds :List V->Bool
 |[]=>true
 |x::r=>closed x&&closeds r
end
section
variable (φ : Rn)
theorem QJ :∀l:List V,mvs φ l=l.map (mv φ)
 |[]=>by rw[mvs];rfl
 |x::r=>by rw[mvs,QJ r];rfl
mutual
theorem KU :∀v:V,closed v=true->mv φ v=v
 | .ptr _ _,h=>by simp[closed]at h
 | .sl _ _ _ _,h=>by simp[closed]at h
 | .slx _ _ _ _ _,h=>by simp[closed]at h
 | .map _,h=>by simp[closed]at h
 | .fn _ a b,h=>by
   rw[closed,Bool.and_eq_true]at h;rw[mv,Y6 a h.1,Y6 b h.2]
 | .agg l,h=>by rw[closed]at h;rw[mv,Y6 l h]
 | .tup l,h=>by rw[closed]at h;rw[mv,Y6 l h]
 | .bool _,_=>by rw[mv]
 | .int _ _,_=>by rw[mv]
 | .im _ _,_=>by rw[mv]
 | .str _ _,_=>by rw[mv]
 | .pnil,_=>by rw[mv]
 | .snil,_=>by rw[mv]
 | .mnil,_=>by rw[mv]
 | .fnil,_=>by rw[mv]
 | .any,_=>by rw[mv]
 | .opq _,h=>by simp[closed]at h
theorem Y6 :∀l:List V,closeds l=true->mvs φ l=l
 |[],_=>by rw[mvs]
 | x::r,h=>by
   rw[closeds,Bool.and_eq_true]at h;rw[mvs,KU x h.1,Y6 r h.2]
end
theorem kQ (l:List V)(h:closeds l=true):l.map (mv φ)=l:=by rw[<-QJ,Y6 φ l h]
section
variable (hφ : φ.ok)
include hφ
theorem JtP (v:V):(mv φ v).sc=v.sc:=by
 cases v<;>first
  |(simp[mv,V.sc];done)
  |(rename_i i;obtain⟨k,n,e⟩:=hφ i;simp[mv,V.sc,e])
theorem JeA (v:V):(mv φ v).cells=v.cells.map fun l=>l.map (mv φ):=by
 cases v<;>first
  |(simp[mv,V.cells,QJ];done)
  |(rename_i i;obtain⟨k,n,e⟩:=hφ i;simp[mv,V.cells,e])
theorem JbN (l:List V):allSc (l.map (mv φ))=allSc l:=by
 unfold allSc
 induction l with
 |nil=>rfl
 |cons x r ih=>simp only[List.map_cons,List.all_cons,ih,JtP φ hφ]
theorem Ji4 (v:V):rowOf (mv φ v)=(rowOf v).map φ:=by
 cases v<;>first
  |(simp[mv,rowOf];done)
  |(rename_i i;obtain⟨k,n,e⟩:=hφ i;simp[mv,rowOf,e])
theorem Jac (v:V):slen (mv φ v)=slen v:=by
 cases v<;>first
  |(simp[mv,slen];done)
  |(rename_i i;obtain⟨k,n,e⟩:=hφ i;simp[mv,slen,e])
end
theorem JoD (hφ:φ.ok)(v:V):slenX (mv φ v)=slenX v:=by
 cases v<;>first
  |(simp[mv,slenX,slen];done)
  |(rename_i i;obtain⟨k,n,e⟩:=hφ i;simp[mv,slenX,slen,e])
theorem YV {v:V}{n:Nat}(h:natOf v=some n):natOf (mv φ v)=some n:=by
 cases v<;>first
  |(cases h;done)
  |(rw[mv];exact h)
theorem Ys {d:Nat}{o:Option V}{n:Nat}(h:optNat d o=some n):optNat d (o.map (mv φ))=some n:=by
 cases o with
 |none=>exact h
 |some v=>exact YV φ h
theorem Jc9 :∀{l:List V} {n:Nat},Ye l=some n->Ye (l.map (mv φ))=some n
 |[],n,h=>h
 | x::r,n,h=>by
   cases x<;>first|(cases h;done)|skip
   rename_i k m
   simp only[List.map_cons,mv]
   cases k<;>first|(cases h;done)|skip
   simp only[Ye]at h⊢
   split at h
   ·rename_i c
    rw[if_pos c]
    cases hr:Ye r with
    |none=>rw[hr]at h;cases h
    |some w=>rw[hr]at h;rw[Jc9 hr];exact h
   ·cases h
theorem Jcr (l:List V)(o:Nat)(vs:List V):(splice l o vs).map (mv φ)=splice (l.map (mv φ)) o (vs.map (mv φ)):=by
 simp[splice,List.map_take,List.map_drop]
theorem JeB (hφ:φ.ok):∀(ps:List (Nat×Nat×V)) (z:List V),fillL (z.map (mv φ)) (ps.map fun p=>(p.1,p.2.1,mv φ p.2.2))=(fillL z ps).map fun l=>l.map (mv φ)
 |[],z=>rfl
 | (o,n,v)::r,z=>by
   simp only[List.map_cons,fillL,JeA φ hφ]
   cases v.cells with
   |none=>rfl
   | some vs=>
     simp only[Option.map_some,List.length_map,<-Jcr,JeB hφ r]
     split<;>rfl
theorem Jks {k:KD}{x y:V}{b:Bool}(h:keq k x y=some b):keq k (mv φ x) (mv φ y)=some b:=by
 cases x<;>cases y<;>first
  |(cases k<;>cases h;done)
  |(cases k<;>first|(cases h;done)|(simp only[mv];exact h))
theorem JlW :∀{ks:List KD} {xs ys:List V} {b:Bool},keqs ks xs ys=some b->keqs ks (xs.map (mv φ)) (ys.map (mv φ))=some b
 |[],[],[],b,h=>h
 |[],[],_::_,b,h=>by simp[keqs]at h
 |[],_::_,_,b,h=>by simp[keqs]at h
 |_::_,[],_,b,h=>by simp[keqs]at h
 |_::_,_::_,[],b,h=>by simp[keqs]at h
 | k::ks,x::xs,y::ys,b,h=>by
   simp only[List.map_cons,keqs]at h⊢
   split at h
   ·rename_i he;rw[Jks φ he];exact JlW h
   ·rename_i he;rw[Jks φ he];exact h
   ·cases h
theorem JlX {e:EK}{x y:V}{b:Bool}(h:e.eq x y=some b):e.eq (mv φ x) (mv φ y)=some b:=by
 cases e with
 |one k=>exact Jks φ h
 | many ks=>
   cases x<;>first|(cases h;done)|skip
   cases y<;>first|(cases h;done)|skip
   simp only[EK.eq,mv,QJ,List.length_map]at h⊢
   split at h
   ·rename_i c;rw[if_pos c];exact JlW φ h
   ·cases h
theorem Jkt {e:EK}{x:V}(h:e.fit x=true):e.fit (mv φ x)=true:=by
 cases e with
 |one k=>rfl
 | many ks=>
   cases x<;>first|(cases h;done)|skip
   simpa[EK.fit,mv,QJ]using h
theorem Jqy {e:EK}{x:V}(h:e.refl x=true):e.refl (mv φ x)=true:=by
 unfold EK.refl at h⊢
 split at h
 ·rename_i he;rw[JlX φ he]
 ·cases h
def mv2 (p:V×V):V×V:=(mv φ p.1,mv φ p.2)
theorem JbO {e:EK}{k:V}:∀{es:List (V×V)} {i:Nat} {o:Option (Nat×V)},findK e k es i=some o->findK e (mv φ k) (es.map (mv2 φ)) i=some (o.map fun p=>(p.1,mv φ p.2))
 |[],i,o,h=>by injection h with h;subst h;rfl
 | (x,v)::r,i,o,h=>by
   simp only[List.map_cons,findK,mv2]at h⊢
   split at h
   ·rename_i he;injection h with h;subst h;rw[JlX φ he];rfl
   ·rename_i he;rw[JlX φ he];exact JbO h
   ·cases h
theorem JoE {op:BinOp}{x y v:V}(h:arith op x y=some v):arith op (mv φ x) (mv φ y)=some (mv φ v):=by
 have hv:mv φ v=v:=by
  apply KU;unfold arith at h
  repeat' split at h
  all_goals first
   |cases h;done
   |(injection h with h;subst h;rfl)
 rw[hv]
 cases x<;>cases y<;>first
  |exact h
  |exact absurd h (by simp[arith])
end
def TR (i0 i t u:Nat):Prop:=(t<i0/\u<i)\/∃k,t=i0+k/\u=i+k
theorem TR.lt {i0 i t u s w:Nat}(h:TR i0 i t u)(k:∃k,s=i0+k/\w=i+k):t<s<->u<w:=by
 obtain⟨j,rfl,rfl⟩:=k;rcases h with⟨h1,h2⟩|⟨m,rfl,rfl⟩<;>omega
theorem TR.min {i0 i t u l m:Nat}(h:TR i0 i t u)(k:TR i0 i l m):TR i0 i (if t<l then t else l) (if u<m then u else m):=by
 rcases h with⟨h1,h2⟩|⟨a,rfl,rfl⟩<;>rcases k with⟨k1,k2⟩|⟨c,rfl,rfl⟩
 ·left;constructor<;>split<;>omega
 ·left;constructor<;>split<;>omega
 ·left;constructor<;>split<;>omega
 ·right;by_cases e:a<c
  ·exact⟨a,by rw[if_pos (by omega)],by rw[if_pos (by omega)]⟩
  ·exact⟨c,by rw[if_neg (by omega)],by rw[if_neg (by omega)]⟩
def RowE (φ:Rn)(T:Nat->Nat->Prop):Row->Row->Prop
 | .none,x=>x= .none
 | .cells t l,x=>∃u,x= .cells u (l.map (mv φ))/\T t u
 | .dead t,x=>x≠ .none/\T t x.time
 | .mob t es,x=>∃u,x= .mob u (es.map (mv2 φ))/\T t u
 | .sit t n v p,x=>∃u,x= .sit u n v p/\T t u
 | .mit t m n c,x=>∃u,x= .mit u (m.map φ) n c/\T t u
 | .ro l,x=>x= .ro (l.map (mv φ))
structure Emb (φ:Rn) (n0 i0 i:Nat) (a b:St):Prop where
 num:φ.ok
 inj:∀p q,φ p=φ q->p=q
 suc:∀p,n0<=p.num->φ p.suc=(φ p).suc
 n0:n0<=a.nx.num
 nx:b.nx=φ a.nx
 t:∃k,a.t=i0+k/\b.t=i+k
 pos:0<i0->0<i
 row:∀p,RowE φ (TR i0 i) (a.row p) (b.row (φ p))
 wf:WF b
def LowE (g:Bool)(i0 i:Nat)(a b:St):Prop:=g=true->TR i0 i a.low b.low
structure Stp (φ:Rn) (a b a' b':St):Prop where
 frame:∀s,b.row s≠ .none->(∀p,a.row p≠ .none->φ p≠s)->b'.row s=b.row s
 keep:∀s,b.row s≠ .none->b'.row s≠ .none
theorem Stp.refl {φ:Rn}{a b:St}:Stp φ a b a b:=⟨fun _ _ _=>rfl,fun _ h=>h⟩
theorem Emb.none {φ:Rn}{n0 i0 i:Nat}{a b:St}(h:Emb φ n0 i0 i a b){p:Pt}(hp:a.row p= .none):b.row (φ p)= .none:=by
 have:=h.row p;rw[hp]at this;exact this
theorem Stp.trans {φ:Rn}{n0 i0 i:Nat}{a b a1 b1 a2 b2:St}(h:Emb φ n0 i0 i a b)(s1:Stp φ a b a1 b1)(s2:Stp φ a1 b1 a2 b2):Stp φ a b a2 b2:=by
 refine⟨fun s e n=> ?_,fun s e=>s2.keep s (s1.keep s e)⟩;rw[s2.frame s (s1.keep s e) fun p hp=> ?_,s1.frame s e n];by_cases c:a.row p= .none
 ·intro x;subst x;exact e (h.none c)
 ·exact n p c
structure PostE (φ:Rn) (n0 i0 i:Nat) (g:Bool) (a b a' b':St):Prop where
 emb:Emb φ n0 i0 i a' b'
 low:LowE g i0 i a' b'
 stp:Stp φ a b a' b'
theorem PostE.trans {φ:Rn}{n0 i0 i:Nat}{g:Bool}{a b a1 b1 a2 b2:St}(h:Emb φ n0 i0 i a b)(p:PostE φ n0 i0 i g a b a1 b1)(q:PostE φ n0 i0 i g a1 b1 a2 b2):PostE φ n0 i0 i g a b a2 b2:=⟨q.emb,q.low,p.stp.trans h q.stp⟩
inductive EffE (φ:Rn) (T:Nat->Nat->Prop) (a:St):Eff->Eff->Prop
 |no:EffE φ T a .no .no
 |new {f g:Nat->Row} (h:∀t u,T t u->RowE φ T (f t) (g u)):EffE φ T a (.new f) (.new g)
 |wr {r:Pt} {t u:Nat} {f g:Nat->Row} (h:∀t u,T t u->RowE φ T (f t) (g u)) (k:T t u) (e:a.row r≠ .none):EffE φ T a (.wr r t f) (.wr (φ r) u g)
 |dn {r:Pt} {t u:Nat} {f g:Nat->Row} (h:∀t u,T t u->RowE φ T (f t) (g u)) (k:T t u) (e:a.row r≠ .none):EffE φ T a (.dn r t f) (.dn (φ r) u g)
section
variable {φ : Rn} {n0 i0 i : Nat} {g : Bool} {a b : St}
theorem Ji5 (H:Emb φ n0 i0 i a b)(hl:LowE g i0 i a b){f f':Nat->Row}(h:∀t u,TR i0 i t u->RowE φ (TR i0 i) (f t) (f' u))(hm:Mono b (b.new f')):PostE φ n0 i0 i g a b (a.new f) (b.new f'):=by
 have hb:=Q3 H.wf;refine⟨⟨H.num,H.inj,H.suc, ?_, ?_, ?_,H.pos,fun p=> ?_,hm.wf⟩,hl,fun s e n=> ?_,fun s e=> ?_⟩
 ·show n0<=a.nx.suc.num;rw[Pt.num_suc];have:=H.n0;omega
 ·show b.nx.suc=φ a.nx.suc;rw[H.suc _ H.n0,H.nx]
 ·obtain⟨k,h1,h2⟩:=H.t;exact⟨k+1,by show a.t+1=_;omega,by show b.t+1=_;omega⟩
 ·rw[Kb,Kb,H.nx];by_cases c:p=a.nx
  ·rw[if_pos c,if_pos (by rw[c])];exact h _ _ (.inr H.t)
  ·rw[if_neg c,if_neg fun x=>c (H.inj _ _ x)];exact H.row p
 ·rw[Kb,if_neg fun x=>e (by rw[x];exact hb)]
 ·rw[Kb,if_neg fun x=>e (by rw[x];exact hb)];exact e
theorem JlY (H:Emb φ n0 i0 i a b)(hl:LowE g i0 i a b){r:Pt}{t u:Nat}{f f':Nat->Row}(h:∀t u,TR i0 i t u->RowE φ (TR i0 i) (f t) (f' u))(ht:TR i0 i t u)(hr:a.row r≠ .none)(hm:Mono b (b.wr (φ r) u f')):PostE φ n0 i0 i g a b (a.wr r t f) (b.wr (φ r) u f'):=by
 refine⟨⟨H.num,H.inj,H.suc,H.n0,H.nx, ?_,H.pos,fun p=> ?_,hm.wf⟩,fun hg=>TR.min ht (hl hg),fun s e n=> ?_,fun s e=> ?_⟩
 ·obtain⟨k,h1,h2⟩:=H.t;exact⟨k+1,by show a.t+1=_;omega,by show b.t+1=_;omega⟩
 ·rw[Jo,Jo];by_cases c:p=r
  ·rw[if_pos c,if_pos (by rw[c])];exact h _ _ (.inr H.t)
  ·rw[if_neg c,if_neg fun x=>c (H.inj _ _ x)];exact H.row p
 ·rw[Jo,if_neg fun x=>n r hr x.symm]
 ·by_cases c:(b.wr (φ r) u f').row s=b.row s
  ·rw[c];exact e
  ·exact(hm.row s c).2
theorem Jqz (H:Emb φ n0 i0 i a b)(hl:LowE g i0 i a b){e e':Eff}(h:EffE φ (TR i0 i) a e e')(hg:e'.good b):PostE φ n0 i0 i g a b (a.ap e) (b.ap e'):=by
 cases h with
 |no=>exact⟨H,hl,Stp.refl⟩
 |new h=>exact Ji5 H hl h (qU H.wf hg)
 |wr h k e=>exact JlY H hl h k e (qU H.wf hg)
 | dn h k e=>
   rename_i r t u f f'
   have m1:Mono b (b.wr (φ r) u .dead):=qU (e:= .wr (φ r) u .dead) H.wf ⟨hg.1,hg.2.1,fun u=>⟨rfl,by intro e;cases e⟩⟩;have p1:=JlY H hl (f:= .dead) (f':= .dead) (fun t u k=>⟨(by intro e;cases e),k⟩) k e m1;have m2:Mono (b.wr (φ r) u .dead) ((b.wr (φ r) u .dead).new f'):=qU (e:= .new f') m1.wf hg.2.2;exact p1.trans H (Ji5 p1.emb p1.low h m2)
end
def cOpd :Opd->Bool
 | .s _=>true
 | .c v=>closed v
def cOpt :Option Opd->Bool
 |none=>true
 |some x=>cOpd x
def cOps :List Opd->Bool
 |[]=>true
 |x::r=>cOpd x&&cOps r
def cPs :List (Nat×Nat×Opd)->Bool
 |[]=>true
 |p::r=>cOpd p.2.2&&cPs r
def cOp :Iop->Bool
 | .mv x=>cOpd x
 | .pick c a b=>cOpd c&&(cOpd a&&cOpd b)
 | .alloc zs=>closeds zs
 | .box x=>cOpd x
 | .build zs ps=>closeds zs&&cPs ps
 | .bsl _ _ zs ps=>closeds zs&&cPs ps
 | .load1 x=>cOpd x
 | .loadn _ x=>cOpd x
 | .store _ x v=>cOpd x&&cOpd v
 | .nilck x=>cOpd x
 | .eq _ _ x y=>cOpd x&&cOpd y
 | .bin _ x y=>cOpd x&&cOpd y
 | .not x=>cOpd x
 | .neg x=>cOpd x
 | .toint _ x=>cOpd x
 | .tostr x=>cOpd x
 | .bts x=>cOpd x
 | .mkfn _ a b=>cOps a&&cOps b
 | .mkmap=>true
 | .mksl _ zs n c=>closeds zs&&(cOpd n&&cOpd c)
 | .cutS x lo hi=>cOpd x&&(cOpt lo&&cOpt hi)
 | .cutL _ x lo hi mx=>cOpd x&&(cOpt lo&&(cOpt hi&&cOpt mx))
 | .cutA _ _ x lo hi mx=>cOpd x&&(cOpt lo&&(cOpt hi&&cOpt mx))
 | .faddr _ x=>cOpd x
 | .fld _ _ x=>cOpd x
 | .iaddrS _ x i=>cOpd x&&cOpd i
 | .iaddrA _ _ x i=>cOpd x&&cOpd i
 | .idxS x i=>cOpd x&&cOpd i
 | .idxA _ _ _ x i=>cOpd x&&cOpd i
 | .lookup _ z _ m k=>closed z&&(cOpd m&&cOpd k)
 | .mupd _ m k v=>cOpd m&&(cOpd k&&cOpd v)
 | .ment _ z m k=>closed z&&(cOpd m&&cOpd k)
 | .ests m s v=>cOpd m&&(cOpd s&&cOpd v)
 | .rngS x=>cOpd x
 | .rngM x=>cOpd x
 | .nextS x=>cOpd x
 | .nextM x=>cOpd x
 | .ext _ x=>cOpd x
 | .call _ as=>cOps as
 | .callv x as=>cOpd x&&cOps as
 | .lenS x=>cOpd x
 | .lenL x=>cOpd x
 | .lenM x=>cOpd x
 | .cap x=>cOpd x
 | .app _ s x=>cOpd s&&cOpd x
 | .copy _ d x=>cOpd d&&cOpd x
 | .min x y=>cOpd x&&cOpd y
 | .max x y=>cOpd x&&cOpd y
 | .clear _ zs x=>closeds zs&&cOpd x
def mvF (φ:Rn)(fr:Fr):Fr:=fun i=>mv φ (fr i)
section
variable (φ : Rn) {fr : Fr}
theorem JN {o:Opd}(h:cOpd o=true):o.ev (mvF φ fr)=mv φ (o.ev fr):=by
 cases o with
 |s i=>rfl
 |c v=>exact(KU φ v h).symm
theorem qC {o:Option Opd}(h:cOpt o=true):o.map (Opd.ev (mvF φ fr))=(o.map (Opd.ev fr)).map (mv φ):=by
 cases o with
 |none=>rfl
 |some x=>exact congrArg some (JN φ h)
theorem JeC :∀{l:List Opd},cOps l=true->evs (mvF φ fr) l=(evs fr l).map (mv φ)
 |[],_=>rfl
 | x::r,h=>by
   rw[cOps,Bool.and_eq_true]at h;have:=JeC h.2;simp only[evs,List.map_cons]at this⊢;rw[JN φ h.1,this]
theorem Jhl :∀{l:List (Nat×Nat×Opd)},cPs l=true->evps (mvF φ fr) l=(evps fr l).map fun p=>(p.1,p.2.1,mv φ p.2.2)
 |[],_=>rfl
 | x::r,h=>by
   rw[cPs,Bool.and_eq_true]at h;have:=Jhl h.2;simp only[evps,List.map_cons]at this⊢;rw[JN φ h.1,this]
theorem Jcs {α:Type}{g f f':α->α}(hg:∀x,g (f x)=f' (g x))(l:List α)(i:Nat):(l.modify i f).map g=(l.map g).modify i f':=by
 apply List.ext_getElem?;intro j;simp only[List.getElem?_map,List.getElem?_modify,Option.map_map]
 cases l[j]? with
 |none=>rfl
 | some x=>
   simp only[Option.map_some,Function.comp]
   split
   ·exact congrArg some (hg x)
   ·rfl
end
section
variable {φ : Rn} {n0 i0 i : Nat} {a b : St} (H : Emb φ n0 i0 i a b)
include H
theorem jE {n:Nat}{v:V}{l:List V}(h:loadN a n v=some l):loadN b n (mv φ v)=some (l.map (mv φ)):=by
 cases v<;>first|(cases h;done)|skip
 simp only[loadN,mv]at h⊢
 rename_i r o
 have:=H.row r
 cases hr:a.row r with
 | cells t m=>
   rw[hr]at this h;obtain⟨u,e,_⟩:=this;rw[e];simp only[List.length_map]at h⊢
   split at h
   ·rename_i c
    injection h with h;subst h;rw[if_pos c,List.map_take,List.map_drop]
   ·cases h
 | ro m=>
   rw[hr]at this h;rw[show b.row (φ r)=_ from this];simp only[List.length_map]at h⊢
   split at h
   ·rename_i c
    injection h with h;subst h;rw[if_pos c,List.map_take,List.map_drop]
   ·cases h
 |none=>rw[hr]at h;cases h
 |dead _=>rw[hr]at h;cases h
 |mob _ _=>rw[hr]at h;cases h
 |sit _ _ _ _=>rw[hr]at h;cases h
 |mit _ _ _ _=>rw[hr]at h;cases h
theorem jo {z n:Nat}{v:V}{l:List V}(h:JD a z n v=some l):JD b z n (mv φ v)=some (l.map (mv φ)):=by
 cases v<;>first|(cases h;done)|skip
 all_goals simp only[JD,mv]at h⊢
 ·split at h
  ·rename_i c;injection h with h;subst h;rw[if_pos c];rfl
  ·cases h
 ·split at h
  ·rename_i c;rw[if_pos c];exact jE H h
  ·cases h
 ·split at h
  ·rename_i c;rw[if_pos c];exact jE H h
  ·cases h
omit H in
theorem Jda :∀k v:Nat,(YG k v).map (mv φ)=YG k v
 |0,_=>rfl
 |k+1,v=>by rw[YG,List.map_cons,Jda k,mv]
theorem JmG {z n:Nat}{v:V}{l:List V}(h:cellsX a z n v=some l):cellsX b z n (mv φ v)=some (l.map (mv φ)):=by
 unfold cellsX at h
 split at h
 ·rename_i m s
  split at h
  ·rename_i c
   injection h with h;subst h;rw[Jda,mv];show(if z=1/\n<=m then some (YG n s)else none)=_;rw[if_pos c]
  ·cases h
 ·rename_i hn
  have h2:=jo H h;unfold cellsX
  split
  ·rename_i m s e
   rw[e]at h2;exact absurd h2 (by intro k;cases k)
  ·exact h2
omit H in
theorem Ji6 {z:Nat}{x v:V}{lo hi mx:Option V}(h:cutSl z x lo hi mx=some v):cutSl z (mv φ x) (lo.map (mv φ)) (hi.map (mv φ)) (mx.map (mv φ))=some (mv φ v):=by
 cases x<;>first|(cases h;done)|skip
 ·simp only[cutSl,mv]at h⊢
  cases h1:optNat 0 lo with
  |none=>rw[h1]at h;cases h
  | some l=>
    cases h2:optNat 0 hi with
    |none=>rw[h1,h2]at h;cases h
    | some u=>
      cases h3:optNat 0 mx with
      |none=>rw[h1,h2,h3]at h;cases h
      | some m=>
        simp only[h1,h2,h3,Ys φ h1,Ys φ h2,Ys φ h3,Option.bind_eq_bind,Option.bind_some]at h⊢
        split at h
        ·rename_i c;injection h with h;subst h;rw[if_pos c];rfl
        ·cases h
 ·rename_i r o n z'
  simp only[cutSl,mv]at h⊢
  cases h1:optNat 0 lo with
  |none=>rw[h1]at h;cases h
  | some l=>
    cases h2:optNat n hi with
    |none=>rw[h1,h2]at h;cases h
    | some u=>
      simp only[h1,h2,Ys φ h1,Ys φ h2,Option.bind_eq_bind,Option.bind_some]at h⊢
      split at h
      ·cases h
      rename_i c
      rw[if_neg c]
      cases mx with
      | none=>
        simp only[Option.map_none]at h⊢
        split at h
        ·rename_i c;injection h with h;subst h;rw[if_pos c];rfl
        ·cases h
      | some m=>
        simp only[Option.map_some]at h⊢
        cases h3:natOf m with
        |none=>rw[h3]at h;cases h
        | some m=>
          simp only[h3,YV φ h3,Option.bind_some]at h⊢
          split at h
          ·rename_i c;injection h with h;subst h;rw[if_pos c];rfl
          ·cases h
 ·rename_i r o n z' cc
  simp only[cutSl,mv]at h⊢
  cases h1:optNat 0 lo with
  |none=>rw[h1]at h;cases h
  | some l=>
    cases h2:optNat n hi with
    |none=>rw[h1,h2]at h;cases h
    | some u=>
      cases h3:optNat cc mx with
      |none=>rw[h1,h2,h3]at h;cases h
      | some m=>
        simp only[h1,h2,h3,Ys φ h1,Ys φ h2,Ys φ h3,Option.bind_eq_bind,Option.bind_some]at h⊢
        split at h
        ·rename_i c;injection h with h;subst h;rw[if_pos c];rfl
        ·cases h
theorem Jad {r:Pt}{t:Nat}{l:List V}(h:a.row r= .cells t l):∃u,b.row (φ r)= .cells u (l.map (mv φ))/\TR i0 i t u:=by
 have:=H.row r;rw[h]at this;exact this
theorem jZ {r:Pt}{t:Nat}{es:List (V×V)}(h:a.row r= .mob t es):∃u,b.row (φ r)= .mob u (es.map (mv2 φ))/\TR i0 i t u:=by
 have:=H.row r;rw[h]at this;exact this
theorem JeD {x:V}{vs:List V}{e:Eff}(h:JJ a x vs=some e):∃e',JJ b (mv φ x) (vs.map (mv φ))=some e'/\EffE φ (TR i0 i) a e e':=by
 cases x<;>first|(cases h;done)|skip
 simp only[JJ,mv]at h⊢
 rename_i r o
 split at h
 ·rename_i t l hr
  obtain⟨u,e1,e2⟩:=Jad H hr;rw[e1];simp only[List.length_map,JbN φ H.num]
  split at h
  ·rename_i c
   injection h with h;subst h;rw[if_pos c];exact⟨_,rfl, .wr (fun t u k=>⟨u,by rw[Jcr],k⟩) e2 (by rw[hr];intro e;cases e)⟩
  ·cases h
 ·cases h
theorem JmH {z k:Nat}{new:List V}{s v:V}{e:Eff}(h:JV a z k new s=some (v,e)):∃e',JV b z k (new.map (mv φ)) (mv φ s)=some (mv φ v,e')/\EffE φ (TR i0 i) a e e':=by
 unfold JV at h⊢;by_cases hk:k=0
 ·rw[if_pos hk]at h⊢;rw[Jac φ H.num]
  split at h
  ·rename_i c
   injection h with h;injection h with h1 h2;subst h1;subst h2;rw[if_pos c];exact⟨_,rfl, .no⟩
  ·cases h
 rw[if_neg hk]at h⊢
 cases s<;>first|(cases h;done)|skip
 all_goals simp only[mv]at h⊢
 ·injection h with h;injection h with h1 h2;subst h1;subst h2;exact⟨_,by rw[mv,H.nx], .new fun t u k=>⟨u,rfl,k⟩⟩
 ·rename_i r o n z'
  split at h
  ·cases h
  rename_i c1
  rw[if_neg c1]
  split at h
  ·rename_i t l hr
   obtain⟨u,e1,e2⟩:=Jad H hr;rw[e1];simp only[List.length_map]
   split at h
   ·rename_i c2
    injection h with h;injection h with h1 h2;subst h1;subst h2;rw[if_pos c2];exact⟨_,by rw[mv,H.nx], .dn (fun t u k=>⟨u,by simp[List.map_take,List.map_drop],k⟩) e2 (by rw[hr];intro e;cases e)⟩
   ·cases h
  ·cases h
 ·rename_i r o n z' cc
  split at h
  ·cases h
  rename_i c1
  rw[if_neg c1]
  split at h
  ·rename_i t l hr
   obtain⟨u,e1,e2⟩:=Jad H hr;rw[e1];simp only[List.length_map]
   split at h
   ·rename_i c2
    rw[if_pos c2]
    split at h
    ·rename_i c3
     rw[if_pos c3]
     split at h
     ·rename_i c4
      injection h with h;injection h with h1 h2;subst h1;subst h2;rw[if_pos c4];exact⟨_,by rw[mv], .wr (fun t u k=>⟨u,by rw[Jcr],k⟩) e2 (by rw[hr];intro e;cases e)⟩
     ·cases h
    ·rename_i c3
     rw[if_neg c3];injection h with h;injection h with h1 h2;subst h1;subst h2;exact⟨_,by rw[mv,H.nx], .new fun t u k=>⟨u,by simp[List.map_take,List.map_drop],k⟩⟩
   ·cases h
  ·cases h
theorem JmI {v:V}{es:List (V×V)}(h:mapRow a v=some es):mapRow b (mv φ v)=some (es.map (mv2 φ)):=by
 cases v<;>first|(cases h;done)|skip
 all_goals simp only[mapRow,mv]at h⊢
 ·injection h with h;subst h;rfl
 ·split at h
  ·rename_i t l hr
   injection h with h;subst h;obtain⟨u,e1,_⟩:=jZ H hr;rw[e1]
  ·cases h
end
section
variable {φ : Rn} {n0 i0 i : Nat} {a b : St} {fr : Fr}
def OpE (φ:Rn)(i0 i:Nat)(a b:St)(fr:Fr)(op:Iop):Prop:=∀v e,evOp fr a op=some (v,e)->∃e',evOp (mvF φ fr) b op=some (mv φ v,e')/\EffE φ (TR i0 i) a e e'
theorem notnot {b:Bool}(h:¬(!b)=true):b=true:=by cases b<;>simp at h⊢
theorem some2 {α β:Type}{a c:α}{b d:β}(h:some (a,b)=some (c,d)):a=c/\b=d:=by injection h with h;injection h with h1 h2;exact⟨h1,h2⟩
theorem JlZ (zs:List V)(h:closeds zs=true)(c:Nat):(List.replicate c zs).flatten.map (mv φ)=(List.replicate c zs).flatten:=by
 rw[List.map_flatten,List.map_replicate,kQ φ zs h]
theorem JqA (H:Emb φ n0 i0 i a b):∀op,cOp op=true->OpE φ i0 i a b fr op
 | .mv x,hc=>fun v e h=>by
   obtain⟨rfl,rfl⟩:=some2 h;exact⟨_,by simp only[evOp,JN φ (show cOpd x=true from hc)], .no⟩
 | .pick c x y,hc=>fun v e h=>by
   rw[cOp,Bool.and_eq_true,Bool.and_eq_true]at hc;simp only[evOp,JN φ hc.1,JN φ hc.2.1,JN φ hc.2.2]at h⊢;generalize c.ev fr=C at h⊢
   cases C<;>first|(cases h;done)|skip
   obtain⟨rfl,rfl⟩:=some2 h
   rename_i t
   exact⟨_,by simp only[mv];cases t<;>rfl, .no⟩
 | .alloc zs,hc=>fun v e h=>by
   obtain⟨rfl,rfl⟩:=some2 h;exact⟨.new fun t=> .cells t zs,by simp only[evOp,mv,H.nx], .new fun t u k=>⟨u,by rw[kQ φ zs hc],k⟩⟩
 | .box x,hc=>fun v e h=>by
   simp only[evOp,JN φ (show cOpd x=true from hc),JeA φ H.num]at h⊢
   cases hx:(x.ev fr).cells with
   |none=>rw[hx]at h;cases h
   | some vs=>
     rw[hx]at h;simp only[Option.map_some,JbN φ H.num]at h⊢
     split at h
     ·rename_i c
      obtain⟨rfl,rfl⟩:=some2 h;rw[if_pos c];exact⟨_,by rw[mv,H.nx], .new fun t u k=>⟨u,rfl,k⟩⟩
     ·cases h
 | .build zs ps,hc=>fun v e h=>by
   rw[cOp,Bool.and_eq_true]at hc;have hf:=JeB φ H.num (evps fr ps) zs;rw[kQ φ zs hc.1]at hf;simp only[evOp,Jhl φ hc.2,hf]at h⊢
   cases hx:fillL zs (evps fr ps)with
   |none=>rw[hx]at h;cases h
   | some l=>
     rw[hx]at h;obtain⟨rfl,rfl⟩:=some2 h;exact⟨_,by simp only[Option.map_some,mv,QJ], .no⟩
 | .bsl z n zs ps,hc=>fun v e h=>by
   rw[cOp,Bool.and_eq_true]at hc;have hf:=JeB φ H.num (evps fr ps) zs;rw[kQ φ zs hc.1]at hf;simp only[evOp,Jhl φ hc.2,hf]at h⊢
   cases hx:fillL zs (evps fr ps)with
   |none=>rw[hx]at h;cases h
   | some l=>
     rw[hx]at h;simp only[Option.map_some,JbN φ H.num,List.length_map]at h⊢
     split at h
     ·rename_i c
      obtain⟨rfl,rfl⟩:=some2 h;rw[if_pos c];exact⟨_,by rw[mv,H.nx], .new fun t u k=>⟨u,rfl,k⟩⟩
     ·cases h
 | .load1 x,hc=>fun v e h=>by
   simp only[evOp,JN φ (show cOpd x=true from hc)]at h⊢
   split at h
   ·rename_i w hw
    obtain⟨rfl,rfl⟩:=some2 h;exact⟨_,by rw[jE H hw];rfl, .no⟩
   ·cases h
 | .loadn n x,hc=>fun v e h=>by
   simp only[evOp,JN φ (show cOpd x=true from hc)]at h⊢
   cases hw:loadN a n (x.ev fr)with
   |none=>rw[hw]at h;cases h
   | some l=>
     rw[hw]at h;obtain⟨rfl,rfl⟩:=some2 h;exact⟨_,by rw[jE H hw];simp only[Option.map_some,mv,QJ], .no⟩
 | .store n x w,hc=>fun v e h=>by
   rw[cOp,Bool.and_eq_true]at hc;simp only[evOp,JN φ hc.1,JN φ hc.2,JeA φ H.num]at h⊢
   cases hx:(w.ev fr).cells with
   |none=>rw[hx]at h;cases h
   | some vs=>
     rw[hx]at h;simp only[Option.map_some,List.length_map]at h⊢
     split at h
     ·rename_i c
      rw[if_pos c]
      cases hs:JJ a (x.ev fr) vs with
      |none=>rw[hs]at h;cases h
      | some e1=>
        rw[hs]at h;obtain⟨rfl,rfl⟩:=some2 h;obtain⟨e',k1,k2⟩:=JeD H hs;exact⟨e',by rw[k1];rfl,k2⟩
     ·cases h
 | .nilck x,hc=>fun v e h=>by
   simp only[evOp,JN φ (show cOpd x=true from hc)]at h⊢;generalize x.ev fr=X at h⊢
   cases X<;>first|(cases h;done)|skip
   all_goals
    obtain⟨rfl,rfl⟩:=some2 h;exact⟨_,by simp only[mv], .no⟩
 | .eq ek neg x y,hc=>fun v e h=>by
   rw[cOp,Bool.and_eq_true]at hc;simp only[evOp,JN φ hc.1,JN φ hc.2]at h⊢
   cases hx:ek.eq (x.ev fr) (y.ev fr)with
   |none=>rw[hx]at h;cases h
   | some t=>
     rw[hx]at h;obtain⟨rfl,rfl⟩:=some2 h;exact⟨_,by rw[JlX φ hx];simp only[Option.map_some,mv], .no⟩
 | .bin op x y,hc=>fun v e h=>by
   rw[cOp,Bool.and_eq_true]at hc;simp only[evOp,JN φ hc.1,JN φ hc.2]at h⊢
   cases hx:arith op (x.ev fr) (y.ev fr)with
   |none=>rw[hx]at h;cases h
   | some t=>
     rw[hx]at h;obtain⟨rfl,rfl⟩:=some2 h;exact⟨_,by rw[JoE φ hx];rfl, .no⟩
 | .not x,hc=>fun v e h=>by
   simp only[evOp,JN φ (show cOpd x=true from hc)]at h⊢;generalize x.ev fr=X at h⊢
   cases X<;>first|(cases h;done)|skip
   obtain⟨rfl,rfl⟩:=some2 h;exact⟨_,by simp only[mv], .no⟩
 | .neg x,hc=>fun v e h=>by
   simp only[evOp,JN φ (show cOpd x=true from hc)]at h⊢;generalize x.ev fr=X at h⊢
   cases X<;>first|(cases h;done)|skip
   obtain⟨rfl,rfl⟩:=some2 h;exact⟨_,by simp only[mv], .no⟩
 | .toint k x,hc=>fun v e h=>by
   simp only[evOp,JN φ (show cOpd x=true from hc)]at h⊢;generalize x.ev fr=X at h⊢
   cases X<;>first|(cases h;done)|skip
   obtain⟨rfl,rfl⟩:=some2 h;exact⟨_,by simp only[mv], .no⟩
 | .tostr x,hc=>fun v e h=>by
   simp only[evOp,JN φ (show cOpd x=true from hc)]at h⊢;generalize x.ev fr=X at h⊢
   cases X<;>first|(cases h;done)|skip
   obtain⟨rfl,rfl⟩:=some2 h;exact⟨_,by simp only[mv], .no⟩
 | .bts x,hc=>fun v e h=>by
   simp only[evOp,JN φ (show cOpd x=true from hc),Jac φ H.num]at h⊢
   split at h
   ·rename_i n hn
    split at h
    ·rename_i l hl
     cases hb:Ye l with
     |none=>rw[hb]at h;cases h
     | some w=>
       rw[hb]at h;obtain⟨rfl,rfl⟩:=some2 h;rw[jo H hl];simp only[Jc9 φ hb];exact⟨_,by simp only[Option.map_some,mv], .no⟩
    ·cases h
   ·cases h
 | .mkfn f x y,hc=>fun v e h=>by
   rw[cOp,Bool.and_eq_true]at hc;obtain⟨rfl,rfl⟩:=some2 h;exact⟨_,by simp only[evOp,JeC φ hc.1,JeC φ hc.2,mv,QJ], .no⟩
 | .mkmap,hc=>fun v e h=>by
   obtain⟨rfl,rfl⟩:=some2 h;exact⟨.new fun t=> .mob t [],by simp only[evOp,mv,H.nx], .new fun t u k=>⟨u,rfl,k⟩⟩
 | .mksl z zs n c,hc=>fun v e h=>by
   rw[cOp,Bool.and_eq_true,Bool.and_eq_true]at hc;simp only[evOp,JN φ hc.2.1,JN φ hc.2.2]at h⊢
   split at h
   ·rename_i n' c' hn hcc
    rw[YV φ hn,YV φ hcc];dsimp only
    split at h
    ·rename_i cd
     obtain⟨rfl,rfl⟩:=some2 h;rw[if_pos cd];exact⟨_,by rw[mv,H.nx], .new fun t u k=>⟨u,by rw[JlZ zs hc.1],k⟩⟩
    ·cases h
   ·cases h
 | .cutS x lo hi,hc=>fun v e h=>by
   rw[cOp,Bool.and_eq_true,Bool.and_eq_true]at hc;simp only[evOp,JN φ hc.1,qC φ hc.2.1,qC φ hc.2.2]at h⊢;generalize x.ev fr=X at h⊢
   cases X<;>first|(cases h;done)|skip
   simp only[mv]at h⊢
   split at h
   ·rename_i l u hl hu
    rw[Ys φ hl,Ys φ hu];dsimp only
    split at h
    ·rename_i cd
     obtain⟨rfl,rfl⟩:=some2 h;rw[if_pos cd];exact⟨_,by simp only[mv], .no⟩
    ·cases h
   ·cases h
 | .cutL z x lo hi mx,hc=>fun v e h=>by
   rw[cOp,Bool.and_eq_true,Bool.and_eq_true,Bool.and_eq_true]at hc;simp only[evOp,JN φ hc.1,qC φ hc.2.1,qC φ hc.2.2.1,qC φ hc.2.2.2]at h⊢
   cases hx:cutSl z (x.ev fr) (lo.map (Opd.ev fr)) (hi.map (Opd.ev fr)) (mx.map (Opd.ev fr))with
   |none=>rw[hx]at h;cases h
   | some w=>
     rw[hx]at h;obtain⟨rfl,rfl⟩:=some2 h;exact⟨_,by rw[Ji6 hx];rfl, .no⟩
 | .cutA n z x lo hi mx,hc=>fun v e h=>by
   rw[cOp,Bool.and_eq_true,Bool.and_eq_true,Bool.and_eq_true]at hc;simp only[evOp,JN φ hc.1,qC φ hc.2.1,qC φ hc.2.2.1,qC φ hc.2.2.2]at h⊢;generalize x.ev fr=X at h⊢
   cases X<;>first|(cases h;done)|skip
   rename_i r o
   simp only[mv]at h⊢
   split at h
   ·rename_i t l hr
    obtain⟨u,e1,_⟩:=Jad H hr;rw[e1];simp only[List.length_map]
    split at h
    ·rename_i cd
     rw[if_pos cd]
     cases hx:cutSl z (.slx r o n z n) (lo.map (Opd.ev fr)) (hi.map (Opd.ev fr)) (mx.map (Opd.ev fr))with
     |none=>rw[hx]at h;cases h
     | some w=>
       rw[hx]at h;obtain⟨rfl,rfl⟩:=some2 h;have:=Ji6 (φ:=φ) hx;rw[mv]at this;exact⟨_,by rw[this];rfl, .no⟩
    ·cases h
   ·cases h
 | .faddr o x,hc=>fun v e h=>by
   simp only[evOp,JN φ (show cOpd x=true from hc)]at h⊢;generalize x.ev fr=X at h⊢
   cases X<;>first|(cases h;done)|skip
   obtain⟨rfl,rfl⟩:=some2 h;exact⟨_,by simp only[mv], .no⟩
 | .fld o n x,hc=>fun v e h=>by
   simp only[evOp,JN φ (show cOpd x=true from hc)]at h⊢;generalize x.ev fr=X at h⊢
   cases X<;>first|(cases h;done)|skip
   rename_i l
   simp only[mv,QJ]at h⊢
   cases n with
   | some n=>
     simp only[List.length_map]at h⊢
     split at h
     ·rename_i cd
      obtain⟨rfl,rfl⟩:=some2 h;rw[if_pos cd];exact⟨_,by simp only[mv,QJ,List.map_take,List.map_drop], .no⟩
     ·cases h
   | none=>
     simp only[List.getElem?_map]at h⊢
     cases hl:l[o]? with
     |none=>rw[hl]at h;cases h
     | some w=>
       rw[hl]at h;obtain⟨rfl,rfl⟩:=some2 h;exact⟨_,rfl, .no⟩
 | .iaddrS z x j,hc=>fun v e h=>by
   rw[cOp,Bool.and_eq_true]at hc;simp only[evOp,JN φ hc.1,JN φ hc.2]at h⊢
   cases hj:natOf (j.ev fr)with
   |none=>rw[hj]at h;cases h
   | some m=>
     rw[hj]at h;rw[YV φ hj];generalize x.ev fr=X at h⊢
     cases X<;>first|(cases h;done)|skip
     all_goals
      simp only[mv]at h⊢
      split at h
      ·rename_i cd
       obtain⟨rfl,rfl⟩:=some2 h;rw[if_pos cd];exact⟨_,by simp only[mv], .no⟩
      ·cases h
 | .iaddrA n z x j,hc=>fun v e h=>by
   rw[cOp,Bool.and_eq_true]at hc;simp only[evOp,JN φ hc.1,JN φ hc.2]at h⊢
   cases hj:natOf (j.ev fr)with
   |none=>rw[hj]at h;cases h
   | some m=>
     rw[hj]at h;rw[YV φ hj];generalize x.ev fr=X at h⊢
     cases X<;>first|(cases h;done)|skip
     simp only[mv]at h⊢
     split at h
     ·rename_i cd
      obtain⟨rfl,rfl⟩:=some2 h;rw[if_pos cd];exact⟨_,by simp only[mv], .no⟩
     ·cases h
 | .idxS x j,hc=>fun v e h=>by
   rw[cOp,Bool.and_eq_true]at hc;simp only[evOp,JN φ hc.1,JN φ hc.2]at h⊢
   cases hj:natOf (j.ev fr)with
   |none=>rw[hj]at h;cases h
   | some m=>
     rw[hj]at h;rw[YV φ hj];generalize x.ev fr=X at h⊢
     cases X<;>first|(cases h;done)|skip
     simp only[mv]at h⊢
     split at h
     ·rename_i cd
      obtain⟨rfl,rfl⟩:=some2 h;rw[if_pos cd];exact⟨_,by simp only[mv], .no⟩
     ·cases h
 | .idxA n z g x j,hc=>fun v e h=>by
   rw[cOp,Bool.and_eq_true]at hc;simp only[evOp,JN φ hc.1,JN φ hc.2]at h⊢
   cases hj:natOf (j.ev fr)with
   |none=>rw[hj]at h;cases h
   | some m=>
     rw[hj]at h;rw[YV φ hj];generalize x.ev fr=X at h⊢
     cases X<;>first|(cases h;done)|skip
     rename_i l
     simp only[mv,QJ,List.length_map,List.getElem?_map]at h⊢
     split at h
     ·rename_i cd
      rw[if_pos cd]
      cases g with
      | true=>
        simp only[if_true]at h⊢
        split at h
        ·rename_i cd
         obtain⟨rfl,rfl⟩:=some2 h;rw[if_pos cd];exact⟨_,by simp only[mv,QJ,List.map_take,List.map_drop], .no⟩
        ·cases h
      | false=>
        simp only[Bool.false_eq_true,if_false]at h⊢
        cases hl:l[m*z]? with
        |none=>rw[hl]at h;cases h
        | some w=>
          rw[hl]at h;obtain⟨rfl,rfl⟩:=some2 h;exact⟨_,rfl, .no⟩
     ·cases h
 | .lookup ek z ok m k,hc=>fun v e h=>by
   rw[cOp,Bool.and_eq_true,Bool.and_eq_true]at hc;have hz:=KU φ z hc.1;simp only[evOp,JN φ hc.2.1,JN φ hc.2.2]at h⊢
   cases hm:mapRow a (m.ev fr)with
   |none=>rw[hm]at h;cases h
   | some es=>
     rw[hm]at h;rw[JmI H hm];simp only at h⊢
     split at h
     ·cases h
     rename_i cd
     rw[if_neg (by rw[Jkt φ (notnot cd)];decide)]
     cases hf:findK ek (k.ev fr) es 0 with
     |none=>rw[hf]at h;cases h
     | some o=>
       rw[hf]at h;rw[JbO φ hf]
       cases o with
       | none=>
         obtain⟨rfl,rfl⟩:=some2 h;exact⟨_,by simp only[Option.map_some,Option.map_none];cases ok<;>simp[mv,mvs,hz], .no⟩
       | some p=>
         obtain⟨rfl,rfl⟩:=some2 h;exact⟨_,by simp only[Option.map_some];cases ok<;>simp[mv,mvs], .no⟩
 | .mupd ek m k w,hc=>fun v e h=>by
   rw[cOp,Bool.and_eq_true,Bool.and_eq_true]at hc;simp only[evOp,JN φ hc.1,JN φ hc.2.1,JN φ hc.2.2]at h⊢;generalize m.ev fr=M at h⊢
   cases M<;>first|(cases h;done)|skip
   rename_i r
   simp only[mv]at h⊢
   split at h
   ·rename_i t es hr
    obtain⟨u,e1,e2⟩:=jZ H hr;rw[e1];simp only at h⊢
    split at h
    ·cases h
    rename_i cd
    rw[if_neg (by rw[Jkt φ (notnot cd)];decide)]
    cases hf:findK ek (k.ev fr) es 0 with
    |none=>rw[hf]at h;cases h
    | some o=>
      rw[hf]at h;rw[JbO φ hf]
      cases o with
      | none=>
        obtain⟨rfl,rfl⟩:=some2 h;exact⟨_,by simp only[Option.map_some,Option.map_none];rw[KU φ undefV rfl], .wr (fun t u k=>⟨u,by simp[mv2],k⟩) e2 (by rw[hr];intro e;cases e)⟩
      | some p=>
        obtain⟨rfl,rfl⟩:=some2 h;exact⟨_,by simp only[Option.map_some];rw[KU φ undefV rfl], .wr (fun t u k=>⟨u,by rw[Jcs (f':=fun _=>(mv φ _,mv φ _)) (fun x=>rfl)],k⟩) e2 (by rw[hr];intro e;cases e)⟩
   ·cases h
 | .ment ek z m k,hc=>fun v e h=>by
   rw[cOp,Bool.and_eq_true,Bool.and_eq_true]at hc;have hz:=KU φ z hc.1;simp only[evOp,JN φ hc.2.1,JN φ hc.2.2]at h⊢;generalize m.ev fr=M at h⊢
   cases M<;>first|(cases h;done)|skip
   rename_i r
   simp only[mv]at h⊢
   split at h
   ·rename_i t es hr
    obtain⟨u,e1,e2⟩:=jZ H hr;rw[e1];simp only at h⊢
    split at h
    ·cases h
    rename_i cd
    rw[if_neg (by rw[Jkt φ (Bool.and_eq_true _ _▸notnot cd).1,Jqy φ (Bool.and_eq_true _ _▸notnot cd).2];decide)]
    cases hf:findK ek (k.ev fr) es 0 with
    |none=>rw[hf]at h;cases h
    | some o=>
      rw[hf]at h;rw[JbO φ hf]
      cases o with
      | none=>
        obtain⟨rfl,rfl⟩:=some2 h;exact⟨.wr (φ r) u fun t=> .mob t (es.map (mv2 φ)++[(mv φ (k.ev fr),z)]),by simp only[Option.map_some,Option.map_none,mv,mvs,hz,List.length_map], .wr (fun t u k=>⟨u,by simp[mv2,hz],k⟩) e2 (by rw[hr];intro e;cases e)⟩
      | some p=>
        obtain⟨rfl,rfl⟩:=some2 h;exact⟨.wr (φ r) u fun t=> .mob t ((es.map (mv2 φ)).modify p.1 fun e=>(mv φ (k.ev fr),e.2)),by simp only[Option.map_some,mv,mvs], .wr (fun t u w=>⟨u,by rw[Jcs (f':=fun e=>(mv φ (k.ev fr),e.2)) (fun x=>rfl)],w⟩) e2 (by rw[hr];intro e;cases e)⟩
   ·cases h
 | .ests m s w,hc=>fun v e h=>by
   rw[cOp,Bool.and_eq_true,Bool.and_eq_true]at hc;simp only[evOp,JN φ hc.1,JN φ hc.2.1,JN φ hc.2.2]at h⊢;generalize m.ev fr=M at h⊢
   cases hj:natOf (s.ev fr)with
   |none=>rw[hj]at h;cases M<;>cases h
   | some j=>
     rw[hj]at h;rw[YV φ hj]
     cases M<;>first|(cases h;done)|skip
     rename_i r
     simp only[mv]at h⊢
     split at h
     ·rename_i t es hr
      obtain⟨u,e1,e2⟩:=jZ H hr;rw[e1];simp only[List.length_map]
      split at h
      ·rename_i cd
       obtain⟨rfl,rfl⟩:=some2 h;rw[if_pos cd];exact⟨_,by rw[KU φ undefV rfl], .wr (fun t u k=>⟨u,by rw[Jcs (f':=fun e=>(e.1,mv φ (w.ev fr))) (fun x=>rfl)],k⟩) e2 (by rw[hr];intro e;cases e)⟩
      ·cases h
     ·cases h
 | .rngS x,hc=>fun v e h=>by
   simp only[evOp,JN φ (show cOpd x=true from hc)]at h⊢;generalize x.ev fr=X at h⊢
   cases X<;>first|(cases h;done)|skip
   obtain⟨rfl,rfl⟩:=some2 h
   rename_i n w
   exact⟨.new fun t=> .sit t n w 0,by simp only[mv,H.nx], .new fun t u k=>⟨u,rfl,k⟩⟩
 | .rngM x,hc=>fun v e h=>by
   simp only[evOp,JN φ (show cOpd x=true from hc)]at h⊢;generalize x.ev fr=X at h⊢
   cases X<;>first|(cases h;done)|skip
   ·obtain⟨rfl,rfl⟩:=some2 h;exact⟨.new fun t=> .mit t none 0 0,by simp only[mv,H.nx], .new fun t u k=>⟨u,rfl,k⟩⟩
   ·rename_i r
    simp only[mv]at h⊢
    split at h
    ·rename_i t es hr
     obtain⟨u,e1,e2⟩:=jZ H hr;rw[e1];obtain⟨rfl,rfl⟩:=some2 h;exact⟨.new fun t=> .mit t (some (φ r)) es.length 0,by simp only[mv,H.nx,List.length_map], .new fun t u k=>⟨u,rfl,k⟩⟩
    ·cases h
 | .nextS x,hc=>fun v e h=>by
   simp only[evOp,JN φ (show cOpd x=true from hc)]at h⊢;generalize x.ev fr=X at h⊢
   cases X<;>first|(cases h;done)|skip
   rename_i r o
   cases o with
   |succ o=>cases h
   | zero=>
     simp only[mv]at h⊢
     split at h
     ·rename_i t n w pos hr
      have:=H.row r;rw[hr]at this;obtain⟨u,e1,e2⟩:=this;rw[e1];simp only
      split at h
      ·rename_i c1
       rw[if_pos c1]
       split at h
       ·rename_i c2
        obtain⟨rfl,rfl⟩:=some2 h;rw[if_pos c2];exact⟨_,by simp only[mv,mvs], .wr (fun t u k=>⟨u,rfl,k⟩) e2 (by rw[hr];intro e;cases e)⟩
       ·rename_i c2
        obtain⟨rfl,rfl⟩:=some2 h;rw[if_neg c2];exact⟨_,by simp only[mv,mvs], .wr (fun t u k=>⟨u,rfl,k⟩) e2 (by rw[hr];intro e;cases e)⟩
      ·rename_i c1
       obtain⟨rfl,rfl⟩:=some2 h;rw[if_neg c1];exact⟨_,by simp only[mv,mvs], .no⟩
     ·cases h
 | .nextM x,hc=>fun v e h=>by
   simp only[evOp,JN φ (show cOpd x=true from hc)]at h⊢;generalize x.ev fr=X at h⊢
   cases X<;>first|(cases h;done)|skip
   rename_i r o
   cases o with
   |succ o=>cases h
   | zero=>
     simp only[mv]at h⊢;have hR:=H.row r
     split at h
     ·rename_i hr
      rw[hr]at hR;obtain⟨u,e1,e2⟩:=hR;rw[e1];obtain⟨rfl,rfl⟩:=some2 h;exact⟨_,by simp only[mv,mvs,Option.map_none], .no⟩
     ·rename_i t m n c hr
      rw[hr]at hR;obtain⟨u,e1,e2⟩:=hR;rw[e1];simp only[Option.map_some]
      split at h
      ·rename_i t2 es hr2
       obtain⟨u2,e3,_⟩:=jZ H hr2;rw[e3];simp only[List.length_map]
       split at h
       ·cases h
       rename_i c1
       rw[if_neg c1]
       split at h
       ·rename_i c2
        obtain⟨rfl,rfl⟩:=some2 h;rw[if_pos c2];exact⟨.wr (φ r) u fun u=> .mit u (some (φ m)) n (c+1),by simp only[mv,mvs], .wr (fun t u k=>⟨u,rfl,k⟩) e2 (by rw[hr];intro e;cases e)⟩
       ·rename_i c2
        obtain⟨rfl,rfl⟩:=some2 h;rw[if_neg c2];exact⟨_,by simp only[mv,mvs], .no⟩
      ·cases h
     ·cases h
 | .ext n x,hc=>fun v e h=>by
   simp only[evOp,JN φ (show cOpd x=true from hc)]at h⊢;generalize x.ev fr=X at h⊢
   cases X<;>first|(cases h;done)|skip
   rename_i l
   simp only[mv,QJ,List.getElem?_map]at h⊢
   cases hl:l[n]? with
   |none=>rw[hl]at h;cases h
   | some w=>
     rw[hl]at h;obtain⟨rfl,rfl⟩:=some2 h;exact⟨_,rfl, .no⟩
 | .call _ _,hc=>fun v e h=>by cases h
 | .callv _ _,hc=>fun v e h=>by cases h
 | .lenS x,hc=>fun v e h=>by
   simp only[evOp,JN φ (show cOpd x=true from hc)]at h⊢;generalize x.ev fr=X at h⊢
   cases X<;>first|(cases h;done)|skip
   obtain⟨rfl,rfl⟩:=some2 h;exact⟨_,by simp only[mv], .no⟩
 | .lenM x,hc=>fun v e h=>by
   simp only[evOp,JN φ (show cOpd x=true from hc)]at h⊢;generalize x.ev fr=X at h⊢
   cases X<;>first|(cases h;done)|skip
   ·obtain⟨rfl,rfl⟩:=some2 h;exact⟨_,by simp only[mv], .no⟩
   ·rename_i r
    simp only[mv]at h⊢
    split at h
    ·rename_i t es hr
     obtain⟨u,e1,e2⟩:=jZ H hr;rw[e1];obtain⟨rfl,rfl⟩:=some2 h;exact⟨_,by simp only[mv,List.length_map], .no⟩
    ·cases h
 | .lenL x,hc=>fun v e h=>by
   simp only[evOp,JN φ (show cOpd x=true from hc),Jac φ H.num]at h⊢
   cases hl:slen (x.ev fr)with
   |none=>rw[hl]at h;cases h
   | some w=>
     rw[hl]at h;obtain⟨rfl,rfl⟩:=some2 h;exact⟨_,by simp only[mv];rfl, .no⟩
 | .cap x,hc=>fun v e h=>by
   simp only[evOp,JN φ (show cOpd x=true from hc)]at h⊢;generalize x.ev fr=X at h⊢
   cases X<;>first|(cases h;done)|skip
   all_goals
    obtain⟨rfl,rfl⟩:=some2 h;exact⟨_,by simp only[mv], .no⟩
 | .app z s x,hc=>fun v e h=>by
   rw[cOp,Bool.and_eq_true]at hc;simp only[evOp,JN φ hc.1,JN φ hc.2,Jac φ H.num]at h⊢
   split at h
   ·rename_i k hk
    split at h
    ·rename_i new hn
     rw[jo H hn];simp only[JbN φ H.num]
     split at h
     ·rename_i cd
      rw[if_pos cd];exact JmH H h
     ·cases h
    ·cases h
   ·cases h
 | .copy z d x,hc=>fun v e h=>by
   rw[cOp,Bool.and_eq_true]at hc;simp only[evOp,JN φ hc.1,JN φ hc.2,Jac φ H.num,JoD φ H.num]at h⊢
   split at h
   ·rename_i n k hn hk
    split at h
    ·rename_i vs hvs
     rw[JmG H hvs];simp only
     split at h
     ·rename_i cd
      obtain⟨rfl,rfl⟩:=some2 h;rw[if_pos cd];exact⟨_,by simp only[mv], .no⟩
     rename_i cd
     rw[if_neg cd];generalize d.ev fr=D at h⊢
     cases D<;>first|(cases h;done)|skip
     all_goals
      simp only[ptrOf,mv]at h⊢;obtain⟨e1,hs,h2⟩:=cases1 h;obtain⟨rfl,rfl⟩:=some2 (congrArg some h2);obtain⟨e',k1,k2⟩:=JeD H hs;rw[mv]at k1;exact⟨e',by rw[k1];rfl,k2⟩
    ·cases h
   ·cases h
 | .min x y,hc=>fun v e h=>by
   rw[cOp,Bool.and_eq_true]at hc;simp only[evOp,JN φ hc.1,JN φ hc.2]at h⊢;generalize x.ev fr=X at h⊢;generalize y.ev fr=Y at h⊢
   cases X<;>first|(cases h;done)|skip
   cases Y<;>first|(cases h;done)|skip
   simp only[mv]at h⊢
   split at h
   ·rename_i cd
    obtain⟨rfl,rfl⟩:=some2 h;rw[if_pos cd];exact⟨_,by simp only[mv], .no⟩
   ·cases h
 | .max x y,hc=>fun v e h=>by
   rw[cOp,Bool.and_eq_true]at hc;simp only[evOp,JN φ hc.1,JN φ hc.2]at h⊢;generalize x.ev fr=X at h⊢;generalize y.ev fr=Y at h⊢
   cases X<;>first|(cases h;done)|skip
   cases Y<;>first|(cases h;done)|skip
   simp only[mv]at h⊢
   split at h
   ·rename_i cd
    obtain⟨rfl,rfl⟩:=some2 h;rw[if_pos cd];exact⟨_,by simp only[mv], .no⟩
   ·cases h
 | .clear z zs x,hc=>fun v e h=>by
   rw[cOp,Bool.and_eq_true]at hc;simp only[evOp,JN φ hc.2,Jac φ H.num]at h⊢
   split at h
   ·rename_i n hn
    split at h
    ·rename_i cd
     obtain⟨rfl,rfl⟩:=some2 h;rw[if_pos cd];exact⟨_,by rw[KU φ undefV rfl], .no⟩
    rename_i cd
    rw[if_neg cd];generalize x.ev fr=X at h⊢
    cases X<;>first|(cases h;done)|skip
    all_goals
     simp only[ptrOf,mv]at h⊢
     split at h
     ·rename_i cz
      rw[if_pos cz];obtain⟨e1,hs,h2⟩:=cases1 h;obtain⟨rfl,rfl⟩:=some2 (congrArg some h2);obtain⟨e',k1,k2⟩:=JeD H hs;rw[mv,JlZ zs hc.1]at k1;exact⟨e',by rw[k1,KU φ undefV rfl];rfl,k2⟩
     ·cases h
   ·cases h
end
def cInss :List Ins->Bool
 |[]=>true
 |x::r=>cOp x.op&&cInss r
def cC :C->Bool
 | .skip=>true
 | .reg l=>cInss l
 | .drw l _=>cInss l
 | .seq a b=>cC a&&cC b
 | .seqj _ a b=>cC a&&cC b
 | .cond c a b=>cOpd c&&(cC a&&cC b)
 | .block _ b=>cC b
 | .loop _ b=>cC b
 | .exit _=>true
 | .ret=>true
def SelfE (self:Self):Prop:=∀f args a v a',self f args a=some (v,a')->∀φ n0 i0 i g b,Emb φ n0 i0 i a b->LowE g i0 i a b->∃b',self f (args.map (mv φ)) b=some (mv φ v,b')/\PostE φ n0 i0 i g a b a' b'
theorem Jhm {self:Self}{fr:Fr}{st:St}{op:Iop}(h:op.calls=false):evCall self fr st op=(evOp fr st op).map fun(v,e)=>(v,st.ap e):=by
 cases op<;>first
  |rfl
  |cases h
theorem Jku (φ:Rn)(fr:Fr)(d:Option Nat)(v:V):put (mvF φ fr) d (mv φ v)=mvF φ (put fr d v):=by
 cases d with
 |none=>rfl
 | some i=>
   funext j;simp only[put,mvF]
   split<;>rfl
section
variable {self : Self} (hs : SelfE self) {φ : Rn} {n0 i0 i : Nat}
include hs
theorem Jgu {g:Bool}{a b:St}{fr:Fr}{op:Iop}(hc:cOp op=true)(H:Emb φ n0 i0 i a b)(hl:LowE g i0 i a b){v:V}{a':St}(h:evCall self fr a op=some (v,a')):
  ∃b',evCall self (mvF φ fr) b op=some (mv φ v,b')/\PostE φ n0 i0 i g a b a' b':=by
 cases hcal:op.calls with
 | false=>
   rw[Jhm hcal]at h⊢;obtain⟨⟨v1,e⟩,h1,h2⟩:=cases1 h;obtain⟨rfl,rfl⟩:=some2 (congrArg some h2);obtain⟨e',k1,k2⟩:=JqA H op hc _ _ h1;exact⟨_,by rw[k1];rfl,Jqz H hl k2 (jv k1).1⟩
 | true=>
   cases op<;>first|(cases hcal;done)|skip
   ·rename_i f as
    have h:self f (evs fr as) a=some (v,a'):=h;show∃b',self f (evs (mvF φ fr) as) b=some (mv φ v,b')/\_;rw[JeC φ (show cOps as=true from hc)];exact hs _ _ _ _ _ h _ _ _ _ _ _ H hl
   ·rename_i x as
    rw[cOp,Bool.and_eq_true]at hc;simp only[evCall,JN φ hc.1]at h⊢;generalize x.ev fr=X at h⊢
    cases X<;>first|(cases h;done)|skip
    simp only[mv,QJ,JeC φ hc.2,<-List.map_append]at h⊢;exact hs _ _ _ _ _ h _ _ _ _ _ _ H hl
omit hs in
theorem Emb.lo {a b:St}(H:Emb φ n0 i0 i a b)(x y:Nat):Emb φ n0 i0 i {a with low:=x} {b with low:=y}:=
 ⟨H.num,H.inj,H.suc,H.n0,H.nx,H.t,H.pos,fun p=>H.row p,KN H.wf _⟩
omit hs in
theorem Jhn {a b:St}(H:Emb φ n0 i0 i a b){s w:Nat}(hk:∃k,s=i0+k/\w=i+k)(p:Pt)(h:(a.row p).time<s):(b.row (φ p)).time<w:=by
 have hR:=H.row p;obtain⟨k,rfl,rfl⟩:=hk;have zero:(0<i0+k)->0<i+k:=fun h=>by
  have:=H.pos;omega
 cases hr:a.row p with
 |none=>rw[hr]at hR h;rw[show b.row (φ p)=_ from hR];exact zero h
 |ro l=>rw[hr]at hR h;rw[show b.row (φ p)=_ from hR];exact zero h
 |cells t l=>rw[hr]at hR h;obtain⟨u,e,k⟩:=hR;rw[e];exact(k.lt ⟨_,rfl,rfl⟩).1 h
 |dead t=>rw[hr]at hR h;exact(hR.2.lt ⟨_,rfl,rfl⟩).1 h
 |mob t l=>rw[hr]at hR h;obtain⟨u,e,k⟩:=hR;rw[e];exact(k.lt ⟨_,rfl,rfl⟩).1 h
 |sit t _ _ _=>rw[hr]at hR h;obtain⟨u,e,k⟩:=hR;rw[e];exact(k.lt ⟨_,rfl,rfl⟩).1 h
 |mit t _ _ _=>rw[hr]at hR h;obtain⟨u,e,k⟩:=hR;rw[e];exact(k.lt ⟨_,rfl,rfl⟩).1 h
omit hs in
theorem JoF {a b:St}(H:Emb φ n0 i0 i a b){fr:Fr}{s w:Nat}(hk:∃k,s=i0+k/\w=i+k){l:List Nat}(h:still fr a s l=true):still (mvF φ fr) b w l=true:=by
 unfold still at h⊢;rw[List.all_eq_true]at h⊢;intro x hx;have hx:=h x hx;simp only[mvF,Ji4 φ H.num]at hx⊢
 cases hr:rowOf (fr x)with
 |none=>rfl
 | some r=>
   rw[hr]at hx;simp only[Option.map_some]at hx⊢;exact decide_eq_true (Jhn H hk r (of_decide_eq_true hx))
theorem Ji7 {g:Bool}{a b:St}{fr:Fr}{op:Iop}{okW:Option (List Nat)}(hc:cOp op=true)(H:Emb φ n0 i0 i a b)(hl:LowE g i0 i a b){v:V}{a':St}(h:Kx self okW fr a op=some (v,a')):
  ∃b',Kx self okW (mvF φ fr) b op=some (mv φ v,b')/\PostE φ n0 i0 i g a b a' b':=by
 unfold Kx at h⊢
 split at h
 ·rename_i v1 a1 h1
  obtain⟨b1,k1,k2⟩:=Jgu hs hc (H.lo a.t b.t) (g:=true) (fun _=> .inr H.t) h1;rw[k1];simp only;have hlt:a1.low<a.t<->b1.low<b.t:=(k2.low rfl).lt H.t;have stp:∀x y,Stp φ a b {a1 with low:=x} {b1 with low:=y}:=fun x y=>⟨fun s e n=>k2.stp.frame s e n,fun s e=>k2.stp.keep s e⟩
  split at h
  ·rename_i c
   rw[if_pos (hlt.1 c)]
   cases okW with
   |none=>cases h
   | some l=>
     simp only at h⊢
     split at h
     ·rename_i cs
      obtain⟨rfl,rfl⟩:=some2 h;rw[if_pos (JoF k2.emb H.t cs)];exact⟨_,rfl,k2.emb.lo _ _,fun hg=>TR.min (k2.low rfl) (hl hg),stp _ _⟩
     ·cases h
  ·rename_i c
   obtain⟨rfl,rfl⟩:=some2 h;rw[if_neg fun x=>c (hlt.2 x)];exact⟨_,rfl,k2.emb.lo _ _,hl,stp _ _⟩
 ·cases h
theorem JoG {g:Bool}{a b:St}{fr:Fr}{draw:Bool}{x:Ins}(hc:cOp x.op=true)(H:Emb φ n0 i0 i a b)(hl:LowE g i0 i a b){fr1:Fr}{a':St}(h:evIns self draw fr a x=some (fr1,a')):
  ∃b',evIns self draw (mvF φ fr) b x=some (mvF φ fr1,b')/\PostE φ n0 i0 i g a b a' b':=by
 have go:∀{fr1 a'},evGo self draw fr a x=some (fr1,a')->∃b',evGo self draw (mvF φ fr) b x=some (mvF φ fr1,b')/\PostE φ n0 i0 i g a b a' b':=by
  intro fr1 a' h;unfold evGo at h⊢
  split at h
  ·rename_i v a1 h1
   obtain⟨rfl,rfl⟩:=some2 h;by_cases cd:(draw&&x.op.calls)=true
   ·rw[if_pos cd]at h1⊢;obtain⟨b1,k1,k2⟩:=Ji7 hs hc H hl h1;exact⟨b1,by rw[k1];simp only[Jku],k2⟩
   ·rw[if_neg cd]at h1⊢;obtain⟨b1,k1,k2⟩:=Jgu hs hc H hl h1;exact⟨b1,by rw[k1];simp only[Jku],k2⟩
  ·cases h
 have hu:∀fr:Fr,put (mvF φ fr) x.dst undefV=mvF φ (put fr x.dst undefV):=fun fr=>by
  have:=Jku φ fr x.dst undefV
  rwa [KU φ undefV rfl]at this
 unfold evIns at h⊢
 split at h
 ·exact go h
 ·rename_i q want hq
  simp only[mvF]at h⊢;generalize fr q=G at h⊢
  cases G<;>first|(cases h;done)|skip
  ·rename_i t
   simp only[mv]at h⊢
   split at h
   ·rename_i c
    rw[if_pos c];exact go h
   ·rename_i c
    rw[if_neg c];obtain⟨rfl,rfl⟩:=some2 h;exact⟨b,by rw[<-hu],H,hl,Stp.refl⟩
  ·simp only[mv]at h⊢;obtain⟨rfl,rfl⟩:=some2 h;exact⟨b,by rw[<-hu],H,hl,Stp.refl⟩
theorem qD {g:Bool}{draw:Bool}:∀{l:List Ins} {a b:St} {fr fr1:Fr} {a':St},cInss l=true->Emb φ n0 i0 i a b->LowE g i0 i a b->JH self draw l fr a=some (fr1,a')->
  ∃b',JH self draw l (mvF φ fr) b=some (mvF φ fr1,b')/\PostE φ n0 i0 i g a b a' b'
 | [],a,b,fr,fr1,a',_,H,hl,h=>by
   obtain⟨rfl,rfl⟩:=some2 h;exact⟨b,rfl,H,hl,Stp.refl⟩
 | x::r,a,b,fr,fr1,a',hc,H,hl,h=>by
   rw[cInss,Bool.and_eq_true]at hc;simp only[JH]at h⊢
   split at h
   ·rename_i fr2 a1 h1
    obtain⟨b1,k1,k2⟩:=JoG hs hc.1 H hl h1;obtain⟨b2,m1,m2⟩:=qD hc.2 k2.emb k2.low h;exact⟨b2,by rw[k1];exact m1,k2.trans H m2⟩
   ·cases h
omit hs in
def OutE (φ:Rn)(n0 i0 i:Nat)(g:Bool)(a b:St):Out->Out->Prop
 | .norm fr a', .norm fr' b'=>fr'=mvF φ fr/\PostE φ n0 i0 i g a b a' b'
 | .exit k fr a', .exit k' fr' b'=>k'=k/\fr'=mvF φ fr/\PostE φ n0 i0 i g a b a' b'
 | .ret fr a', .ret fr' b'=>fr'=mvF φ fr/\PostE φ n0 i0 i g a b a' b'
 |_,_=>False
omit hs in
theorem OutE.pre {g:Bool}{a b a1 b1:St}(H:Emb φ n0 i0 i a b)(p:PostE φ n0 i0 i g a b a1 b1):∀{x y:Out},OutE φ n0 i0 i g a1 b1 x y->OutE φ n0 i0 i g a b x y
 | .norm _ _, .norm _ _,h=>⟨h.1,p.trans H h.2⟩
 | .norm _ _, .exit _ _ _,h=>h.elim
 | .norm _ _, .ret _ _,h=>h.elim
 | .exit _ _ _, .norm _ _,h=>h.elim
 | .exit _ _ _, .exit _ _ _,h=>⟨h.1,h.2.1,p.trans H h.2.2⟩
 | .exit _ _ _, .ret _ _,h=>h.elim
 | .ret _ _, .norm _ _,h=>h.elim
 | .ret _ _, .exit _ _ _,h=>h.elim
 | .ret _ _, .ret _ _,h=>⟨h.1,p.trans H h.2⟩
omit hs in
theorem Ji8 {g:Bool}{body:Fr->St->Option Out}{live:List Nat}(hb:∀(a b:St) (fr:Fr) (out:Out),Emb φ n0 i0 i a b->LowE g i0 i a b->body fr a=some out->∃out',body (mvF φ fr) b=some out'/\OutE φ n0 i0 i g a b out out'):
  ∀(k:Nat) {a b:St} {fr:Fr} {out:Out},Emb φ n0 i0 i a b->LowE g i0 i a b->loopD body live k fr a=some out->∃out',loopD body live k (mvF φ fr) b=some out'/\OutE φ n0 i0 i g a b out out'
 |0,_,_,_,_,_,_,h=>by cases h
 | k+1,a,b,fr,out,H,hl,h=>by
   simp only[loopD]at h⊢
   split at h
   ·rename_i fr1 a1 h1
    obtain⟨o,k1,k2⟩:=hb _ _ _ _ H hl h1;rw[k1]
    cases o with
    | norm fr2 b1=>
      obtain⟨rfl,p⟩:=k2;obtain⟨o2,m1,m2⟩:=Ji8 hb k p.emb p.low h;exact⟨o2,m1,m2.pre H p⟩
    |exit _ _ _=>exact k2.elim
    |ret _ _=>exact k2.elim
   ·rename_i hn
    obtain⟨o,k1,k2⟩:=hb _ _ _ _ H hl h;rw[k1]
    cases o with
    | norm fr2 b1=>
      cases out with
      |norm fr1 a1=>exact absurd h (hn _ _)
      |exit _ _ _=>exact k2.elim
      |ret _ _=>exact k2.elim
    |exit _ _ _=>exact⟨_,rfl,k2⟩
    |ret _ _=>exact⟨_,rfl,k2⟩
omit hs in
theorem JoH (hφ:φ.ok)(inj:∀p q,φ p=φ q->p=q){fr:Fr}{chk:List (List Nat×List Nat)}(h:Ky fr chk=true):Ky (mvF φ fr) chk=true:=by
 unfold Ky at h⊢;rw[List.all_eq_true]at h⊢;intro p hp;have h1:=h p hp;simp only[List.all_eq_true]at h1⊢;intro x hx y hy;have h2:=h1 x hx y hy;simp only[mvF,Ji4 φ hφ]
 cases hr:rowOf (fr x)with
 |none=>rfl
 | some r=>
   cases hq:rowOf (fr y)with
   |none=>rfl
   | some q=>
     rw[hr,hq]at h2;simp only[Option.map_some]at h2⊢;exact decide_eq_true fun e=>of_decide_eq_true h2 (inj _ _ e)
theorem JoI (lf:Nat){g:Bool}:∀(cc:C) {a b:St} {fr:Fr} {out:Out},cC cc=true->Emb φ n0 i0 i a b->LowE g i0 i a b->evD self lf cc fr a=some out->
  ∃out',evD self lf cc (mvF φ fr) b=some out'/\OutE φ n0 i0 i g a b out out':=by
 intro cc;have two:∀(x y:C),(∀{a b:St} {fr:Fr} {out:Out},cC x=true->Emb φ n0 i0 i a b->LowE g i0 i a b->evD self lf x fr a=some out->∃out',evD self lf x (mvF φ fr) b=some out'/\OutE φ n0 i0 i g a b out out')->
   (∀{a b:St} {fr:Fr} {out:Out},cC y=true->Emb φ n0 i0 i a b->LowE g i0 i a b->evD self lf y fr a=some out->∃out',evD self lf y (mvF φ fr) b=some out'/\OutE φ n0 i0 i g a b out out')->
   ∀{a b:St} {fr:Fr} {out:Out},cC x=true->cC y=true->Emb φ n0 i0 i a b->LowE g i0 i a b->(match evD self lf x fr a with
    |some (.norm fr st)=>evD self lf y fr st
    |r=>r)=some out->∃out',(match evD self lf x (mvF φ fr) b with
    |some (.norm fr st)=>evD self lf y fr st
    |r=>r)=some out'/\OutE φ n0 i0 i g a b out out':=by
  intro x y ihx ihy a b fr out hx hy H hl h
  split at h
  ·rename_i fr1 a1 h1
   obtain⟨o,k1,k2⟩:=ihx hx H hl h1;rw[k1]
   cases o with
   | norm fr2 b1=>
     obtain⟨rfl,p⟩:=k2;obtain⟨o2,m1,m2⟩:=ihy hy p.emb p.low h;exact⟨o2,m1,m2.pre H p⟩
   |exit _ _ _=>exact k2.elim
   |ret _ _=>exact k2.elim
  ·rename_i hn
   obtain⟨o,k1,k2⟩:=ihx hx H hl h;rw[k1]
   cases o with
   | norm fr2 b1=>
     cases out with
     |norm fr1 a1=>exact absurd h (hn _ _)
     |exit _ _ _=>exact k2.elim
     |ret _ _=>exact k2.elim
   |exit _ _ _=>exact⟨_,rfl,k2⟩
   |ret _ _=>exact⟨_,rfl,k2⟩
 induction cc with
 | skip=>
   intro a b fr out _ H hl h;simp only[evD,Option.some.injEq]at h;subst h;exact⟨.norm (mvF φ fr) b,rfl,rfl,H,hl,Stp.refl⟩
 | reg l=>
   intro a b fr out hc H hl h;simp only[evD]at h⊢;obtain⟨⟨fr1,a1⟩,h1,h2⟩:=cases1 h;subst h2;obtain⟨b1,k1,k2⟩:=qD hs hc H hl h1;exact⟨.norm (mvF φ fr1) b1,by rw[k1];rfl,rfl,k2⟩
 | drw l chk=>
   intro a b fr out hc H hl h;simp only[evD]at h⊢
   split at h
   ·rename_i fr1 a1 h1
    obtain⟨b1,k1,k2⟩:=qD hs hc H hl h1;rw[k1]
    split at h
    ·rename_i ca
     injection h with h;subst h;exact⟨.norm (mvF φ fr1) b1,by simp only[JoH H.num H.inj ca,if_true],rfl,k2⟩
    ·cases h
   ·cases h
 | seq x y ihx ihy=>
   intro a b fr out hc H hl h;rw[cC,Bool.and_eq_true]at hc;simp only[evD]at h⊢;exact two x y ihx ihy hc.1 hc.2 H hl h
 | seqj live x y ihx ihy=>
   intro a b fr out hc H hl h;rw[cC,Bool.and_eq_true]at hc;simp only[evD]at h⊢;exact two x y ihx ihy hc.1 hc.2 H hl h
 | cond c x y ihx ihy=>
   intro a b fr out hc H hl h;rw[cC,Bool.and_eq_true,Bool.and_eq_true]at hc;simp only[evD,JN φ hc.1]at h⊢;generalize c.ev fr=G at h⊢
   cases G<;>first|(cases h;done)|skip
   simp only[mv]at h⊢
   split at h
   ·rename_i c;rw[if_pos c];exact ihx hc.2.1 H hl h
   ·rename_i c;rw[if_neg c];exact ihy hc.2.2 H hl h
 | block id x ih=>
   intro a b fr out hc H hl h;simp only[evD]at h⊢
   split at h
   ·rename_i k fr1 a1 h1
    obtain⟨o,k1,k2⟩:=ih hc H hl h1;rw[k1]
    cases o with
    |norm _ _=>exact k2.elim
    |ret _ _=>exact k2.elim
    | exit k' fr2 b1=>
      obtain⟨rfl,rfl,p⟩:=k2;simp only
      split at h
      ·rename_i c
       injection h with h;subst h;rw[if_pos c];exact⟨.norm (mvF φ fr1) b1,rfl,rfl,p⟩
      ·rename_i c
       injection h with h;subst h;rw[if_neg c];exact⟨.exit k' (mvF φ fr1) b1,rfl,rfl,rfl,p⟩
   ·rename_i hn
    obtain⟨o,k1,k2⟩:=ih hc H hl h;rw[k1]
    cases o with
    | exit k' fr2 b1=>
      cases out with
      |exit _ _ _=>exact absurd h (hn _ _ _)
      |norm _ _=>exact k2.elim
      |ret _ _=>exact k2.elim
    |norm _ _=>exact⟨_,rfl,k2⟩
    |ret _ _=>exact⟨_,rfl,k2⟩
 | loop live x ih=>
   intro a b fr out hc H hl h;exact Ji8 (fun a b fr out H hl h=>ih hc H hl h) lf H hl h
 | exit k=>
   intro a b fr out _ H hl h;simp only[evD,Option.some.injEq]at h;subst h;exact⟨.exit k (mvF φ fr) b,rfl,rfl,rfl,H,hl,Stp.refl⟩
 | ret=>
   intro a b fr out _ H hl h;simp only[evD,Option.some.injEq]at h;subst h;exact⟨.ret (mvF φ fr) b,rfl,rfl,H,hl,Stp.refl⟩
end
section
variable {φ : Rn} {n0 i0 i : Nat} {a b : St}
theorem Jl0 (args:List V):initFr (args.map (mv φ))=mvF φ (initFr args):=by
 funext j;simp only[initFr,mvF,List.getElem?_map]
 cases args[j]? with
 |none=>exact(KU φ undefV rfl).symm
 |some x=>rfl
theorem Js2 (H:Emb φ n0 i0 i a b){fr:Fr}:∀{s:RS} {v:V},evRes fr a s=some v->evRes (mvF φ fr) b s=some (mv φ v)
 | .s k,v,h=>by injection h with h;subst h;rfl
 | .c1 k,v,h=>by
   simp only[evRes,mvF]at h⊢
   split at h
   ·rename_i w hw
    injection h with h;subst h;rw[jE H hw];rfl
   ·cases h
 | .cn k n,v,h=>by
   simp only[evRes,mvF]at h⊢
   cases hw:loadN a n (fr k)with
   |none=>rw[hw]at h;cases h
   | some l=>
     rw[hw]at h;injection h with h;subst h;rw[jE H hw];simp only[Option.map_some,mv,QJ]
theorem Jho (H:Emb φ n0 i0 i a b){fr:Fr}:∀{l:List RS} {vs:List V},l.mapM (evRes fr a)=some vs->l.mapM (evRes (mvF φ fr) b)=some (vs.map (mv φ))
 |[],vs,h=>by simp at h;subst h;rfl
 | s::r,vs,h=>by
   rw[List.mapM_cons]at h⊢
   cases h1:evRes fr a s with
   |none=>simp[h1]at h
   | some v=>
     cases h2:r.mapM (evRes fr a)with
     |none=>simp[h1,h2]at h
     | some ws=>
       simp[h1,h2]at h;subst h;simp[Js2 H h1,Jho H h2]
theorem JeE (H:Emb φ n0 i0 i a b){fr:Fr}{l:List RS}{v:V}(h:Ql l fr a=some v):Ql l (mvF φ fr) b=some (mv φ v):=by
 unfold Ql at h⊢
 split at h
 ·rename_i u hu
  injection h with h;subst h;rw[Jho H hu];rfl
 ·rename_i vs hn hu
  injection h with h;subst h;rw[Jho H hu]
  cases vs with
  |nil=>simp[mv,QJ]
  | cons x r=>
    cases r with
    |nil=>exact(hn x rfl).elim
    |cons y r=>simp[mv,QJ]
 ·cases h
end
def BodyE (b:Self->List V->St->Option (V×St)):Prop:=∀self,SelfE self->∀args a v a',b self args a=some (v,a')->∀φ n0 i0 i g c,Emb φ n0 i0 i a c->LowE g i0 i a c->∃c',b self (args.map (mv φ)) c=some (mv φ v,c')/\PostE φ n0 i0 i g a c a' c'
theorem Js3 {lf:Nat}{cf:Fn}(hc:cC cf.body=true):BodyE (evFn lf cf):=by
 intro self hs args a v a' h φ n0 i0 i g c H hl;unfold evFn at h⊢
 cases hd:evD self lf cf.body (initFr args) a with
 |none=>rw[hd]at h;cases h
 | some out=>
   rw[hd]at h;obtain⟨o,k1,k2⟩:=JoI hs lf cf.body hc H hl hd;rw[Jl0,k1]
   cases out with
   | norm fr a1=>
     cases o with
     | norm fr' c1=>
       obtain⟨rfl,p⟩:=k2;simp only at h⊢;obtain⟨v1,h1,h2⟩:=cases1 h;obtain⟨rfl,rfl⟩:=some2 (congrArg some h2);exact⟨_,by rw[JeE p.emb h1];rfl,p⟩
     |exit _ _ _=>exact k2.elim
     |ret _ _=>exact k2.elim
   |exit _ _ _=>cases h
   | ret fr a1=>
     cases o with
     | ret fr' c1=>
       obtain⟨rfl,p⟩:=k2;simp only at h⊢;obtain⟨v1,h1,h2⟩:=cases1 h;obtain⟨rfl,rfl⟩:=some2 (congrArg some h2);exact⟨_,by rw[JeE p.emb h1];rfl,p⟩
     |exit _ _ _=>exact k2.elim
     |norm _ _=>exact k2.elim
theorem JsD {T:Table}(h:∀f b,T f=some b->BodyE b):∀n,SelfE (run T n)
 |0=>fun f args a v a' he=>by cases he
 | n+1=>fun f args a v a' he φ n0 i0 i g b H hl=>by
   simp only[run]at he⊢
   split at he
   ·rename_i bd hb
    exact h f bd hb (run T n) (JsD h n) args a v a' he φ n0 i0 i g b H hl
   ·cases he
def TabE (T:Table):Prop:=∀n,SelfE (run T n)
theorem JoJ {g:List V->Option V}(hg:∀φ args v,g args=some v->g (args.map (mv φ))=some (mv φ v)):BodyE (hookE g).b:=by
 intro self hs args a v a' h φ n0 i0 i gg c H hl;simp only[hookE]at h⊢
 split at h
 ·rename_i w hw
  obtain⟨rfl,rfl⟩:=some2 h;rw[hg φ _ _ hw];exact⟨_,rfl,H,hl,Stp.refl⟩
 ·cases h
theorem Js4 :BodyE deadB:=fun self hs args a v a' h=>by cases h
theorem JtQ {t:BT}(h:t.all fun _ e=>BodyE e.b):∀f,BodyE (selB t f):=by
 induction t with
 | leaf i e=>
   intro f;show BodyE (bif Nat.beq f i then e.b else deadB)
   cases Nat.beq f i with
   |true=>exact h
   |false=>exact Js4
 | node n l r ihl ihr=>
   intro f;show BodyE (bif Nat.ble f n then selB l f else selB r f)
   cases Nat.ble f n with
   |true=>exact ihl h.1 f
   |false=>exact ihr h.2 f
theorem JtR {t:BT}(h:t.all fun _ e=>BodyE e.b):TabE (tabT t):=JsD fun f b hb=>by
 have hb:some (selB t f)=some b:=hb;injection hb with hb;subst hb;exact JtQ h f
theorem JtS {g:List V->Option V}(h:∀args v,g args=some v->(∃n v' m w,args=[.str n v', .str m w])/\closed v=true):BodyE (hookE g).b:=JoJ fun φ args v hg=>by
 obtain⟨⟨n,v',m,w,rfl⟩,hc⟩:=h args v hg;rw[KU φ v hc];exact hg
theorem Ji9 :BodyE (hookE Yf).b:=JtS fun args v h=>by
 unfold Yf at h
 split at h
 ·split at h
  ·injection h with h;subst h;exact⟨⟨_,_,_,_,rfl⟩,rfl⟩
  ·cases h
 ·cases h
mutual
def inV (n:Nat):V->Bool
 | .ptr r _=>decide (r.num<n)
 | .sl r _ _ _=>decide (r.num<n)
 | .slx r _ _ _ _=>decide (r.num<n)
 | .map r=>decide (r.num<n)
 | .fn _ a b=>inVs n a&&inVs n b
 | .agg l=>inVs n l
 | .tup l=>inVs n l
 |_=>true
def inVs (n:Nat):List V->Bool
 |[]=>true
 |x::r=>inV n x&&inVs n r
end
def inEs (n:Nat):List (V×V)->Bool
 |[]=>true
 |p::r=>(inV n p.1&&inV n p.2)&&inEs n r
def inR (n:Nat):Row->Bool
 | .cells _ l=>inVs n l
 | .ro l=>inVs n l
 | .mob _ es=>inEs n es
 | .mit _ (some m) _ _=>decide (m.num<n)
 |_=>true
def inT (n:Nat):Tr->Bool
 | .e=>true
 | .n v a b c d=>inR n v&&(inT n a&&(inT n b&&(inT n c&&inT n d)))
theorem jh {n:Nat}:∀(p:Pt) (t:Tr),inT n t=true->inR n (t.get p)=true
 |_, .e,_=>by unfold Tr.get;rfl
 | .h, .n v _ _ _ _,h=>by rw[inT,Bool.and_eq_true]at h;exact h.1
 | .a p, .n v x _ _ _,h=>by rw[inT,Bool.and_eq_true,Bool.and_eq_true]at h;exact jh p x h.2.1
 | .b p, .n v _ x _ _,h=>by rw[inT,Bool.and_eq_true,Bool.and_eq_true,Bool.and_eq_true]at h;exact jh p x h.2.2.1
 | .c p, .n v _ _ x _,h=>by rw[inT,Bool.and_eq_true,Bool.and_eq_true,Bool.and_eq_true,Bool.and_eq_true]at h;exact jh p x h.2.2.2.1
 | .d p, .n v _ _ _ x,h=>by rw[inT,Bool.and_eq_true,Bool.and_eq_true,Bool.and_eq_true,Bool.and_eq_true]at h;exact jh p x h.2.2.2.2
mutual
theorem JeF (n:Nat):∀v:V,closed v=true->inV n v=true
 | .ptr _ _,h=>by simp[closed]at h
 | .sl _ _ _ _,h=>by simp[closed]at h
 | .slx _ _ _ _ _,h=>by simp[closed]at h
 | .map _,h=>by simp[closed]at h
 | .fn _ a b,h=>by
   rw[closed,Bool.and_eq_true]at h;rw[inV,YM n a h.1,YM n b h.2];rfl
 | .agg l,h=>by rw[closed]at h;rw[inV,YM n l h]
 | .tup l,h=>by rw[closed]at h;rw[inV,YM n l h]
 | .bool _,_=>by simp[inV]
 | .int _ _,_=>by simp[inV]
 | .im _ _,_=>by simp[inV]
 | .str _ _,_=>by simp[inV]
 | .pnil,_=>by simp[inV]
 | .snil,_=>by simp[inV]
 | .mnil,_=>by simp[inV]
 | .fnil,_=>by simp[inV]
 | .any,_=>by simp[inV]
 | .opq _,_=>by simp[inV]
theorem YM (n:Nat):∀l:List V,closeds l=true->inVs n l=true
 |[],_=>by rw[inVs]
 | x::r,h=>by
   rw[closeds,Bool.and_eq_true]at h;rw[inVs,JeF n x h.1,YM n r h.2];rfl
end
structure Agr (n:Nat) (φ ψ:Rn):Prop where
 f:∀p:Pt,p.num<n->ψ p=φ p
 s:ψ.s=φ.s
theorem Agr.refl (n:Nat)(φ:Rn):Agr n φ φ:=⟨fun _ _=>rfl,rfl⟩
theorem Agr.trans {n m:Nat}{φ ψ χ:Rn}(h:Agr n φ ψ)(k:Agr m ψ χ)(hm:n<=m):Agr n φ χ:=⟨fun p e=>by rw[k.f p (by omega),h.f p e],by rw[k.s,h.s]⟩
section
variable {n : Nat} {φ ψ : Rn} (h : Agr n φ ψ)
include h
mutual
theorem Jkv :∀v:V,inV n v=true->mv ψ v=mv φ v
 | .ptr r _,e=>by rw[mv,mv,h.f r (of_decide_eq_true e)]
 | .sl r _ _ _,e=>by rw[mv,mv,h.f r (of_decide_eq_true e)]
 | .slx r _ _ _ _,e=>by rw[mv,mv,h.f r (of_decide_eq_true e)]
 | .map r,e=>by rw[mv,mv,h.f r (of_decide_eq_true e)]
 | .fn _ a b,e=>by rw[inV,Bool.and_eq_true]at e;rw[mv,mv,Jae a e.1,Jae b e.2]
 | .agg l,e=>by rw[inV]at e;rw[mv,mv,Jae l e]
 | .tup l,e=>by rw[inV]at e;rw[mv,mv,Jae l e]
 | .bool _,_=>by rw[mv,mv]
 | .int _ _,_=>by rw[mv,mv]
 | .im _ _,_=>by rw[mv,mv]
 | .str _ _,_=>by rw[mv,mv]
 | .pnil,_=>by rw[mv,mv]
 | .snil,_=>by rw[mv,mv]
 | .mnil,_=>by rw[mv,mv]
 | .fnil,_=>by rw[mv,mv]
 | .any,_=>by rw[mv,mv]
 | .opq _,_=>by rw[mv,mv,h.s]
theorem Jae :∀l:List V,inVs n l=true->mvs ψ l=mvs φ l
 |[],_=>by rw[mvs,mvs]
 |x::r,e=>by rw[inVs,Bool.and_eq_true]at e;rw[mvs,mvs,Jkv x e.1,Jae r e.2]
end
theorem JdE {l:List V}(e:inVs n l=true):l.map (mv ψ)=l.map (mv φ):=by rw[<-QJ,<-QJ,Jae h l e]
theorem JoK :∀{l:List (V×V)},inEs n l=true->l.map (mv2 ψ)=l.map (mv2 φ)
 |[],_=>rfl
 | p::r,e=>by
   rw[inEs,Bool.and_eq_true,Bool.and_eq_true]at e;rw[List.map_cons,List.map_cons,JoK e.2];unfold mv2;rw[Jkv h _ e.1.1,Jkv h _ e.1.2]
theorem JbP {T T':Nat->Nat->Prop}{r x:Row}(e:inR n r=true)(k:RowE φ T r x)(ht:r≠ .none->T r.time x.time->T' r.time x.time)(hz:∀u,x≠ .none->x.time=u->r≠ .none->T r.time u->T' r.time u):RowE ψ T' r x:=by
 cases r with
 |none=>exact k
 |cells t l=>obtain⟨u,k1,k2⟩:=k;exact⟨u,by rw[JdE h e];exact k1,hz u (by rw[k1];intro e;cases e) (by rw[k1];rfl) (by intro e;cases e) k2⟩
 |dead t=>exact⟨k.1,hz _ k.1 rfl (by intro e;cases e) k.2⟩
 |mob t l=>obtain⟨u,k1,k2⟩:=k;exact⟨u,by rw[JoK h e];exact k1,hz u (by rw[k1];intro e;cases e) (by rw[k1];rfl) (by intro e;cases e) k2⟩
 |sit t _ _ _=>obtain⟨u,k1,k2⟩:=k;exact⟨u,k1,hz u (by rw[k1];intro e;cases e) (by rw[k1];rfl) (by intro e;cases e) k2⟩
 | mit t m _ _=>
   obtain⟨u,k1,k2⟩:=k;refine⟨u, ?_,hz u (by rw[k1];intro e;cases e) (by rw[k1];rfl) (by intro e;cases e) k2⟩
   cases m with
   |none=>exact k1
   |some m=>rw[k1,Option.map_some,Option.map_some,h.f m (of_decide_eq_true e)]
 |ro l=>rw[show x=_ from k];show _=_;rw[JdE h e]
end
theorem JdF {φ:Rn}{T:Nat->Nat->Prop}{r x:Row}(k:RowE φ T r x)(h:r≠ .none):x≠ .none:=by
 cases r with
 |none=>exact absurd rfl h
 |cells t l=>obtain⟨u,k1,_⟩:=k;rw[k1];intro e;cases e
 |dead t=>exact k.1
 |mob t l=>obtain⟨u,k1,_⟩:=k;rw[k1];intro e;cases e
 |sit t _ _ _=>obtain⟨u,k1,_⟩:=k;rw[k1];intro e;cases e
 |mit t _ _ _=>obtain⟨u,k1,_⟩:=k;rw[k1];intro e;cases e
 |ro l=>rw[show x=_ from k];intro e;cases e
abbrev TT :Nat->Nat->Prop:=fun _ _=>True
structure Hold (φ:Rn) (a S:St):Prop where
 num:φ.ok
 inj:∀p q,φ p=φ q->p=q
 lt:∀p:Pt,p.num<a.nx.num->(φ p).num<S.nx.num
 row:∀p:Pt,p.num<a.nx.num->RowE φ TT (a.row p) (S.row (φ p))
 scope:inT a.nx.num a.h=true
 pos:0<a.t->0<S.t
 wfa:WF a
 wf:WF S
section
variable {φ : Rn} {a S S' : St}
theorem Hold.none (H:Hold φ a S){p:Pt}(hp:a.row p≠ .none):p.num<a.nx.num:=H.wfa.nx p hp
theorem Hold.keep (H:Hold φ a S)(m:Mono S S')(k:∀p,a.row p≠ .none->S'.row (φ p)=S.row (φ p)):Hold φ a S':=by
 refine⟨H.num,H.inj,fun p e=>Nat.lt_of_lt_of_le (H.lt p e) m.nx,fun p e=> ?_,H.scope,fun h=>Nat.lt_of_lt_of_le (H.pos h) m.t,H.wfa,m.wf⟩;by_cases c:a.row p= .none
 ·have h1:=H.row p e;rw[c]at h1⊢;have h1:S.row (φ p)= .none:=h1;show S'.row (φ p)= .none;apply Classical.byContradiction;intro x;have:=m.born _ h1 x;have:=H.lt p e;omega
 ·rw[k p c];exact H.row p e
theorem Hold.keep' (H:Hold φ a S)(m:Mono S S')(k:∀p,a.row p≠ .none->(∀t,a.row p≠ .dead t)->S'.row (φ p)=S.row (φ p)):Hold φ a S':=by
 refine⟨H.num,H.inj,fun p e=>Nat.lt_of_lt_of_le (H.lt p e) m.nx,fun p e=> ?_,H.scope,fun h=>Nat.lt_of_lt_of_le (H.pos h) m.t,H.wfa,m.wf⟩;by_cases c:a.row p= .none
 ·have h1:=H.row p e;rw[c]at h1⊢;have h1:S.row (φ p)= .none:=h1;show S'.row (φ p)= .none;apply Classical.byContradiction;intro x;have:=m.born _ h1 x;have:=H.lt p e;omega
 ·by_cases d:∃t,a.row p= .dead t
  ·obtain⟨t,d⟩:=d;have h1:=H.row p e;rw[d]at h1⊢;refine⟨?_,trivial⟩;by_cases x:S'.row (φ p)=S.row (φ p)
   ·rw[x];exact h1.1
   ·exact(m.row _ x).2
  ·rw[k p c fun t x=>d ⟨t,x⟩];exact H.row p e
theorem Hold.gr (H:Hold φ a S)(g:Gr S S'):Hold φ a S':=H.keep g.mono fun p c=>g.same _ (JdF (H.row p (H.none c)) c)
theorem Hold.low (H:Hold φ a S)(x:Nat):Hold φ a {S with low:=x}:=⟨H.num,H.inj,H.lt,H.row,H.scope,H.pos,H.wfa,KN H.wf _⟩
theorem Hold.start (s:Nat->V)(hs:∀i,∃k n,s i= .int k n)(hw:WF S):Hold ⟨fun p=>up p.num S.nx,s⟩ St.start S:=by
 refine⟨hs,fun p q h=> ?_,fun p h=>absurd h (Nat.not_lt_zero _),fun p h=>absurd h (Nat.not_lt_zero _),rfl,fun h=>absurd h (Nat.lt_irrefl _),⟨fun r h=> ?_,fun r h=> ?_⟩,hw⟩
 ·have h:up p.num S.nx=up q.num S.nx:=h;rw[Jc6]at h;exact Pt.num_inj h
 ·exact absurd (by unfold St.row St.start;simp[Tr.get]) h
 ·exact absurd (by unfold St.row St.start;simp[Tr.get]) h
theorem Hold.emb (H:Hold φ a S):∃ψ:Rn,Agr a.nx.num φ ψ/\Emb ψ a.nx.num a.t S.t a S:=by
 refine⟨⟨fun p=>if p.num<a.nx.num then φ p else up (p.num-a.nx.num) S.nx,φ.s⟩,⟨fun p h=>if_pos h,rfl⟩, ?_⟩;have ag:Agr a.nx.num φ ⟨fun p=>if p.num<a.nx.num then φ p else up (p.num-a.nx.num) S.nx,φ.s⟩:=⟨fun p h=>if_pos h,rfl⟩
 refine⟨H.num,fun p q h=> ?_,fun p h=> ?_,Nat.le_refl _, ?_,⟨0,rfl,rfl⟩,H.pos,fun p=> ?_,H.wf⟩
 ·have h:(if p.num<a.nx.num then φ p else up (p.num-a.nx.num) S.nx)=(if q.num<a.nx.num then φ q else up (q.num-a.nx.num) S.nx):=h;by_cases c:p.num<a.nx.num
  ·by_cases d:q.num<a.nx.num
   ·rw[if_pos c,if_pos d]at h;exact H.inj _ _ h
   ·rw[if_pos c,if_neg d]at h;have h1:=H.lt p c;rw[h,Yt]at h1;omega
  ·by_cases d:q.num<a.nx.num
   ·rw[if_neg c,if_pos d]at h;have h1:=H.lt q d;rw[<-h,Yt]at h1;omega
   ·rw[if_neg c,if_neg d,Jc6]at h;exact Pt.num_inj (by omega)
 ·show(if p.suc.num<a.nx.num then φ p.suc else up (p.suc.num-a.nx.num) S.nx)=(if p.num<a.nx.num then φ p else up (p.num-a.nx.num) S.nx).suc;rw[Pt.num_suc,if_neg (by omega),if_neg (by omega),Yw,show p.num+1-a.nx.num=p.num-a.nx.num+1 by omega]
 ·show S.nx=if a.nx.num<a.nx.num then φ a.nx else up (a.nx.num-a.nx.num) S.nx;rw[if_neg (Nat.lt_irrefl _),Nat.sub_self];rfl
 ·show RowE _ _ (a.row p) (S.row (if p.num<a.nx.num then φ p else up (p.num-a.nx.num) S.nx));by_cases c:p.num<a.nx.num
  ·rw[if_pos c];refine JbP ag (jh p a.h H.scope) (H.row p c) (fun h1 h2=> ?_) fun u hx hu hr _=> ?_
   ·exact .inl ⟨H.wfa.t p h1,H.wf.t _ (JdF (H.row p c) h1)⟩
   ·exact .inl ⟨H.wfa.t p hr,by rw[<-hu];exact H.wf.t _ hx⟩
  ·rw[if_neg c];have h1:a.row p= .none:=Classical.byContradiction fun h=>c (H.wfa.nx p h);rw[h1];show S.row _= .none;apply Classical.byContradiction;intro h;have:=H.wf.nx _ h;rw[Yt]at this;omega
theorem Hold.go {T:Table}(hE:TabE T)(hM:TabM T)(hU:∀f b,T f=some b->BodyUp b)(H:Hold φ a S){n f:Nat}{args:List V}{v:V}{a':St}(ha:inVs a.nx.num args=true)(h:run T n f args {a with low:=a.t}=some (v,a'))
  (hl:a.t<=a'.low) (hs:inT a'.nx.num a'.h=true):Does T f (args.map (mv φ)) S fun u S'=>Gr S S'/\∃ψ,Agr a.nx.num φ ψ/\u=mv ψ v/\Hold ψ a' S'/\∀p:Pt,a.nx.num<=p.num->S.row (ψ p)= .none:=by
 obtain⟨ψ,ag,E⟩:=H.emb;have fresh:∀p:Pt,a.nx.num<=p.num->S.row (ψ p)= .none:=fun p hp=>E.none (Classical.byContradiction fun c=>absurd (H.wfa.nx p c) (by omega));have E:=E.lo a.t S.low;obtain⟨S1,h1,p1⟩:=hE n f args _ v a' h ψ _ _ _ false S E (fun h=>by cases h);rw[JdE ag ha]at h1;refine⟨mv ψ v,S1, ?_,n,fun m hm=>JnD hU m hm _ _ _ _ h1⟩;have mS:Mon S S1:=hM n _ _ _ _ _ h1 H.wf;have ma:Mon {a with low:=a.t} a':=hM n _ _ _ _ _ h (KN H.wfa _);have olda:∀p,a.row p≠ .none->a'.row p=a.row p:=fun p e=>Classical.byContradiction fun c=>by
  have h1:a'.low<=(a.row p).time:=ma.mono.old p e c;have h2:=H.wfa.t p e;omega
 have gr:Gr S S1:=mS.gr fun r e=>by
  by_cases c:∃p,a.row p≠ .none/\ψ p=r
  ·obtain⟨p,c1,rfl⟩:=c;apply Classical.byContradiction;intro x;have h1:=(mS.mono.row _ x).1;have h2:=Jhn p1.emb (s:=a.t) (w:=S.t) ⟨0,rfl,rfl⟩ p (by rw[olda p c1];exact H.wfa.t p c1);omega
  ·exact p1.stp.frame r e fun p hp hr=>c ⟨p,hp,hr⟩
 refine⟨gr,ψ,ag,rfl,⟨p1.emb.num,p1.emb.inj,fun p hp=> ?_,fun p hp=> ?_,hs,fun h0=> ?_,ma.mono.wf,p1.emb.wf⟩,fresh⟩
 ·have hn:=p1.emb.nx;rw[hn];by_cases c:p.num<a.nx.num
  ·have h1:=H.lt p c;rw[ag.f p c];have h2:=mS.mono.nx;rw[hn]at h2;omega
  ·have key:∀k (q:Pt),a.nx.num<=q.num->(ψ (up k q)).num=(ψ q).num+k:=by
    intro k
    induction k with
    |zero=>intro q _;rfl
    | succ k ih=>
      intro q hq;show(ψ (up k q).suc).num=_;rw[E.suc _ (by rw[Yt];omega),Pt.num_suc,ih q hq];omega
   have e:a'.nx=up (a'.nx.num-p.num) p:=Pt.num_inj (by rw[Yt];omega);rw[e,key _ _ (by omega)];omega
 ·have:=p1.emb.row p;exact JbP (Agr.refl _ ψ) (jh p a'.h hs) this (fun _ _=>trivial) fun _ _ _ _ _=>trivial
 ·obtain⟨k,k1,k2⟩:=p1.emb.t;have:=p1.emb.pos;omega
theorem Hold.add (H:Hold φ a S){q:Pt}{f:Nat->Row}(hf:∀u,(f u).time=u/\f u≠ .none)(hq:S.row q≠ .none)(ho:∀p:Pt,p.num<a.nx.num->φ p≠q)(hr:RowE φ TT (f a.t) (S.row q))(hi:inR a.nx.num (f a.t)=true)(hs:inT (a.new f).nx.num (a.new f).h=true):
  ∃ψ:Rn,Agr a.nx.num φ ψ/\ψ a.nx=q/\Hold ψ (a.new f) S:=by
 have ag:Agr a.nx.num φ ⟨fun p=>if p.num<a.nx.num then φ p else if p=a.nx then q else up p.num S.nx,φ.s⟩:=⟨fun p h=>if_pos h,rfl⟩
 have hqn:=H.wf.nx q hq;refine⟨_,ag, ?_,H.num,fun p r h=> ?_,fun p h=> ?_,fun p h=> ?_,hs,fun _=>Nat.lt_of_le_of_lt (Nat.zero_le _) (H.wf.t q hq),(kf H.wfa hf).wf,H.wf⟩
 ·show(if a.nx.num<a.nx.num then φ a.nx else if a.nx=a.nx then q else up a.nx.num S.nx)=q;rw[if_neg (Nat.lt_irrefl _),if_pos rfl]
 ·have h:(if p.num<a.nx.num then φ p else if p=a.nx then q else up p.num S.nx)=(if r.num<a.nx.num then φ r else if r=a.nx then q else up r.num S.nx):=h;have cs:∀p:Pt,(p.num<a.nx.num/\(if p.num<a.nx.num then φ p else if p=a.nx then q else up p.num S.nx)=φ p)\/(p=a.nx/\(if p.num<a.nx.num then φ p else if p=a.nx then q else up p.num S.nx)=q)\/(a.nx.num<=p.num/\p≠a.nx/\(if p.num<a.nx.num then φ p else if p=a.nx then q else up p.num S.nx)=up p.num S.nx):=fun p=>by
   by_cases c:p.num<a.nx.num
   ·exact .inl ⟨c,if_pos c⟩
   ·by_cases d:p=a.nx
    ·exact .inr (.inl ⟨d,by rw[if_neg c,if_pos d]⟩)
    ·exact .inr (.inr ⟨by omega,d,by rw[if_neg c,if_neg d]⟩)
  rcases cs p with⟨c1,c2⟩|⟨c1,c2⟩|⟨c1,c2,c3⟩<;>rcases cs r with⟨d1,d2⟩|⟨d1,d2⟩|⟨d1,d2,d3⟩
  ·rw[c2,d2]at h;exact H.inj _ _ h
  ·rw[c2,d2]at h;exact absurd h (ho p c1)
  ·rw[c2,d3]at h;have h1:=H.lt p c1;rw[h,Yt]at h1;omega
  ·rw[c2,d2]at h;exact absurd h.symm (ho r d1)
  ·rw[c1,d1]
  ·rw[c2,d3]at h;rw[h,Yt]at hqn;omega
  ·rw[c3,d2]at h;have h1:=H.lt r d1;rw[<-h,Yt]at h1;omega
  ·rw[c3,d2]at h;rw[<-h,Yt]at hqn;omega
  ·rw[c3,d3,Jc6]at h;exact Pt.num_inj h
 ·have h:p.num<a.nx.suc.num:=h;rw[Pt.num_suc]at h;show(if p.num<a.nx.num then φ p else if p=a.nx then q else up p.num S.nx).num<S.nx.num;by_cases c:p.num<a.nx.num
  ·rw[if_pos c];exact H.lt p c
  ·rw[if_neg c,if_pos (Pt.num_inj (by omega))];exact hqn
 ·have h:p.num<a.nx.suc.num:=h;rw[Pt.num_suc]at h;show RowE _ _ ((a.new f).row p) (S.row (if p.num<a.nx.num then φ p else if p=a.nx then q else up p.num S.nx));rw[Kb];by_cases c:p.num<a.nx.num
  ·rw[if_neg fun e=>by rw[e]at c;omega,if_pos c];exact JbP ag (jh p a.h H.scope) (H.row p c) (fun _ _=>trivial) fun _ _ _ _ _=>trivial
  ·have e:p=a.nx:=Pt.num_inj (by omega);rw[if_pos e,if_neg c,if_pos e];exact JbP ag hi hr (fun _ _=>trivial) fun _ _ _ _ _=>trivial
end
def callsB (g:Nat)(i:Ins):Bool:=match i.op with
 | .call f _=>Nat.beq f g
 |_=>false
def cutI (g:Nat):List Ins->Option (List Ins×List Ins)
 |[]=>none
 |i::r=>bif callsB g i then some ([],i::r)else(cutI g r).map fun p=>(i::p.1,p.2)
def cutC (g K:Nat):C->C
 | .reg l=>match cutI g l with
   |some p=> .seq (.reg p.1) (.exit K)
   |none=> .reg l
 | .drw l chk=>match cutI g l with
   |some p=> .seq (.drw p.1 []) (.exit K)
   |none=> .drw l chk
 | .seq a b=> .seq (cutC g K a) (cutC g K b)
 | .seqj l a b=> .seqj l (cutC g K a) (cutC g K b)
 | .cond c a b=> .cond c (cutC g K a) (cutC g K b)
 | .block id b=> .block id (cutC g K b)
 |c=>c
def restC (g:Nat):C->Option C
 | .reg l=>(cutI g l).map fun p=> .reg p.2
 | .drw l chk=>(cutI g l).map fun p=> .drw p.2 chk
 | .seq a b=>match restC g a with
   |some a'=>some (.seq a' b)
   |none=>restC g b
 | .seqj l a b=>match restC g a with
   |some a'=>some (.seqj l a' b)
   |none=>restC g b
 | .cond _ a b=>match restC g a with
   |some a'=>some a'
   |none=>restC g b
 | .block id b=>(restC g b).map (.block id)
 |_=>none
def oneC (g:Nat):C->Bool
 | .seq a b=>(oneC g a&&oneC g b)&& !((restC g a).isSome&&(restC g b).isSome)
 | .seqj _ a b=>(oneC g a&&oneC g b)&& !((restC g a).isSome&&(restC g b).isSome)
 | .cond _ a b=>(oneC g a&&oneC g b)&& !((restC g a).isSome&&(restC g b).isSome)
 | .block _ b=>oneC g b
 |_=>true
def noX (K:Nat):C->Bool
 | .seq a b=>noX K a&&noX K b
 | .seqj _ a b=>noX K a&&noX K b
 | .cond _ a b=>noX K a&&noX K b
 | .block id b=> !(Nat.beq id K)&&noX K b
 | .loop _ b=>noX K b
 | .exit i=> !(Nat.beq i K)
 |_=>true
theorem Jhp {g:Nat}:∀{l:List Ins} {p:List Ins×List Ins},cutI g l=some p->l=p.1++p.2
 |[],p,h=>by cases h
 | i::r,p,h=>by
   unfold cutI at h
   cases hc:callsB g i with
   |true=>rw[hc]at h;injection h with h;subst h;rfl
   | false=>
     rw[hc]at h;obtain⟨q,hq,rfl⟩:=Option.map_eq_some_iff.1 h;rw[Jhp hq];rfl
section
variable {self : Self} {lf K g : Nat}
theorem j0 {d:Bool}:∀(a b:List Ins) (fr:Fr) (st:St),JH self d (a++b) fr st=match JH self d a fr st with
  |some (fr1,st1)=>JH self d b fr1 st1
  |none=>none
 |[],b,fr,st=>rfl
 | i::r,b,fr,st=>by
   simp only[List.cons_append,JH]
   cases evIns self d fr st i with
   |none=>rfl
   |some p=>exact j0 r b p.1 p.2
theorem JoL {i K:Nat}(h:(!(Nat.beq i K))=true):i≠K:=by
 intro e;subst e;rw[Nat.beq_refl]at h
 cases h
theorem JdG :∀(c:C) {fr:Fr} {st:St} {i:Nat} {fr1:Fr} {st1:St},noX K c=true->evD self lf c fr st=some (.exit i fr1 st1)->i≠K:=by
 intro c
 induction c with
 |skip=>intro fr st i fr1 st1 _ h;simp[evD]at h
 |ret=>intro fr st i fr1 st1 _ h;simp[evD]at h
 | exit k=>
   intro fr st i fr1 st1 hx h;simp only[evD,Option.some.injEq,Out.exit.injEq]at h;rw[<-h.1];exact JoL hx
 | reg l=>
   intro fr st i fr1 st1 _ h;simp only[evD]at h;obtain⟨p,_,h2⟩:=cases1 h
   cases h2
 | drw l chk=>
   intro fr st i fr1 st1 _ h;simp only[evD]at h
   split at h
   ·split at h
    ·cases h
    ·cases h
   ·cases h
 | seq a b iha ihb=>
   intro fr st i fr1 st1 hx h;rw[noX,Bool.and_eq_true]at hx;simp only[evD]at h
   split at h
   ·exact ihb hx.2 h
   ·exact iha hx.1 h
 | seqj l a b iha ihb=>
   intro fr st i fr1 st1 hx h;rw[noX,Bool.and_eq_true]at hx;simp only[evD]at h
   split at h
   ·exact ihb hx.2 h
   ·exact iha hx.1 h
 | cond c a b iha ihb=>
   intro fr st i fr1 st1 hx h;rw[noX,Bool.and_eq_true]at hx;simp only[evD]at h
   split at h
   ·split at h
    ·exact iha hx.1 h
    ·exact ihb hx.2 h
   ·cases h
 | block id b ih=>
   intro fr st i fr1 st1 hx h;rw[noX,Bool.and_eq_true]at hx;simp only[evD]at h
   split at h
   ·rename_i j fr2 st2 h1
    split at h
    ·cases h
    ·injection h with h;injection h with h2 _ _;rw[<-h2];exact ih hx.2 h1
   ·exact ih hx.2 h
 | loop l b ih=>
   intro fr st i fr1 st1 hx h;have key:∀(n:Nat) (fr:Fr) (st:St),loopD (evD self lf b) l n fr st=some (.exit i fr1 st1)->i≠K:=by
    intro n
    induction n with
    |zero=>intro fr st h;cases h
    | succ n im=>
      intro fr st h;simp only[loopD]at h
      split at h
      ·exact im _ _ h
      ·exact ih hx h
   exact key lf fr st h
theorem Jja :∀(c:C) {fr:Fr} {st:St} {out:Out},noX K c=true->evD self lf (cutC g K c) fr st=some out->(∀fr1 st1,out≠ .exit K fr1 st1)->evD self lf c fr st=some out:=by
 intro c;have pair:∀(x y:C),(∀{fr:Fr} {st:St} {out:Out},evD self lf (cutC g K x) fr st=some out->(∀fr1 st1,out≠ .exit K fr1 st1)->evD self lf x fr st=some out)->
   (∀{fr:Fr} {st:St} {out:Out},evD self lf (cutC g K y) fr st=some out->(∀fr1 st1,out≠ .exit K fr1 st1)->evD self lf y fr st=some out)->
   ∀{fr:Fr} {st:St} {out:Out},(match evD self lf (cutC g K x) fr st with
    |some (.norm fr st)=>evD self lf (cutC g K y) fr st
    |r=>r)=some out->(∀fr1 st1,out≠ .exit K fr1 st1)->(match evD self lf x fr st with
    |some (.norm fr st)=>evD self lf y fr st
    |r=>r)=some out:=by
  intro x y ihx ihy fr st out h hn
  split at h
  ·rename_i fr1 st1 h1
   rw[ihx h1 fun _ _=>by intro e;cases e];exact ihy h hn
  ·rename_i hno
   rw[ihx h hn]
   cases out with
   |norm fr1 st1=>exact absurd h (hno _ _)
   |exit _ _ _=>rfl
   |ret _ _=>rfl
 induction c with
 |skip=>intro fr st out _ h _;exact h
 |ret=>intro fr st out _ h _;exact h
 |exit k=>intro fr st out _ h _;exact h
 |loop l b _=>intro fr st out _ h _;exact h
 | reg l=>
   intro fr st out _ h hn;rw[cutC]at h
   split at h
   ·rename_i p hp
    simp only[evD]at h
    split at h
    ·injection h with h;exact absurd h.symm (hn _ _)
    ·rename_i hno
     obtain⟨q,_,h2⟩:=cases1 h;exact absurd (by rw[h,<-h2]) (hno q.1 q.2)
   ·exact h
 | drw l chk=>
   intro fr st out _ h hn;rw[cutC]at h
   split at h
   ·rename_i p hp
    simp only[evD]at h
    cases hr:JH self true p.1 fr st with
    |none=>rw[hr]at h;cases h
    | some q=>
      rw[hr]at h;simp only[Ky,List.all_nil,if_true]at h;injection h with h;exact absurd h.symm (hn _ _)
   ·exact h
 | seq a b iha ihb=>
   intro fr st out hx h hn;rw[noX,Bool.and_eq_true]at hx;simp only[cutC,evD]at h⊢;exact pair a b (fun h=>iha hx.1 h) (fun h=>ihb hx.2 h) h hn
 | seqj l a b iha ihb=>
   intro fr st out hx h hn;rw[noX,Bool.and_eq_true]at hx;simp only[cutC,evD]at h⊢;exact pair a b (fun h=>iha hx.1 h) (fun h=>ihb hx.2 h) h hn
 | cond c a b iha ihb=>
   intro fr st out hx h hn;rw[noX,Bool.and_eq_true]at hx;simp only[cutC,evD]at h⊢
   split at h
   ·split at h
    ·rename_i ct;rw[if_pos ct];exact iha hx.1 h hn
    ·rename_i ct;rw[if_neg ct];exact ihb hx.2 h hn
   ·cases h
 | block id b ih=>
   intro fr st out hx h hn;rw[noX,Bool.and_eq_true]at hx;simp only[cutC,evD]at h⊢
   split at h
   ·rename_i j fr1 st1 h1
    have hj:j≠K:=by
     intro e;subst e
     split at h
     ·rename_i e;exact JoL hx.1 e.symm
     ·injection h with h;exact hn _ _ h.symm
    rw[ih hx.2 h1 fun _ _ e=>by injection e with e;exact hj e];exact h
   ·rename_i hno
    rw[ih hx.2 h hn]
    cases out with
    |exit _ _ _=>exact absurd h (hno _ _ _)
    |norm _ _=>rfl
    |ret _ _=>rfl
theorem JoM :∀(c:C) {fr:Fr} {st:St} {fr1:Fr} {st1:St},noX K c=true->oneC g c=true->evD self lf (cutC g K c) fr st=some (.exit K fr1 st1)->∃c',restC g c=some c'/\evD self lf c fr st=evD self lf c' fr1 st1:=by
 intro c
 induction c with
 |skip=>intro fr st fr1 st1 _ _ h;cases h
 |ret=>intro fr st fr1 st1 _ _ h;cases h
 |exit k=>intro fr st fr1 st1 hx _ h;exact absurd rfl (JdG (.exit k) hx h)
 |loop l b _=>intro fr st fr1 st1 hx _ h;exact absurd rfl (JdG (.loop l b) hx h)
 | reg l=>
   intro fr st fr1 st1 hx _ h;rw[cutC]at h
   split at h
   ·rename_i p hp
    simp only[evD]at h
    cases hr:JH self false p.1 fr st with
    |none=>rw[hr]at h;cases h
    | some q=>
      rw[hr]at h;simp only[Option.map_some,Option.some.injEq,Out.exit.injEq,true_and]at h;obtain⟨rfl,rfl⟩:=h;refine⟨.reg p.2,by rw[restC,hp];rfl, ?_⟩;rw[Jhp hp];simp only[evD,j0,hr]
   ·exact absurd rfl (JdG (.reg l) rfl h)
 | drw l chk=>
   intro fr st fr1 st1 hx _ h;rw[cutC]at h
   split at h
   ·rename_i p hp
    simp only[evD]at h
    cases hr:JH self true p.1 fr st with
    |none=>rw[hr]at h;cases h
    | some q=>
      rw[hr]at h;simp only[Ky,List.all_nil,if_true,Option.some.injEq,Out.exit.injEq,true_and]at h;obtain⟨rfl,rfl⟩:=h;refine⟨.drw p.2 chk,by rw[restC,hp];rfl, ?_⟩;rw[Jhp hp];simp only[evD,j0,hr]
   ·exact absurd rfl (JdG (.drw l chk) rfl h)
 | seq a b iha ihb=>
   intro fr st fr1 st1 hx ho h;rw[noX,Bool.and_eq_true]at hx;rw[oneC,Bool.and_eq_true,Bool.and_eq_true]at ho;simp only[cutC,evD]at h
   split at h
   ·rename_i fr2 st2 h1
    have h1:=Jja a hx.1 h1 fun _ _=>by intro e;cases e
    obtain⟨b',k1,k2⟩:=ihb hx.2 ho.1.2 h;have hn:restC g a=none:=by
     have:=ho.2;rw[k1]at this
     cases hr:restC g a with
     |none=>rfl
     |some _=>rw[hr]at this;cases this
    refine⟨b',by rw[restC,hn];exact k1, ?_⟩;simp only[evD,h1];exact k2
   ·obtain⟨a',k1,k2⟩:=iha hx.1 ho.1.1 h;refine⟨.seq a' b,by rw[restC,k1], ?_⟩;simp only[evD,k2]
 | seqj l a b iha ihb=>
   intro fr st fr1 st1 hx ho h;rw[noX,Bool.and_eq_true]at hx;rw[oneC,Bool.and_eq_true,Bool.and_eq_true]at ho;simp only[cutC,evD]at h
   split at h
   ·rename_i fr2 st2 h1
    have h1:=Jja a hx.1 h1 fun _ _=>by intro e;cases e
    obtain⟨b',k1,k2⟩:=ihb hx.2 ho.1.2 h;have hn:restC g a=none:=by
     have:=ho.2;rw[k1]at this
     cases hr:restC g a with
     |none=>rfl
     |some _=>rw[hr]at this;cases this
    refine⟨b',by rw[restC,hn];exact k1, ?_⟩;simp only[evD,h1];exact k2
   ·obtain⟨a',k1,k2⟩:=iha hx.1 ho.1.1 h;refine⟨.seqj l a' b,by rw[restC,k1], ?_⟩;simp only[evD,k2]
 | cond c a b iha ihb=>
   intro fr st fr1 st1 hx ho h;rw[noX,Bool.and_eq_true]at hx;rw[oneC,Bool.and_eq_true,Bool.and_eq_true]at ho;simp only[cutC,evD]at h
   split at h
   ·rename_i t ht
    split at h
    ·rename_i ct
     obtain⟨a',k1,k2⟩:=iha hx.1 ho.1.1 h;refine⟨a',by rw[restC,k1], ?_⟩;simp only[evD,ht,if_pos ct];exact k2
    ·rename_i ct
     obtain⟨b',k1,k2⟩:=ihb hx.2 ho.1.2 h;have hn:restC g a=none:=by
      have:=ho.2;rw[k1]at this
      cases hr:restC g a with
      |none=>rfl
      |some _=>rw[hr]at this;cases this
     refine⟨b',by rw[restC,hn];exact k1, ?_⟩;simp only[evD,ht,if_neg ct];exact k2
   ·cases h
 | block id b ih=>
   intro fr st fr1 st1 hx ho h;rw[noX,Bool.and_eq_true]at hx;simp only[cutC,evD]at h
   split at h
   ·rename_i j fr2 st2 h1
    split at h
    ·cases h
    ·injection h with h;injection h with e1 e2 e3;subst e1;subst e2;subst e3;obtain⟨b',k1,k2⟩:=ih hx.2 ho h1;refine⟨.block id b',by rw[restC,k1];rfl, ?_⟩;simp only[evD,k2]
   ·rename_i hno
    exact absurd h (hno _ _ _)
end
section
variable {φ : Rn} {a S : St} {T : Table}
theorem Hold.afterW (H:Hold φ a S){ψ:Rn}(ag:Agr a.nx.num φ ψ)(E:Emb ψ a.nx.num a.t S.t a S){lo:Nat}{a' S1:St}(p1:PostE ψ a.nx.num a.t S.t false {a with low:=lo} S a' S1)(mS:Mon S S1)(ma:Mon {a with low:=lo} a')(hs:inT a'.nx.num a'.h=true):Hold ψ a' S1:=by
 refine⟨p1.emb.num,p1.emb.inj,fun p hp=> ?_,fun p hp=> ?_,hs,fun h0=> ?_,ma.mono.wf,p1.emb.wf⟩
 ·have hn:=p1.emb.nx;rw[hn];by_cases c:p.num<a.nx.num
  ·have h1:=H.lt p c;rw[ag.f p c];have h2:=mS.mono.nx;rw[hn]at h2;omega
  ·have key:∀k (q:Pt),a.nx.num<=q.num->(ψ (up k q)).num=(ψ q).num+k:=by
    intro k
    induction k with
    |zero=>intro q _;rfl
    | succ k ih=>
      intro q hq;show(ψ (up k q).suc).num=_;rw[E.suc _ (by rw[Yt];omega),Pt.num_suc,ih q hq];omega
   have e:a'.nx=up (a'.nx.num-p.num) p:=Pt.num_inj (by rw[Yt];omega);rw[e,key _ _ (by omega)];omega
 ·have:=p1.emb.row p;exact JbP (Agr.refl _ ψ) (jh p a'.h hs) this (fun _ _=>trivial) fun _ _ _ _ _=>trivial
 ·obtain⟨k,k1,k2⟩:=p1.emb.t;have:=p1.emb.pos;omega
theorem Hold.after (H:Hold φ a S){ψ:Rn}(ag:Agr a.nx.num φ ψ)(E:Emb ψ a.nx.num a.t S.t a S){a' S1:St}(p1:PostE ψ a.nx.num a.t S.t false {a with low:=a.t} S a' S1)(mS:Mon S S1)(ma:Mon {a with low:=a.t} a')(hl:a.t<=a'.low)(hs:inT a'.nx.num a'.h=true):
  Gr S S1/\Hold ψ a' S1:=by
 have olda:∀p,a.row p≠ .none->a'.row p=a.row p:=fun p e=>Classical.byContradiction fun c=>by
  have h1:a'.low<=(a.row p).time:=ma.mono.old p e c;have h2:=H.wfa.t p e;omega
 refine⟨mS.gr fun r e=> ?_,H.afterW ag E p1 mS ma hs⟩;by_cases c:∃p,a.row p≠ .none/\ψ p=r
 ·obtain⟨p,c1,rfl⟩:=c;apply Classical.byContradiction;intro x;have h1:=(mS.mono.row _ x).1;have h2:=Jhn p1.emb (s:=a.t) (w:=S.t) ⟨0,rfl,rfl⟩ p (by rw[olda p c1];exact H.wfa.t p c1);omega
 ·exact p1.stp.frame r e fun p hp hr=>c ⟨p,hp,hr⟩
theorem JoN (hE:TabE T)(hM:TabM T)(hU:∀f b,T f=some b->BodyUp b){f lf:Nat}{cf:Fn}(hT:T f=some (evFn lf cf))(H:Hold φ a S){n g K:Nat}{args:List V}{fr1:Fr}{a1:St}{c':C}{Q:V->St->Prop}
  (ha:inVs a.nx.num args=true) (hc:cC (cutC g K cf.body)=true) (hx:noX K cf.body=true) (ho:oneC g cf.body=true) (hr:restC g cf.body=some c')
  (h:evD (run T n) lf (cutC g K cf.body) (initFr args) {a with low:=a.t}=some (.exit K fr1 a1)) (hl:a.t<=a1.low) (hs:inT a1.nx.num a1.h=true)
  (k:∀ψ S1,Gr S S1->Agr a.nx.num φ ψ->Hold ψ a1 S1->(∀p:Pt,a.nx.num<=p.num->S.row (ψ p)= .none)->wC T lf c' (mvF ψ fr1) S1 (kRet cf.res Q)):Does T f (args.map (mv φ)) S Q:=by
 obtain⟨ψ,ag,E⟩:=H.emb;have E':=E.lo a.t S.low;obtain⟨o,h1,h2⟩:=JoI (hE n) lf (cutC g K cf.body) (g:=false) hc E' (fun h=>by cases h) h;rw[<-Jl0,JdE ag ha]at h1
 cases o with
 |norm _ _=>exact h2.elim
 |ret _ _=>exact h2.elim
 | exit K' fr' S1=>
   obtain⟨rfl,rfl,p1⟩:=h2;have mS:Mon S S1:=Jhd (hM n) lf _ h1 H.wf;have ma:Mon {a with low:=a.t} a1:=Jhd (hM n) lf _ h (KN H.wfa _);obtain⟨gr,hd⟩:=H.after ag E p1 mS ma hl hs;obtain⟨out,q1,N,q2⟩:=Jh4 c' (k ψ S1 gr ag hd fun p hp=>E.none (Classical.byContradiction fun c=>absurd (H.wfa.nx p c) (by omega)));have full:∀m,max n N<=m->evD (run T m) lf cf.body (initFr (args.map (mv φ))) S=some out:=fun m hm=>by
    have u1:evD (run T m) lf (cutC g K' cf.body) (initFr (args.map (mv φ))) S=some (.exit K' (mvF ψ fr1) S1):=JnB (JnD hU m (by omega)) _ h1;obtain⟨c2,v1,v2⟩:=JoM cf.body hx ho u1;rw[hr]at v1;injection v1 with v1;subst v1;rw[v2];exact q2 m (by omega)
   have fin:∀fr st',(out= .norm fr st'\/out= .ret fr st')->Does T f (args.map (mv φ)) S Q:=by
    intro fr st' hout;have q1:resP st' fr cf.res Q:=by rcases hout with rfl|rfl<;>exact q1
    unfold resP at q1
    split at q1
    ·rename_i v hv
     refine⟨v,st',q1,max n N+1,fun m hm=> ?_⟩;obtain⟨m,rfl⟩:∃k,m=k+1:=⟨m-1,by omega⟩
     simp only[run,hT];unfold evFn;rw[full m (by omega)];rcases hout with rfl|rfl<;>simp[hv]
    ·exact q1.elim
   cases out with
   |norm fr st'=>exact fin fr st' (.inl rfl)
   |ret fr st'=>exact fin fr st' (.inr rfl)
   |exit _ _ _=>exact absurd q1 (by intro e;exact e)
end
theorem Js (lf:Nat)(cf:Fn):BodyUp (fnD lf cf).b:=Jqm lf cf
theorem JoO (g:List V->Option V):BodyUp (hookE g).b:=Jqn g
theorem Jg {i:Nat}{e:E}(h:BodyUp e.b):BT.all (fun _ e=>BodyUp e.b) (.leaf i e):=h
theorem Jj {n:Nat}{l r:BT}(h:BT.all (fun _ e=>BodyUp e.b) l)(k:BT.all (fun _ e=>BodyUp e.b) r):BT.all (fun _ e=>BodyUp e.b) (.node n l r):=⟨h,k⟩
theorem Jt (lf:Nat)(cf:Fn)(h:cC cf.body=true):BodyE (fnD lf cf).b:=Js3 h
theorem Jh {i:Nat}{e:E}(h:BodyE e.b):BT.all (fun _ e=>BodyE e.b) (.leaf i e):=h
theorem Jk {n:Nat}{l r:BT}(h:BT.all (fun _ e=>BodyE e.b) l)(k:BT.all (fun _ e=>BodyE e.b) r):BT.all (fun _ e=>BodyE e.b) (.node n l r):=⟨h,k⟩
def slB :V->Bool
 | .snil=>true
 | .sl _ _ _ _=>true
 | .slx _ _ _ _ _=>true
 |_=>false
def place0G :List V->Option V
 |[.agg [.int .i64 _,a,b], .str 0 0]=>if slB a&&slB b then some (.tup [.int .i64 (-1), .bool true])else none
 |_=>none
theorem JoP {φ:Rn}:∀{v:V},slB v=true->slB (mv φ v)=true
 | .snil,_=>by rw[mv];rfl
 | .sl _ _ _ _,_=>by rw[mv];rfl
 | .slx _ _ _ _ _,_=>by rw[mv];rfl
theorem JmJ :BodyE (hookE place0G).b:=JoJ fun φ args v h=>by
 unfold place0G at h
 split at h
 ·rename_i d a b
  split at h
  ·rename_i c
   rw[Bool.and_eq_true]at c;injection h with h;subst h;simp only[List.map_cons,List.map_nil,mv,mvs,place0G,JoP c.1,JoP c.2,Bool.and_self,if_true]
  ·cases h
 ·cases h
theorem JoQ {γ:Locs}{ρ:Nat->Value}{v:V}{x:Value}(hx:R γ ρ v x)(hk:slB v=true):∃a k cap,x= .slice a k cap:=by
 unfold slB at hk
 split at hk
 ·exact⟨none,0,0,hx⟩
 ·obtain⟨lo,ad,cp,k1,k2,_⟩:=hx;exact⟨_,_,_,k2⟩
 ·obtain⟨lo,ad,k1,k2,_⟩:=hx;exact⟨_,_,_,k2⟩
 ·cases hk
theorem JoR {P : Program} {ρ : Nat -> Value} {base : Bs} {f : Nat} {fn : Func} (h1 : P.funcs[f]? = some fn) (h2 : fn.body.isSome = true) (h3 : fn.name ≠ "runtime.NumGoroutine") (hp : ∀ (w : World) (d : Int) (a : Option Addr) (k cap : Nat) (b : Option Addr) (m cap2 : Nat) (s : ByteArray), s.size = 0 -> Calls P f #[.agg #[.int .i64 d, .slice a k cap, .slice b m cap2], .string s] w fun e w' => Below w.heap.size w w' /\ e = .returned (.tuple #[.int .i64 (-1), .bool true])) : BodyOK P ρ base f (hookE place0G).b :=
 Jk4 h1 h2 h3 fun args v hv γ c w xs hx hrel=>by
  unfold place0G at hv
  split at hv
  ·rename_i d vars nar
   split at hv
   ·rename_i cc
    rw[Bool.and_eq_true]at cc;injection hv with hv;subst hv;obtain⟨y,ys,e1,⟨fs,e2,d',fs1,e3,ed,sv,fs2,e4,hsv,nv,fs3,e5,hnv,e6⟩,y',ys',e7,⟨s,e8,e9,e10⟩,e11⟩:=hx;simp only[RL]at e6 e11;have ed:d'= .int .i64 d:=ed;subst e11;subst e8;subst e7;subst e6;subst e5;subst e4;subst ed;subst e3;subst e2;subst e1;have hsz:s.size=0:=by rw[<-e9,<-ByteArray.size_data,<-Array.length_toList]
    obtain⟨a,k,cap,ea⟩:=JoQ hsv cc.1;obtain⟨b,m,cap2,eb⟩:=JoQ hnv cc.2;subst ea;subst eb;exact(hp w d a k cap b m cap2 s hsz).mono fun e w' ⟨hb,h⟩=>⟨_,h,⟨[.int .i64 (-1), .bool true],rfl,_,_,rfl,rfl,_,_,rfl,rfl,rfl⟩,hb⟩
   ·cases hv
  ·cases hv
def stQ (q:Bool)(b:Nat)(c:UInt8):Bool:=if q then(c !=34||b%2==1)else c==34
def stB (q:Bool)(b:Nat)(c:UInt8):Nat:=if q&&c==92 then b+1 else 0
def endS :List UInt8->Bool->Nat->Option Nat
 |[],_,_=>none
 |c::r,q,b=>if q=false/\c=125/\r.head? =some 125 then some 0 else(endS r (stQ q b c) (stB q b c)).map (·+1)
theorem JmK {l:List UInt8}{i:Nat}(h:i<l.length)(q:Bool)(b:Nat):
  endS (l.drop i) q b=if q=false/\l[i]=125/\l[i+1]? =some 125 then some 0 else(endS (l.drop (i+1)) (stQ q b l[i]) (stB q b l[i])).map (·+1):=by
 rw[List.drop_eq_getElem_cons h,endS,List.head?_drop]
theorem JmL {l:List UInt8}{i:Nat}(h:l.length<=i)(q:Bool)(b:Nat):endS (l.drop i) q b=none:=by
 rw[List.drop_eq_nil_of_le h,endS]
theorem Jl1 :∀{l:List UInt8} {q:Bool} {b k:Nat},endS l q b=some k->k+2<=l.length/\(l.drop k).take 2=[125,125]
 |[],_,_,_,h=>by simp[endS]at h
 | c::r,q,b,k,h=>by
   rw[endS]at h
   split at h
   ·rename_i hc
    injection h with h;subst h;obtain⟨_,rfl,h2⟩:=hc
    cases r with
    |nil=>simp at h2
    |cons d r=>simp at h2;subst h2;simp
   ·obtain⟨j,hj,rfl⟩:=Option.map_eq_some_iff.1 h;obtain⟨h1,h2⟩:=Jl1 hj;exact⟨by simp;omega,by simpa using h2⟩
def openAt :List UInt8->Option Nat
 |[]=>none
 |c::r=>if c=123/\r.head? =some 123 then some 0 else(openAt r).map (·+1)
theorem Jjb {l:List UInt8}{i:Nat}(h:i<l.length):openAt (l.drop i)=if l[i]=123/\l[i+1]? =some 123 then some 0 else(openAt (l.drop (i+1))).map (·+1):=by
 rw[List.drop_eq_getElem_cons h,openAt,List.head?_drop]
abbrev Prt :=Bool×List UInt8×Nat
def splitS (l:List UInt8)(at_:Nat):Option (List Prt):=
 if _h:l.length<=at_ then some []else
  match openAt (l.drop at_)with
  |none=>some [(false,l.drop at_,at_)]
  |some (n+1)=>(splitS l (at_+(n+1))).map ((false,(l.drop at_).take (n+1),at_)::·)
  | some 0=>match endS (l.drop (at_+2)) false 0 with
    |none=>none
    |some k=>(splitS l (at_+2+k+2)).map ((true,(l.drop (at_+2)).take k,at_)::·)
termination_by l.length-at_
def splitR (l:List UInt8):List Prt×Int:=if 1500<l.length then([],4)else match splitS l 0 with
 |none=>([],11)
 |some ps=>if 200<ps.length then([],3)else(ps,0)
theorem jF {l:List UInt8}{i:Nat}(h:i<l.length)(c:UInt8):byteAt l i=(c.toNat:Int)<->l[i]=c:=by
 rw[Y5 h];constructor
 ·intro e;exact UInt8.toNat_inj.1 (by omega)
 ·intro e;rw[e]
def endV (o:Option Nat)(i:Nat):V:=match o with
 |some k=> .int .i64 ((i+k:Nat):Int)
 |none=> .int .i64 (-1)
def cellsP (ps:List Prt):List V:=ps.flatMap fun p=>[V.bool p.1,ofL p.2.1,V.int .i64 p.2.2]
theorem Jjc (ps:List Prt)(p:Prt):cellsP ps++[V.bool p.1,ofL p.2.1,V.int .i64 p.2.2]=cellsP (ps++[p]):=by simp[cellsP]
theorem Jl2 (st:St)(s:List UInt8)(i:Int):buildV st [V.bool false,ofL [],V.int .i64 0] [(1,1,ofL s),(2,1,V.int .i64 i)]=some (.agg [V.bool false,ofL s,V.int .i64 i], .no):=by rfl
theorem JqB (st:St)(s:List UInt8)(i:Int):buildV st [V.bool false,ofL [],V.int .i64 0] [(0,1,V.bool true),(1,1,ofL s),(2,1,V.int .i64 i)]=some (.agg [V.bool true,ofL s,V.int .i64 i], .no):=by rfl
theorem JoS (st:St)(b:Bool)(s:List UInt8)(i:Int):bslV st 3 1 [V.bool false,ofL [],V.int .i64 0] [(0,3,V.agg [V.bool b,ofL s,V.int .i64 i])]=some (.slx st.nx 0 1 3 1, .new fun t=> .cells t [V.bool b,ofL s,V.int .i64 i]):=by rfl
theorem JeG (fr:Fr):evps fr []=[]:=by rfl
theorem Jct (fr:Fr)(a b:Nat)(x:Opd)(r:List (Nat×Nat×Opd)):evps fr ((a,b,x)::r)=(a,b,x.ev fr)::evps fr r:=by rfl
theorem Jcu {a st:St}{v:V}{ps:List Prt}(hg:Gr a st)(h:RecsAt a st v 3 ps.length (cellsP ps))(p:Prt)(hn:ps.length+1<=2^24):
  ∃v' e,appV (st.new fun t=> .cells t [V.bool p.1,ofL p.2.1,V.int .i64 p.2.2]) 3 v (.slx st.nx 0 1 3 1)=some (v',e)/\RecsAt a ((st.new fun t=> .cells t [V.bool p.1,ofL p.2.1,V.int .i64 p.2.2]).ap e) v' 3 (ps++[p]).length (cellsP (ps++[p]))/\Gr a ((st.new fun t=> .cells t [V.bool p.1,ofL p.2.1,V.int .i64 p.2.2]).ap e):=by
 have hgn:Gr st (st.new fun t=> .cells t [V.bool p.1,ofL p.2.1,V.int .i64 p.2.2]):=Gr.new hg.wf fun u=>⟨rfl,fun e=>by cases e⟩
 obtain⟨v',e,h1,h2,h3⟩:=Jqp (hg.trans hgn) (h.gr hgn) (Ka st _) rfl rfl hn;rw[Jjc]at h2;exact⟨v',e,h1,by simpa using h2,h3⟩
theorem Jaf {l:List UInt8}{k:Nat}(h:k<l.length):splitS l k=match openAt (l.drop k)with
  |none=>some [(false,l.drop k,k)]
  |some (n+1)=>(splitS l (k+(n+1))).map ((false,(l.drop k).take (n+1),k)::·)
  | some 0=>match endS (l.drop (k+2)) false 0 with
    |none=>none
    |some m=>(splitS l (k+2+m+2)).map ((true,(l.drop (k+2)).take m,k)::·):=by
 rw[splitS,dif_neg (by omega)]
theorem JaZ {l:List UInt8}{k:Nat}(h:l.length<=k):splitS l k=some []:=by
 rw[splitS,dif_pos h]
def SplitQ (l:List UInt8)(a:St)(v:V)(st:St):Prop:=Gr a st/\∃u,v= .tup [u, .int .i64 (splitR l).2]/\RecsAt a st u 3 (splitR l).1.length (cellsP (splitR l).1)
theorem Jdb {l:List UInt8}{i:Nat}(c:UInt8)(h:i<l.length):byteAt l i=(c.toNat:Int)<->l[i]? =some c:=by
 rw[jF h,List.getElem?_eq_getElem h];constructor
 ·intro e;rw[e]
 ·intro e;injection e
def raise (k:Nat):Rn:=⟨fun p=>up k p,fun i=> .opq i⟩
section
variable {χ ψ : Rn} {k n : Nat} (hf : ∀ p : Pt, p.num < n -> χ (up k p) = ψ p) (hs : χ.s = ψ.s)
include hf hs
mutual
theorem JoT :∀v:V,inV n v=true->mv χ (mv (raise k) v)=mv ψ v
 | .ptr r _,e=>by simp only[mv];rw[<-hf r (of_decide_eq_true e)];rfl
 | .sl r _ _ _,e=>by simp only[mv];rw[<-hf r (of_decide_eq_true e)];rfl
 | .slx r _ _ _ _,e=>by simp only[mv];rw[<-hf r (of_decide_eq_true e)];rfl
 | .map r,e=>by simp only[mv];rw[<-hf r (of_decide_eq_true e)];rfl
 | .fn _ a b,e=>by rw[inV,Bool.and_eq_true]at e;simp only[mv];rw[jG a e.1,jG b e.2]
 | .agg l,e=>by rw[inV]at e;simp only[mv];rw[jG l e]
 | .tup l,e=>by rw[inV]at e;simp only[mv];rw[jG l e]
 | .bool _,_=>by simp only[mv]
 | .int _ _,_=>by simp only[mv]
 | .im _ _,_=>by simp only[mv]
 | .str _ _,_=>by simp only[mv]
 | .pnil,_=>by simp only[mv]
 | .snil,_=>by simp only[mv]
 | .mnil,_=>by simp only[mv]
 | .fnil,_=>by simp only[mv]
 | .any,_=>by simp only[mv]
 | .opq i,_=>by
   have:mv (raise k) (.opq i)= .opq i:=by rw[mv];rfl
   rw[this,mv,mv,hs]
theorem jG :∀l:List V,inVs n l=true->mvs χ (mvs (raise k) l)=mvs ψ l
 |[],_=>by simp only[mvs]
 |x::r,e=>by rw[inVs,Bool.and_eq_true]at e;simp only[mvs];rw[JoT x e.1,jG r e.2]
end
end
mutual
def noQ :V->Bool
 | .fn _ a b=>noQs a&&noQs b
 | .agg l=>noQs l
 | .tup l=>noQs l
 | .opq _=>false
 |_=>true
def noQs :List V->Bool
 |[]=>true
 |x::r=>noQ x&&noQs r
end
section
variable {φ ψ : Rn} (hf : φ.f = ψ.f)
include hf
mutual
theorem Jkw :∀v:V,noQ v=true->mv ψ v=mv φ v
 | .ptr r _,_=>by simp only[mv];rw[hf]
 | .sl r _ _ _,_=>by simp only[mv];rw[hf]
 | .slx r _ _ _ _,_=>by simp only[mv];rw[hf]
 | .map r,_=>by simp only[mv];rw[hf]
 | .fn _ a b,e=>by rw[noQ,Bool.and_eq_true]at e;simp only[mv];rw[Jag a e.1,Jag b e.2]
 | .agg l,e=>by rw[noQ]at e;simp only[mv];rw[Jag l e]
 | .tup l,e=>by rw[noQ]at e;simp only[mv];rw[Jag l e]
 | .bool _,_=>by simp only[mv]
 | .int _ _,_=>by simp only[mv]
 | .im _ _,_=>by simp only[mv]
 | .str _ _,_=>by simp only[mv]
 | .pnil,_=>by simp only[mv]
 | .snil,_=>by simp only[mv]
 | .mnil,_=>by simp only[mv]
 | .fnil,_=>by simp only[mv]
 | .any,_=>by simp only[mv]
 | .opq _,e=>by simp[noQ]at e
theorem Jag :∀l:List V,noQs l=true->mvs ψ l=mvs φ l
 |[],_=>by simp only[mvs]
 |x::r,e=>by rw[noQs,Bool.and_eq_true]at e;simp only[mvs];rw[Jkw x e.1,Jag r e.2]
end
theorem Jl3 {l:List V}(e:noQs l=true):l.map (mv ψ)=l.map (mv φ):=by rw[<-QJ,<-QJ,Jag hf l e]
end
def noQe :List (V×V)->Bool
 |[]=>true
 |p::r=>(noQ p.1&&noQ p.2)&&noQe r
theorem JoU {φ ψ:Rn}(hf:φ.f=ψ.f):∀{l:List (V×V)},noQe l=true->l.map (mv2 ψ)=l.map (mv2 φ)
 |[],_=>rfl
 | p::r,e=>by
   rw[noQe,Bool.and_eq_true,Bool.and_eq_true]at e;rw[List.map_cons,List.map_cons,JoU hf e.2];unfold mv2;rw[Jkw hf _ e.1.1,Jkw hf _ e.1.2]
def noQr :Row->Bool
 | .cells _ l=>noQs l
 | .ro l=>noQs l
 | .mob _ es=>noQe es
 |_=>true
def noQt :Tr->Bool
 | .e=>true
 | .n v a b c d=>noQr v&&(noQt a&&(noQt b&&(noQt c&&noQt d)))
theorem qE :∀(p:Pt) (t:Tr),noQt t=true->noQr (t.get p)=true
 |_, .e,_=>by unfold Tr.get;rfl
 | .h, .n v _ _ _ _,h=>by rw[noQt,Bool.and_eq_true]at h;exact h.1
 | .a p, .n v x _ _ _,h=>by rw[noQt,Bool.and_eq_true,Bool.and_eq_true]at h;exact qE p x h.2.1
 | .b p, .n v _ x _ _,h=>by rw[noQt,Bool.and_eq_true,Bool.and_eq_true,Bool.and_eq_true]at h;exact qE p x h.2.2.1
 | .c p, .n v _ _ x _,h=>by rw[noQt,Bool.and_eq_true,Bool.and_eq_true,Bool.and_eq_true,Bool.and_eq_true]at h;exact qE p x h.2.2.2.1
 | .d p, .n v _ _ _ x,h=>by rw[noQt,Bool.and_eq_true,Bool.and_eq_true,Bool.and_eq_true,Bool.and_eq_true]at h;exact qE p x h.2.2.2.2
theorem Hold.sig {φ:Rn}{a S:St}(H:Hold φ a S)(hq:noQt a.h=true)(s:Nat->V)(hs:∀i,∃k n,s i= .int k n):Hold ⟨φ.f,s⟩ a S:=by
 refine⟨hs,H.inj,H.lt,fun p hp=> ?_,H.scope,H.pos,H.wfa,H.wf⟩;have h1:=H.row p hp;have h2:=qE p a.h hq;have h2:noQr (a.row p)=true:=h2;have hf:φ.f=(⟨φ.f,s⟩:Rn).f:=rfl
 cases hr:a.row p with
 |none=>rw[hr]at h1;exact h1
 |cells t l=>rw[hr]at h1 h2;obtain⟨u,k1,k2⟩:=h1;exact⟨u,by rw[Jl3 hf h2];exact k1,k2⟩
 |dead t=>rw[hr]at h1;exact h1
 |mob t l=>rw[hr]at h1 h2;obtain⟨u,k1,k2⟩:=h1;exact⟨u,by rw[JoU hf h2];exact k1,k2⟩
 |sit t _ _ _=>rw[hr]at h1;exact h1
 |mit t m _ _=>rw[hr]at h1;exact h1
 |ro l=>rw[hr]at h1 h2;rw[show S.row _=_ from h1];show _=_;rw[Jl3 hf h2]
section
variable {φ ψ : Rn} {a b S : St}
end
def pureB (T:Table)(f:Nat)(args:List V)(v:V):Bool:=match run T 60 f args St.start with
 |some (u,a)=>vsame1 u v&&inT a.nx.num a.h
 |none=>false
theorem pureC {T:Table}(hE:TabE T)(hM:TabM T)(hU:∀f b,T f=some b->BodyUp b){f:Nat}{args:List V}{v:V}(h:pureB T f args v=true)(hc:closeds args=true)(hv:closed v=true){S:St}(hw:WF S):Does T f args S fun u S'=>Gr S S'/\u=v:=by
 unfold pureB at h
 split at h
 ·rename_i u a hr
  rw[Bool.and_eq_true]at h;have e:=kH h.1;subst e;have H:=Hold.start (S:=S) (fun _=> .int .i64 0) (fun _=>⟨_,_,rfl⟩) hw;have:=H.go hE hM hU (YM _ args hc) hr (Nat.zero_le _) h.2;rw[kQ _ args hc]at this;exact this.mono fun _ _ ⟨g,ψ,_,e,_⟩=>⟨g,by rw[e,KU ψ _ hv]⟩
 ·cases h
end Eva
namespace Eva
open Go Go.RowKit Go.ChangeShapes
abbrev Rws :=List (List V×Loc)
def rosA (A:Rws):St:=rosR (A.map Prod.fst).reverse
def locA (A:Rws)(i:Nat):Loc:=(A.getD i ([],⟨0,0,0⟩)).2
def gA (A:Rws):Locs:=rosG (A.map Prod.fst).reverse.length (locA A)
def RowsOK (ρ:Nat->Value)(w:World)(A:Rws):Prop:=∀A',A<+:A'->∀i (h:i<A.length),RowOK (gA A') ρ A[i].2 (.ro A[i].1) w/\A[i].2.b<w.heap.size
theorem JoV {A A':Rws}(h:A<+:A'){i:Nat}(hi:i<A.length):∃h':i<A'.length,A'[i]=A[i]:=by
 obtain⟨C,rfl⟩:=h;exact⟨by simp;omega,List.getElem_append_left hi⟩
theorem Jjd (A:Rws):(A.map Prod.fst).reverse.length=A.length:=by simp
theorem JqC {A A':Rws}(h:A<+:A'){i:Nat}(hi:i<A.length):(rosA A').row (Pt.nth i)= .ro A[i].1:=by
 obtain⟨h',e⟩:=JoV h hi;unfold rosA;rw[kL,Pt.num_nth,Jjd,if_pos h'];congr 1;rw[List.getD_eq_getElem?_getD,List.getElem?_reverse (by simp;omega)];have:(A'.map Prod.fst).length-1-(A'.length-1-i)=i:=by simp;omega
 rw[this,List.getElem?_map,List.getElem?_eq_getElem h',e];rfl
theorem JtT {A A':Rws}(h:A<+:A'){i:Nat}(hi:i<A.length):gA A' (Pt.nth i)=some A[i].2:=by
 obtain⟨h',e⟩:=JoV h hi;unfold gA rosG locA;rw[Jjd,Pt.num_nth,if_pos h',List.getD_eq_getElem?_getD,List.getElem?_eq_getElem h',e];rfl
theorem RowsOK.nil (ρ:Nat->Value)(w:World):RowsOK ρ w []:=fun _ _ i h=>absurd h (by simp)
theorem RowsOK.snoc {ρ:Nat->Value}{w:World}{A:Rws}(h:RowsOK ρ w A){l:List V}{lo:Loc}(hb:lo.b<w.heap.size)(k:∀A',A++[(l,lo)]<+:A'->RowOK (gA A') ρ lo (.ro l) w):RowsOK ρ w (A++[(l,lo)]):=by
 intro A' hp i hi;rcases Nat.lt_or_ge i A.length with c|c
 ·rw[List.getElem_append_left c];exact h A' ((List.prefix_append _ _).trans hp) i c
 ·have e:i=A.length:=by simp at hi;omega
  subst e;simp only[List.getElem_concat_length];exact⟨k A' hp,hb⟩
def OpnC (ρ:Nat->Value)(w:World)(cs:List Value)(K:St->List V->Prop):Prop:=∀A,RowsOK ρ w A->∃B e,RowsOK ρ w (A++B)/\∀A',A++B<+:A'->RL (gA A') ρ e cs/\K (rosA A') e
def OpnV (ρ:Nat->Value)(w:World)(v:Value)(K:St->V->Prop):Prop:=∀A,RowsOK ρ w A->∃B u,RowsOK ρ w (A++B)/\∀A',A++B<+:A'->R (gA A') ρ u v/\K (rosA A') u
section
variable {ρ : Nat -> Value} {w : World}
theorem OpnC.mono {cs:List Value}{K K':St->List V->Prop}(h:OpnC ρ w cs K)(k:∀st e,K st e->K' st e):OpnC ρ w cs K':=fun A hA=>by
 obtain⟨B,e,h1,h2⟩:=h A hA;exact⟨B,e,h1,fun A' hp=>⟨(h2 A' hp).1,k _ _ (h2 A' hp).2⟩⟩
theorem OpnV.mono {v:Value}{K K':St->V->Prop}(h:OpnV ρ w v K)(k:∀st e,K st e->K' st e):OpnV ρ w v K':=fun A hA=>by
 obtain⟨B,e,h1,h2⟩:=h A hA;exact⟨B,e,h1,fun A' hp=>⟨(h2 A' hp).1,k _ _ (h2 A' hp).2⟩⟩
theorem OpnC.nil :OpnC ρ w [] fun _ e=>e=[]:=fun A hA=>⟨[],[],by simpa using hA,fun A' _=>⟨rfl,rfl⟩⟩
theorem OpnC.append {cs cs':List Value}{K K':St->List V->Prop}(h:OpnC ρ w cs K)(h':OpnC ρ w cs' K'):OpnC ρ w (cs++cs') fun st e=>∃a b,e=a++b/\K st a/\K' st b:=fun A hA=>by
 obtain⟨B,e,h1,h2⟩:=h A hA;obtain⟨B',e',h3,h4⟩:=h' _ h1;refine⟨B++B',e++e',by rw[<-List.append_assoc];exact h3,fun A' hp=> ?_⟩;rw[<-List.append_assoc]at hp;obtain⟨k1,k2⟩:=h2 A' ((List.prefix_append _ _).trans hp);obtain⟨k3,k4⟩:=h4 A' hp;exact⟨k1.append k3,_,_,rfl,k2,k4⟩
theorem OpnC.const {cs:List Value}{e:List V}(h:∀γ,RL γ ρ e cs):OpnC ρ w cs fun _ e'=>e'=e:=fun A hA=>⟨[],e,by simpa using hA,fun A' _=>⟨h _,rfl⟩⟩
theorem OpnC.one {v:Value}{K:St->List V->Prop}(h:OpnC ρ w [v] K):OpnV ρ w v fun st u=>K st [u]:=fun A hA=>by
 obtain⟨B,e,h1,h2⟩:=h A hA;have l:e.length=1:=by
  have:=(h2 _ (List.prefix_refl _)).1.length;simpa using this.symm
 match e,l with
 | [u],_=>
   refine⟨B,u,h1,fun A' hp=> ?_⟩;obtain⟨⟨y,ys,e,k1,_⟩,k2⟩:=h2 A' hp;injection e with e _;exact⟨e▸k1,k2⟩
theorem OpnV.cell {v:Value}{K:St->V->Prop}(h:OpnV ρ w v K):OpnC ρ w [v] fun st e=>∃u,e=[u]/\K st u:=fun A hA=>by
 obtain⟨B,u,h1,h2⟩:=h A hA;exact⟨B,[u],h1,fun A' hp=>⟨⟨_,_,rfl,(h2 A' hp).1,rfl⟩,_,rfl,(h2 A' hp).2⟩⟩
theorem OpnC.agg {cs:List Value}{K:St->List V->Prop}(h:OpnC ρ w cs K):OpnV ρ w (.agg cs.toArray) fun st u=>∃e,u= .agg e/\K st e:=fun A hA=>by
 obtain⟨B,e,h1,h2⟩:=h A hA;exact⟨B, .agg e,h1,fun A' hp=>⟨⟨_,rfl,(h2 A' hp).1⟩,_,rfl,(h2 A' hp).2⟩⟩
theorem OpnV.ints {v:Value}{zs:List Int}(h:IntsIn w v zs)(h0:0<w.heap.size):OpnV ρ w v fun st u=>IntsAt st u zs:=fun A hA=>by
 obtain⟨lo,hb,hr,hu⟩:=JiP h h0;obtain⟨u,u1,u2⟩:=hu (Pt.nth A.length);refine⟨[(zs.map (V.int .i64),lo)],u,hA.snoc hb fun A' _=>hr _ _,fun A' hp=> ?_⟩;have hl:A.length<(A++[(zs.map (V.int .i64),lo)]).length:=by simp
 have g1:=JtT hp hl;have r1:=JqC hp hl;simp only[List.getElem_concat_length]at g1 r1;refine⟨u2 _ _ g1, ?_⟩;rcases u1 with u1|u1
 ·exact .inl u1
 ·exact .inr ⟨_,u1,r1⟩
theorem OpnC.many {α:Type}{z:Nat}{K:List V->St->α->Prop}:∀{xs:List (List Value)},(∀cs∈xs,∃r,OpnC ρ w cs fun st e=>e.length=z/\K e st r)->∃rs:List α,rs.length=xs.length/\OpnC ρ w xs.flatten fun st e=>∃es:List (List V),e=es.flatten/\(∀x∈es,x.length=z)/\es.length=rs.length/\∀i (h:i<es.length) (h':i<rs.length),K es[i] st rs[i]
 |[],_=>⟨[],rfl,OpnC.nil.mono fun st e h=>⟨[],h,by simp,rfl,fun i h=>absurd h (by simp)⟩⟩
 | cs::xs,hx=>by
   obtain⟨r,hr⟩:=hx cs (by simp);obtain⟨rs,hl,h⟩:=OpnC.many (xs:=xs) fun c hc=>hx c (List.mem_cons_of_mem _ hc);refine⟨r::rs,by simp[hl], ?_⟩;rw[List.flatten_cons];refine(hr.append h).mono fun st e ⟨a,b,h1,⟨h2,h3⟩,es,h4,h5,h6,h7⟩=>⟨a::es,by rw[h1,h4];rfl, ?_,by simp[h6], ?_⟩
   ·intro x hx;rcases List.mem_cons.1 hx with rfl|hx
    ·exact h2
    ·exact h5 x hx
   ·intro i hi hi'
    cases i with
    |zero=>exact h3
    |succ i=>exact h7 i (by simpa using hi) (by simpa using hi')
end
def RwsAt (P:Pt->Prop)(st:St)(u:V)(rs:List Rw):Prop:=∃es,SlAt P st u 4 es/\es.length=rs.length/\rs.length<2^63/\∀i (h:i<es.length) (h':i<rs.length),RwC P st es[i] rs[i]
section
variable {H : Type} {enc : TypeId × Value -> H} {P : Program} {W : World} {ρ : Nat -> Value}
structure RawTy (P:Program) (t ti ts tk:TypeId):Prop where
 raw:∃f0 f1 f2 f3:Field,P.underlying t=some (.struct #[f0,f1,f2,f3])/\(f0.type=ti/\f0.offset=0)/\(f1.type=ti/\f1.offset=1)/\(f2.type=ts/\f2.offset=2)/\(f3.type=tk/\f3.offset=3)
 int:P.underlying ti=some (.int .i64)
 ints:P.underlying ts=some (.slice ti)
 kids:P.underlying tk=some (.slice t)
 ct:P.cellsOf t=4
 ci:P.cellsOf ti=1
 cs:P.cellsOf ts=1
 ck:P.cellsOf tk=1
end
end Eva
namespace Eva
open Go Go.RowKit
theorem Jl4 {n:Nd}{r:List Nd}:∀{l:List Nd} {i j:Nat},idx n l i=some j->idx n (l++r) i=some j
 |[],i,j,h=>by cases h
 | a::l,i,j,h=>by
   rw[List.cons_append,idx];rw[idx]at h;by_cases c:n=a
   ·rw[if_pos c]at h⊢;exact h
   ·rw[if_neg c]at h⊢;exact Jl4 h
theorem Jhq {n:Nd}:∀{l:List Nd} {i:Nat},idx n l i=none->idx n (l++[n]) i=some (i+l.length)
 |[],i,_=>by rw[List.nil_append,idx,if_pos rfl];rfl
 | a::l,i,h=>by
   rw[idx]at h;by_cases c:n=a
   ·rw[if_pos c]at h;cases h
   ·rw[if_neg c]at h;rw[List.cons_append,idx,if_neg c,Jhq h,List.length_cons];congr 1;omega
theorem JdH {n:Nd}:∀{l:List Nd} {i j:Nat},idx n l i=some j->i<=j/\l[j-i]? =some n
 |[],i,j,h=>by cases h
 | a::l,i,j,h=>by
   rw[idx]at h;by_cases c:n=a
   ·rw[if_pos c]at h;injection h with h;subst h;exact⟨Nat.le_refl _,by rw[Nat.sub_self,c];rfl⟩
   ·rw[if_neg c]at h;obtain⟨h1,h2⟩:=JdH h;refine⟨by omega, ?_⟩;have:j-i=(j-(i+1))+1:=by omega
    rw[this,List.getElem?_cons_succ];exact h2
mutual
def lookT (nodes:List Nd):Ty->Option Nat
 | .mk k n ns ks=>match looksT nodes ks with
   |none=>none
   |some ids=>idx ⟨k,n,ns,ids⟩ nodes 0
def looksT (nodes:List Nd):List Ty->Option (List Nat)
 |[]=>some []
 | t::r=>match lookT nodes t,looksT nodes r with
   |some i,some l=>some (i::l)
   |_,_=>none
end
mutual
def sizeT :Ty->Nat
 | .mk _ _ _ ks=>sizesT ks+1
def sizesT :List Ty->Nat
 |[]=>0
 |t::r=>sizeT t+sizesT r
end
mutual
theorem ko {l r:List Nd}:∀(t:Ty) {i:Nat},lookT l t=some i->lookT (l++r) t=some i
 | .mk k n ns ks,i,h=>by
   rw[lookT]at h⊢
   cases c:looksT l ks with
   |none=>rw[c]at h;cases h
   | some ids=>
     rw[c]at h;rw[jH ks c];exact Jl4 h
theorem jH {l r:List Nd}:∀(ts:List Ty) {ids:List Nat},looksT l ts=some ids->looksT (l++r) ts=some ids
 |[],ids,h=>by rw[looksT]at h⊢;exact h
 | t::ts,ids,h=>by
   rw[looksT]at h⊢
   cases c:lookT l t with
   |none=>rw[c]at h;cases h
   | some i=>
     cases c2:looksT l ts with
     |none=>rw[c,c2]at h;cases h
     | some is=>
       rw[c,c2]at h;rw[ko t c,jH ts c2];exact h
end
theorem Jl5 {tb:Tb}{n:Nd}(h:(layS tb n).2.2=0):∃r,(layS tb n).1={tb with nodes:=tb.nodes++r}/\idx n (layS tb n).1.nodes 0=some (layS tb n).2.1/\r.length<=1:=by
 unfold layS at h⊢
 cases c:idx n tb.nodes 0 with
 |some i=>exact⟨[],by simp,by simpa using c,by simp⟩
 | none=>
   rw[c]at h;by_cases c2:120<=tb.nodes.length
   ·rw[if_pos c2]at h;cases h
   ·simp only[if_neg c2];refine⟨[n],rfl, ?_,by simp⟩;have:=Jhq c;rw[Nat.zero_add]at this;exact this
mutual
theorem Jah :∀(t:Ty) {left:Int} {tb:Tb},(addT t left tb).2.2.1=0->∃r,(addT t left tb).1={tb with nodes:=tb.nodes++r}/\lookT (addT t left tb).1.nodes t=some (addT t left tb).2.1/\(addT t left tb).2.2.2=left-sizeT t
 | .mk k n ns ks,left,tb,h=>by
   rw[Q7]at h⊢;by_cases c:left-1<0\/8<ks.length\/8<ns.length
   ·rw[if_pos c]at h;cases h
   rw[if_neg c]at h⊢;have ih:=qF ks (left:=left-1) (tb:=tb);generalize addTs ks (left-1) tb=x at h ih⊢;obtain⟨tb1,ids,e,l1⟩:=x;simp only at h ih⊢;by_cases he:e=0
   ·subst he;obtain⟨r,a1,a2,a3⟩:=ih rfl;simp only[ne_eq,not_true_eq_false,if_false]at h⊢;obtain⟨r2,b1,b2,b3⟩:=Jl5 h;refine⟨r++r2,by rw[b1,a1];simp, ?_,by rw[a3,sizeT];push_cast;omega⟩;rw[lookT,b1];simp only;rw[jH ks a2];rw[b1]at b2;exact b2
   ·rw[if_pos he]at h;exact absurd h he
theorem qF :∀(ts:List Ty) {left:Int} {tb:Tb},(addTs ts left tb).2.2.1=0->∃r,(addTs ts left tb).1={tb with nodes:=tb.nodes++r}/\looksT (addTs ts left tb).1.nodes ts=some (addTs ts left tb).2.1/\(addTs ts left tb).2.2.2=left-sizesT ts
 | [],left,tb,h=>by
   rw[Qw];exact⟨[],by simp,by rw[looksT],by simp[sizesT]⟩
 | t::ts,left,tb,h=>by
   rw[Qe]at h⊢;have i1:=Jah t (left:=left) (tb:=tb);generalize addT t left tb=x at h i1⊢;obtain⟨tb1,i,e,l1⟩:=x;simp only at h i1⊢;by_cases he:e=0
   ·subst he;obtain⟨r,a1,a2,a3⟩:=i1 rfl;simp only[ne_eq,not_true_eq_false,if_false]at h⊢;have i2:=qF ts (left:=l1) (tb:=tb1);generalize addTs ts l1 tb1=y at h i2⊢;obtain⟨tb2,is,e2,l2⟩:=y;simp only at h i2⊢;obtain⟨r2,b1,b2,b3⟩:=i2 h;refine⟨r++r2,by rw[b1,a1];simp, ?_,by rw[b3,a3,sizesT];push_cast;omega⟩;rw[looksT,b2];have:lookT tb2.nodes t=some i:=by rw[b1];exact ko t a2
    rw[this]
   ·rw[if_pos he]at h;exact absurd h he
end
mutual
theorem Jkx :∀(t:Ty) {left l0:Int} {tb tb0:Tb} {i:Nat},(addT t l0 tb0).2.2.1=0->lookT tb.nodes t=some i->(sizeT t:Int)<=left->addT t left tb=(tb,i,0,left-sizeT t)
 | .mk k n ns ks,left,l0,tb,tb0,i,h0,h,hl=>by
   rw[Q7]at h0⊢;by_cases c:l0-1<0\/8<ks.length\/8<ns.length
   ·rw[if_pos c]at h0;cases h0
   rw[if_neg c]at h0;rw[sizeT]at hl⊢;rw[if_neg (by push_cast at hl;omega)];rw[lookT]at h
   cases c2:looksT tb.nodes ks with
   |none=>rw[c2]at h;cases h
   | some ids=>
     rw[c2]at h;simp only at h;have hk:(addTs ks (l0-1) tb0).2.2.1=0:=by
      generalize addTs ks (l0-1) tb0=x at h0⊢;obtain⟨tb1,ids',e,l1⟩:=x;simp only at h0⊢;by_cases he:e=0
      ·exact he
      ·rw[if_pos he]at h0;exact absurd h0 he
     rw[Jdc ks hk c2 (by push_cast at hl;omega)];simp only[ne_eq,not_true_eq_false,if_false];unfold layS;rw[h];simp only;congr 3
     push_cast;omega
theorem Jdc :∀(ts:List Ty) {left l0:Int} {tb tb0:Tb} {is:List Nat},(addTs ts l0 tb0).2.2.1=0->looksT tb.nodes ts=some is->(sizesT ts:Int)<=left->addTs ts left tb=(tb,is,0,left-sizesT ts)
 | [],left,l0,tb,tb0,is,_,h,hl=>by
   rw[looksT]at h;injection h with h;rw[Qw,<-h];simp[sizesT]
 | t::ts,left,l0,tb,tb0,is,h0,h,hl=>by
   rw[Qe]at h0⊢;rw[sizesT]at hl⊢;rw[looksT]at h
   cases c:lookT tb.nodes t with
   |none=>rw[c]at h;cases h
   | some i=>
     cases c2:looksT tb.nodes ts with
     |none=>rw[c,c2]at h;cases h
     | some l=>
       rw[c,c2]at h;injection h with h;have k1:(addT t l0 tb0).2.2.1=0/\(addTs ts (addT t l0 tb0).2.2.2 (addT t l0 tb0).1).2.2.1=0:=by
        generalize addT t l0 tb0=x at h0⊢;obtain⟨tb1,i',e,l1⟩:=x;simp only at h0⊢;by_cases he:e=0
        ·subst he;simp only[ne_eq,not_true_eq_false,if_false]at h0;exact⟨rfl,h0⟩
        ·rw[if_pos he]at h0;exact absurd h0 he
       rw[Jkx t k1.1 c (by push_cast at hl;omega)];simp only[ne_eq,not_true_eq_false,if_false];rw[Jdc ts k1.2 c2 (by push_cast at hl;omega),<-h];simp only;congr 3
       push_cast;omega
end
theorem JoW (tb:Tb)(n:Nd):(layS tb n).2.2=0\/(layS tb n).2.2=20:=by
 unfold layS
 split
 ·exact .inl rfl
 ·split
  ·exact .inr rfl
  ·exact .inl rfl
mutual
theorem JoX :∀(t:Ty) (left:Int) (tb:Tb),(addT t left tb).2.2.1=0\/(addT t left tb).2.2.1=20
 | .mk k n ns ks,left,tb=>by
   rw[Q7]
   split
   ·exact .inr rfl
   ·have ih:=Jgv ks (left-1) tb;generalize addTs ks (left-1) tb=x at ih⊢;obtain⟨tb1,ids,e,l1⟩:=x;simp only at ih⊢;by_cases he:e=0
    ·rw[if_neg (fun k=>k he)];exact JoW _ _
    ·rw[if_pos he];exact ih
theorem Jgv :∀(ts:List Ty) (left:Int) (tb:Tb),(addTs ts left tb).2.2.1=0\/(addTs ts left tb).2.2.1=20
 |[],left,tb=>by rw[Qw];exact .inl rfl
 | t::ts,left,tb=>by
   rw[Qe];have i1:=JoX t left tb;generalize addT t left tb=x at i1⊢;obtain⟨tb1,i,e,l1⟩:=x;simp only at i1⊢;by_cases he:e=0
   ·rw[if_neg (fun k=>k he)];have i2:=Jgv ts l1 tb1;generalize addTs ts l1 tb1=y at i2⊢;obtain⟨tb2,is,e2,l2⟩:=y;exact i2
   ·rw[if_pos he];exact i1
end
def Acy (tb:Tb):Prop:=∀(i:Nat) (nd:Nd),tb.nodes[i]? =some nd->nd.kind≠9/\∀k∈nd.kids,k<i
def Sim (u:Nat)(V W:Was):Prop:=∀q:Nat×Nat,q.2<u->(q∈V<->q∈W)
def ResS (u:Nat)(o1 o2:Option (Bool×Was)):Prop:=(o1=none/\o2=none)\/∃x V W,o1=some (x,V)/\o2=some (x,W)/\Sim u V W
theorem kR {l:List Nat}{i:Nat}(h:i<l.length):l.getD i 0∈l:=by
 rw[List.getD_eq_getElem?_getD,List.getElem?_eq_getElem h];exact List.getElem_mem h
theorem JbQ (x y:Nd)(first:Bool):∀(l:List Str) (i:Nat) (q:Nat×Nat),some q∈byP x y first l i->if first=true then q.2∈y.kids else q.2∈x.kids
 |[],i,q,h=>by cases h
 | n::r,i,q,h=>by
   rw[byP]at h;rcases List.mem_cons.1 h with h|h
   ·unfold pairN at h
    split at h
    ·cases h
    ·rename_i j _
     split at h
     ·rename_i c
      injection h with h
      cases first with
      |true=>simp only[if_true]at h⊢;rw[h];exact kR c.2
      | false=>
        simp only[Bool.false_eq_true,if_false]at h⊢;rw[h];exact kR c.1
     ·cases h
   ·exact JbQ x y first r (i+1) q h
theorem Jcv (y:Nd):∀(l:List Nat) (i:Nat) (q:Nat×Nat),some q∈kidsP y l i->q.2∈y.kids
 |[],i,q,h=>by cases h
 | a::r,i,q,h=>by
   rw[kidsP]at h;rcases List.mem_cons.1 h with h|h
   ·split at h
    ·rename_i c;injection h with h;rw[h];exact kR c
    ·cases h
   ·exact Jcv y r (i+1) q h
theorem JoY {tb:Tb}(hT:Acy tb){a b:Nat}{l:List (Option (Nat×Nat))}(h:plan tb a b=some l)(q:Nat×Nat)(hq:some q∈l):q.2<b:=by
 unfold plan at h
 split at h
 ·rename_i c
  have hb:=Ji2 c.2;have hlb:b<tb.nodes.length:=by
   rcases Nat.lt_or_ge b tb.nodes.length with k|k
   ·exact k
   ·rw[jX k]at c;cases c.2
  have hnb:=hT b tb.nodes[b] (List.getElem?_eq_getElem hlb);have eb:openS tb (tb.nodes.length+1) b=(b,true):=QX hlb hnb.1;rw[eb]at h;have gb:tb.nodes.getD b zeroNd=tb.nodes[b]:=by simp[List.getD_eq_getElem?_getD,hlb]
  simp only[gb]at h;refine hnb.2 q.2 ?_;unfold plan2 at h
  split at h
  ·rename_i c2
   injection h with h;rw[<-h]at hq;have hq:some q=some _:=List.mem_singleton.1 hq;injection hq with hq;rw[hq];exact kR (by omega)
  ·split at h
   ·cases h
   ·split at h
    ·injection h with h;rw[<-h]at hq;have:=JbQ _ _ true _ _ q hq;simpa using this
    ·split at h
     ·injection h with h;rw[<-h]at hq;have:=JbQ _ _ false _ _ q hq;simpa using this
     ·injection h with h;rw[<-h]at hq;exact Jcv _ _ _ q hq
 ·cases h
theorem Jje {u:Nat}{f:Was->Nat->Nat->Option (Bool×Was)}(hf:∀V W a b,Sim u V W->b<u->ResS u (f V a b) (f W a b)):∀(l:List (Option (Nat×Nat))) (V W:Was),(∀q,some q∈l->q.2<u)->Sim u V W->ResS u (asksS f l V) (asksS f l W)
 |[],V,W,_,h=> .inr ⟨true,V,W,rfl,rfl,h⟩
 |none::r,V,W,_,h=> .inr ⟨false,V,W,rfl,rfl,h⟩
 | some p::r,V,W,hl,h=>by
   have k:=hf V W p.1 p.2 h (hl p List.mem_cons_self);rw[asksS,asksS];rcases k with⟨k1,k2⟩|⟨x,V',W',k1,k2,k3⟩
   ·rw[k1,k2];exact .inl ⟨rfl,rfl⟩
   ·rw[k1,k2]
    cases x with
    |false=>exact .inr ⟨false,V',W',rfl,rfl,k3⟩
    |true=>exact Jje hf r V' W' (fun q hq=>hl q (List.mem_cons_of_mem _ hq)) k3
theorem Jl6 {u:Nat}{V W:Was}(h:Sim u V W)(q:Nat×Nat):Sim u (V++[q]) (W++[q]):=fun p hp=>by
 simp only[List.mem_append,List.mem_singleton,h p hp]
theorem Jjf {tb:Tb}(hT:Acy tb){u:Nat}:∀(f:Nat) (V W:Was) (a b:Nat),Sim u V W->b<u->ResS u (fitsS tb f V a b) (fitsS tb f W a b)
 |0,V,W,a,b,_,_=> .inl ⟨rfl,rfl⟩
 | f+1,V,W,a,b,h,hb=>by
   rw[fitsS,fitsS];by_cases c:a=b\/(a,b)∈V
   ·have c':a=b\/(a,b)∈W:=c.imp id (h (a,b) hb).1;rw[if_pos c,if_pos c'];exact .inr ⟨true,V,W,rfl,rfl,h⟩
   ·have c':¬(a=b\/(a,b)∈W):=fun k=>c (k.imp id (h (a,b) hb).2);rw[if_neg c,if_neg c']
    cases hp:plan tb a b with
    |none=>exact .inr ⟨false,_,_,rfl,rfl,Jl6 h _⟩
    |some l=>exact Jje (Jjf hT f) l _ _ (fun q hq=>Nat.lt_trans (JoY hT hp q hq) hb) (Jl6 h _)
mutual
def noName :Ty->Bool
 | .mk k _ _ ks=>decide (k≠9)&&noNames ks
def noNames :List Ty->Bool
 |[]=>true
 |t::r=>noName t&&noNames r
end
theorem Jl7 {tb:Tb}{n:Nd}(h:Acy tb)(hk:n.kind≠9)(hn:∀k∈n.kids,k<tb.nodes.length):Acy (layS tb n).1:=by
 unfold layS
 split
 ·exact h
 ·split
  ·exact h
  ·intro i nd hi;have hi:(tb.nodes++[n])[i]? =some nd:=hi;rcases Nat.lt_or_ge i tb.nodes.length with c|c
   ·rw[List.getElem?_append_left c]at hi;exact h i nd hi
   ·rw[List.getElem?_append_right c]at hi;have e:i-tb.nodes.length=0:=by
     have:=(List.getElem?_eq_some_iff.1 hi).1;simpa using this
    rw[e]at hi;injection hi with hi;rw[<-hi];exact⟨hk,fun k hk=>Nat.lt_of_lt_of_le (hn k hk) c⟩
theorem Js5 {tb:Tb}{n:Nd}(h:(layS tb n).2.2=0):(layS tb n).2.1<(layS tb n).1.nodes.length:=by
 obtain⟨r,_,h2,_⟩:=Jl5 h;have:=(JdH h2).2;rw[Nat.sub_zero]at this;exact(List.getElem?_eq_some_iff.1 this).1
mutual
theorem Jjg :∀(t:Ty) {left:Int} {tb:Tb},noName t=true->Acy tb->Acy (addT t left tb).1/\((addT t left tb).2.2.1=0->(addT t left tb).2.1<(addT t left tb).1.nodes.length)
 | .mk k n ns ks,left,tb,hn,h=>by
   rw[noName,Bool.and_eq_true,decide_eq_true_eq]at hn;rw[Q7];by_cases c:left-1<0\/8<ks.length\/8<ns.length
   ·rw[if_pos c];exact⟨h,fun e=>by cases e⟩
   rw[if_neg c];have ih:=Jgw ks (left:=left-1) (tb:=tb) hn.2 h;generalize addTs ks (left-1) tb=x at ih⊢;obtain⟨tb1,ids,e,l1⟩:=x;simp only at ih⊢;by_cases he:e=0
   ·subst he;simp only[ne_eq,not_true_eq_false,if_false];exact⟨Jl7 ih.1 hn.1 (ih.2 rfl),fun e=>Js5 e⟩
   ·rw[if_pos he];exact⟨ih.1,fun e=>absurd e he⟩
theorem Jgw :∀(ts:List Ty) {left:Int} {tb:Tb},noNames ts=true->Acy tb->Acy (addTs ts left tb).1/\((addTs ts left tb).2.2.1=0->∀i∈(addTs ts left tb).2.1,i<(addTs ts left tb).1.nodes.length)
 |[],left,tb,hn,h=>by rw[Qw];exact⟨h,fun _ i hi=>by cases hi⟩
 | t::ts,left,tb,hn,h=>by
   rw[noNames,Bool.and_eq_true]at hn;rw[Qe];have i1:=Jjg t (left:=left) (tb:=tb) hn.1 h;generalize addT t left tb=x at i1⊢;obtain⟨tb1,i,e,l1⟩:=x;simp only at i1⊢;by_cases he:e=0
   ·subst he;simp only[ne_eq,not_true_eq_false,if_false];have i2:=Jgw ts (left:=l1) (tb:=tb1) hn.2 i1.1;have i3:=qF ts (left:=l1) (tb:=tb1);generalize addTs ts l1 tb1=y at i2 i3⊢;obtain⟨tb2,is,e2,l2⟩:=y;simp only at i2 i3⊢;refine⟨i2.1,fun e q hq=> ?_⟩;rcases List.mem_cons.1 hq with rfl|hq
    ·obtain⟨r,b1,_⟩:=i3 e;have:=i1.2 rfl;rw[b1];simp only[List.length_append];omega
    ·exact i2.2 e q hq
   ·rw[if_pos he];exact⟨i1.1,fun e=>absurd e he⟩
end
theorem JmM {tb:Tb}(hT:Acy tb){k:Int}(hk:k=4\/k=5){p u i j:Nat}(hp:tb.nodes[p]? =some ⟨k,[],[],[i]⟩)(hu:tb.nodes[u]? =some ⟨k,[],[],[j]⟩){f:Nat}{x:Bool}{V:Was}(h:fitsS tb f [] i j=some (x,V)):∃W,fitsS tb (f+1) [] p u=some (x,W):=by
 have lp:=(List.getElem?_eq_some_iff.1 hp).1;have lu:=(List.getElem?_eq_some_iff.1 hu).1;have hj:j<u:=(hT u _ hu).2 j (by simp);by_cases e:p=u
 ·subst e;rw[hp]at hu;injection hu with hu;injection hu with _ _ _ hu;injection hu with hu;subst hu;rw[Ji3]
  cases f with
  |zero=>cases h
  | succ f=>
    rw[Ji3]at h;injection h with h;injection h with h;exact⟨[],by rw[<-h]⟩
 ·have o1:openS tb (tb.nodes.length+1) p=(p,true):=QX lp (by rw[(List.getElem?_eq_some_iff.1 hp).2];rcases hk with rfl|rfl<;>simp);have o2:openS tb (tb.nodes.length+1) u=(u,true):=QX lu (by rw[(List.getElem?_eq_some_iff.1 hu).2];rcases hk with rfl|rfl<;>simp);have hplan:plan tb p u=some [some (i,j)]:=by
   unfold plan;rw[o1,o2];simp only[and_self,if_true,List.getD_eq_getElem?_getD,hp,hu,Option.getD_some];rcases hk with rfl|rfl<;>simp[plan2,kidsP]
  rw[fitsS,if_neg (by simp;exact e),hplan];have s:Sim u [] ([]++[(p,u)]):=fun q hq=>by
   simp only[List.nil_append,List.mem_singleton];exact⟨fun h=>absurd h (by simp),fun h=>by rw[h]at hq;exact absurd hq (Nat.lt_irrefl _)⟩
  rcases Jjf hT f [] ([]++[(p,u)]) i j s hj with⟨k1,_⟩|⟨x',V',W',k1,k2,_⟩
  ·rw[h]at k1;cases k1
  ·rw[h]at k1;injection k1 with k1;injection k1 with k1 _;show∃W,asksS (fitsS tb f) [some (i,j)] ([]++[(p,u)])=some (x,W);rw[asksS];show∃W,(match fitsS tb f ([]++[(p,u)]) i j with|none=>none|some (false,was)=>some (false,was)|some (true,was)=>asksS (fitsS tb f) [] was)=some (x,W);rw[k2,<-k1]
   cases x with
   |false=>exact⟨_,rfl⟩
   |true=>exact⟨_,rfl⟩
theorem Jgx {tb:Tb}(hT:Acy tb){i:Nat}{n:Nd}(h:tb.nodes[i]? =some n):openS tb (tb.nodes.length+1) i=(i,true):=by
 have l:=(List.getElem?_eq_some_iff.1 h)
 exact QX l.1 (by rw[l.2];exact(hT i n h).1)
theorem Jcw {tb:Tb}(hT:Acy tb){a b:Nat}{x y:Nd}(ha:tb.nodes[a]? =some x)(hb:tb.nodes[b]? =some y):plan tb a b=plan2 a x y:=by
 unfold plan;rw[Jgx hT ha,Jgx hT hb];simp only[and_self,if_true,List.getD_eq_getElem?_getD,ha,hb,Option.getD_some]
theorem Jhr (x y:Nd)(first:Bool):∀(l:List Str) (i:Nat) (q:Nat×Nat),some q∈byP x y first l i->if first=true then q.1∈x.kids else q.1∈y.kids
 |[],i,q,h=>by cases h
 | n::r,i,q,h=>by
   rw[byP]at h;rcases List.mem_cons.1 h with h|h
   ·unfold pairN at h
    split at h
    ·cases h
    ·rename_i j _
     split at h
     ·rename_i c
      injection h with h
      cases first with
      |true=>simp only[if_true]at h⊢;rw[h];exact kR c.1
      | false=>
        simp only[Bool.false_eq_true,if_false]at h⊢;rw[h];exact kR c.2
     ·cases h
   ·exact Jhr x y first r (i+1) q h
theorem Jgy (y:Nd):∀(l:List Nat) (i:Nat) (q:Nat×Nat),some q∈kidsP y l i->q.1∈l
 |[],i,q,h=>by cases h
 | a::r,i,q,h=>by
   rw[kidsP]at h;rcases List.mem_cons.1 h with h|h
   ·split at h
    ·injection h with h;rw[h];exact List.mem_cons_self
    ·cases h
   ·exact List.mem_cons_of_mem _ (Jgy y r (i+1) q h)
theorem JmN {a:Nat}{x y:Nd}{l:List (Option (Nat×Nat))}(h:plan2 a x y=some l)(q:Nat×Nat)(hq:some q∈l):(q.1=a\/q.1∈x.kids)/\q.2∈y.kids:=by
 unfold plan2 at h
 split at h
 ·rename_i c2
  injection h with h;rw[<-h]at hq;have hq:some q=some _:=List.mem_singleton.1 hq;injection hq with hq;rw[hq];exact⟨.inl rfl,kR (by omega)⟩
 ·split at h
  ·cases h
  ·split at h
   ·injection h with h;rw[<-h]at hq;have h1:=Jhr _ _ true _ _ q hq;have h2:=JbQ _ _ true _ _ q hq;simp only[if_true]at h1 h2;exact⟨.inr h1,h2⟩
   ·split at h
    ·injection h with h;rw[<-h]at hq;have h1:=Jhr _ _ false _ _ q hq;have h2:=JbQ _ _ false _ _ q hq;simp only[Bool.false_eq_true,if_false]at h1 h2;exact⟨.inr h1,h2⟩
    ·injection h with h;rw[<-h]at hq;exact⟨.inr (Jgy _ _ _ q hq),Jcv _ _ _ q hq⟩
theorem Jl8 {f g:Was->Nat->Nat->Option (Bool×Was)}:∀(l:List (Option (Nat×Nat))) (W:Was),(∀q,some q∈l->∀W,f W q.1 q.2=g W q.1 q.2)->asksS f l W=asksS g l W
 |[],W,_=>rfl
 |none::r,W,_=>rfl
 | some p::r,W,h=>by
   rw[asksS,asksS,h p List.mem_cons_self W];have ih:=fun W=>Jl8 r W fun q hq=>h q (List.mem_cons_of_mem _ hq)
   cases g W p.1 p.2 with
   |none=>rfl
   | some x=>
     obtain⟨b,V⟩:=x
     cases b with
     |false=>rfl
     |true=>exact ih V
theorem Jjh {tb tb':Tb}(hT:Acy tb)(hT':Acy tb')(hp:∀(i:Nat) (n:Nd),tb.nodes[i]? =some n->tb'.nodes[i]? =some n):∀(f:Nat) (W:Was) (a b:Nat),a<tb.nodes.length->b<tb.nodes.length->fitsS tb' f W a b=fitsS tb f W a b
 |0,W,a,b,_,_=>rfl
 | f+1,W,a,b,ha,hb=>by
   have ea:=List.getElem?_eq_getElem ha;have eb:=List.getElem?_eq_getElem hb;have e:plan tb' a b=plan tb a b:=by rw[Jcw hT ea eb,Jcw hT' (hp a _ ea) (hp b _ eb)]
   rw[fitsS,fitsS,e]
   split
   ·rfl
   ·cases hl:plan tb a b with
    |none=>rfl
    | some l=>
      refine Jl8 l _ fun q hq W=> ?_;rw[Jcw hT ea eb]at hl;obtain⟨k1,k2⟩:=JmN hl q hq;refine Jjh hT hT' hp f W q.1 q.2 ?_ (Nat.lt_trans ((hT b _ eb).2 _ k2) hb);rcases k1 with k1|k1
      ·rw[k1];exact ha
      ·exact Nat.lt_trans ((hT a _ ea).2 _ k1) ha
end Eva
