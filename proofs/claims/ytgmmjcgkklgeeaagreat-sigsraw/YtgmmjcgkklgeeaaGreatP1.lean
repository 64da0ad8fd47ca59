/- 'SubWidth', plainly. 'SubUnions', plainly. Two unions under way, in memory. What types  -/
import Derived.Test.YtgmmjcgkklgeeaaGreatEvd9
import Derived.ChangeArms
set_option linter.unusedVariables false
set_option linter.unusedSimpArgs false
set_option linter.unusedSectionVars false
set_option maxRecDepth 100000
namespace Eva
open Go Go.RowKit
def tb0 :Tb:=⟨[⟨2,[],[],[]⟩],[],0,[]⟩
abbrev ndI :Nd:=⟨2,[],[],[]⟩
abbrev ndU (l:List Str)(k:Nat):Nd:=⟨8,[],l,List.replicate l.length k⟩
abbrev tyI :Ty:= .mk 2 [] [] []
abbrev tyU (l:List Str)(t:Ty):Ty:= .mk 8 [] l (List.replicate l.length t)
theorem Jcd {t:Ty}{tb:Tb}{i:Nat}{c:Int}(hc:0<=c)(h:∀left,c<=left->addT t left tb=(tb,i,0,left-c)):∀(m:Nat) (left:Int),m*c<=left->Jw (List.replicate m t) left tb=(tb,List.replicate m i,0,left-m*c)
 |0,left,_=>by rw[List.replicate_zero,KJ];simp
 | m+1,left,hl=>by
   have hm:((m+1:Nat):Int)*c=m*c+c:=by push_cast;rw[Int.add_mul,Int.one_mul]
   have h0:(0:Int)<=m*c:=Int.mul_nonneg (by omega) hc;rw[hm]at hl⊢;rw[List.replicate_succ,Ku,h left (by omega)];simp only[ne_eq,not_true_eq_false,if_false];rw[Jcd hc h m (left-c) (by omega)];simp only[List.replicate_succ];congr 3;omega
theorem JjC {t:Ty}{tb tb':Tb}{i:Nat}{c:Int}(hc:0<=c)(h1:∀left,c<=left->addT t left tb=(tb',i,0,left-c))(h:∀left,c<=left->addT t left tb'=(tb',i,0,left-c))(m:Nat)(left:Int)(hl:(m+1:Nat)*c<=left):Jw (List.replicate (m+1) t) left tb=(tb',List.replicate (m+1) i,0,left-(m+1:Nat)*c):=by
 have hm:((m+1:Nat):Int)*c=m*c+c:=by push_cast;rw[Int.add_mul,Int.one_mul]
 have h0:(0:Int)<=m*c:=Int.mul_nonneg (by omega) hc;rw[hm]at hl⊢;rw[List.replicate_succ,Ku,h1 left (by omega)];simp only[ne_eq,not_true_eq_false,if_false];rw[Jcd hc h m (left-c) (by omega)];simp only[List.replicate_succ];congr 3;omega
theorem nI {tb:Tb}{r:List Nd}(hr:tb.nodes=ndI::r)(left:Int)(hl:1<=left):addT tyI left tb=(tb,0,0,left-1):=by
 rw[K0,if_neg (by simp;omega),KJ];simp[layS,hr,idx]
theorem nI0 (left:Int)(hl:1<=left):addT tyI left JC=(⟨[ndI],[],0,[]⟩,0,0,left-1):=by
 rw[K0,if_neg (by simp;omega),KJ];simp[layS,JC,idx]
theorem nX {xs:List Str}(h0:xs≠[])(h8:xs.length<=8):addT (tyU xs tyI) 400 JC=((⟨[ndI,ndU xs 0],[],0,[]⟩:Tb),1,0,399-(xs.length:Int)):=by
 obtain⟨m,hm⟩:∃m,xs.length=m+1:=⟨xs.length-1,by have:=List.length_pos_iff.2 h0;omega⟩
 rw[K0,if_neg (by simp;omega),hm,JjC (tb:=JC) (tb':=⟨[ndI],[],0,[]⟩) (i:=0) (c:=1) (by omega) nI0 (nI (tb:=⟨[ndI],[],0,[]⟩) (r:=[]) rfl) m _ (by omega)];simp only[ne_eq,not_true_eq_false,if_false];simp[layS,idx,hm]
theorem nY {xs ys:List Str}(h0:ys≠[])(h8:ys.length<=8):addT (tyU ys tyI) 400 ⟨[ndI,ndU xs 0],[],1,[]⟩=if ys=xs then(⟨[ndI,ndU xs 0],[],1,[]⟩,1,0,399-(ys.length:Int))else(⟨[ndI,ndU xs 0,ndU ys 0],[],1,[]⟩,2,0,399-(ys.length:Int)):=by
 rw[K0,if_neg (by simp;omega),Jcd (c:=1) (by omega) (nI (tb:=⟨[ndI,ndU xs 0],[],1,[]⟩) rfl) ys.length _ (by omega)];simp only[ne_eq,not_true_eq_false,if_false];have h1:¬(ndU ys 0=ndI):=fun e=>by have:=congrArg Nd.kind e;cases this
 by_cases h:ys=xs
 ·subst h;simp[layS,idx]
 ·have h2:¬(ndU ys 0=ndU xs 0):=fun e=>h (by have:=congrArg Nd.names e;exact this);have h3:idx (ndU ys 0) [ndI,ndU xs 0] 0=none:=by simp only[idx,if_neg h1,if_neg h2]
  simp only[layS,h3,if_neg h];simp
theorem Jic (tb:Tb)(f:Nat)(was:Was)(a:Nat):Yr tb (f+1) was a a=some (true,was):=by rw[Yr,if_pos (.inl rfl)]
theorem Qw {S0 st:St}{v:V}{z:Nat}{es:List (List V)}{P:Pt->Prop}{vx:V}{xs:List (List V)}(hg:Gr S0 st)(h:SlF S0 st v z es)(hx:SlAt P st vx z xs)(hok:okC xs)(h0:xs≠[])(hn:xs.length<2^20)(hn2:es.length+xs.length<=2^24){R:V->St->Prop}
  (k:∀S' v',Gr S0 S'->SlF S0 S' v' z (es++xs)->rowOf v'=some st.nx->(∀p,st.row p≠ .none->rowOf v≠some p->S'.row p=st.row p)->R v' S'):wW (appV st z v vx) st R:=by
 have h0:¬xs.length=0:=fun e=>h0 (List.length_eq_zero_iff.1 e);have happ:appV st z v vx=JE st z xs.length xs.flatten v:=by
  unfold appV;rw[hx.slen];simp only[hx.all];rw[if_pos ⟨hn,hok.flat⟩]
 have hz:∀e∈es++xs,e.length=z:=fun e he=>by
  rcases List.mem_append.1 he with he|he
  ·exact h.1 e he
  ·exact hx.1 e he
 rw[happ];have w:=hg.wf;rcases h.2 with⟨rfl,hes⟩|⟨r,t,h2,h3,h4⟩
 ·have e1:JE st z xs.length xs.flatten .snil=some (.sl st.nx 0 xs.length z, .new fun t=> .cells t xs.flatten):=by
   unfold JE;rw[if_neg h0]
  rw[e1];subst hes;refine k (st.new fun t=> .cells t xs.flatten) _ (hg.nn (Ja _)) ⟨hz, .inr ⟨st.nx,st.t,hg.fresh,by rw[JG];simp, .inl (by simp)⟩⟩ rfl fun p hp _=>Ko w _ hp
 ·have hfl:=JF h.1;have hle:0+es.length*z<=es.flatten.length:=by omega
  have htk:(es.flatten.drop 0).take (es.length*z)=es.flatten:=by rw[List.drop_zero,<-hfl,List.take_length]
  rcases h4 with rfl|rfl
  ·have e1:JE st z xs.length xs.flatten (.sl r 0 es.length z)=some (.sl st.nx 0 (es.length+xs.length) z, .dn r t fun u=> .cells u (es.flatten++xs.flatten)):=by
    unfold JE;rw[if_neg h0];simp only[h3];rw[if_neg (by simp;omega),if_pos hle,htk]
   rw[e1];refine k ((st.wr r t .dead).new fun u=> .cells u (es.flatten++xs.flatten)) _ (hg.dn h2 (by rw[h3];exact fun e=>by cases e) (by rw[h3];rfl) (Ja _)) ⟨hz, .inr ⟨st.nx,st.t+1,hg.fresh, ?_, .inl (by simp)⟩⟩ rfl fun p hp hne=> ?_
   ·rw[List.flatten_append];exact JG (st.wr r t .dead) _
   ·have hpr:p≠r:=fun e=>hne (by rw[e];rfl);have hw2:WF (st.wr r t .dead):=(QW w (by rw[h3];exact fun e=>by cases e) (by rw[h3];rfl) fun u=>⟨rfl,fun e=>by cases e⟩).wf;rw[Ko hw2 _ (by rw[Jl _ _ _ hpr];exact hp),Jl _ _ _ hpr]
  ·have e1:JE st z xs.length xs.flatten (.slx r 0 es.length z es.length)=some (.sl st.nx 0 (es.length+xs.length) z, .new fun u=> .cells u (es.flatten++xs.flatten)):=by
    unfold JE;rw[if_neg h0];simp only[h3];rw[if_neg (by simp;omega),if_pos hle,if_neg (by omega),htk]
   rw[e1];refine k (st.new fun u=> .cells u (es.flatten++xs.flatten)) _ (hg.nn (Ja _)) ⟨hz, .inr ⟨st.nx,st.t,hg.fresh, ?_, .inl (by simp)⟩⟩ rfl fun p hp _=>Ko w _ hp;rw[List.flatten_append];exact JG st _
def OwnF (S:St)(f:Nat->V):Prop:=(∀i r,rowOf (f i)=some r->S.row r≠ .none)/\∀i j r,i≠j->rowOf (f i)=some r->rowOf (f j)≠some r
def setF (f:Nat->V)(k:Nat)(v:V):Nat->V:=fun i=>if i=k then v else f i
theorem JgA (f:Nat->V)(k:Nat)(v:V):setF f k v k=v:=if_pos rfl
theorem Jdl (f:Nat->V){k i:Nat}(v:V)(h:i≠k):setF f k v i=f i:=if_neg h
def intW :List V:=[.int .i64 2,ofL [], .snil, .snil]
def kidW (wd:Bool)(f:Nat->V)(i:Nat):List V:=if wd=true then[.int .i64 6,ofL [], .snil,f (8+i)]else intW
structure UI (S1:St) (wd:Bool) (o x y:Pt) (S:St) (f:Nat->V) (xs:List Str) (n:Nat) (ys:List Str) (m:Nat) (cx cy:List V):Prop where
 gr:Gr S1 S
 own:OwnF S f
 eo:f 4= .ptr o 0
 ex:f 5= .ptr x 0
 ey:f 6= .ptr y 0
 fo:S1.row x= .none/\S1.row y= .none
 ro:∃t,S.row o= .cells t intW
 rx:∃t,S.row x= .cells t cx
 ry:∃t,S.row y= .cells t cy
 nx:SlF S1 S (f 0) 1 (strs xs)
 kx:SlF S1 S (f 1) 4 (List.replicate n intW)
 ny:SlF S1 S (f 2) 1 (strs ys)
 ky:SlF S1 S (f 3) 4 ((List.range m).map (kidW wd f))
 kids:wd=true->∀i,i<m->SlF S1 S (f (8+i)) 4 [intW]
section
variable {S1 S S' : St} {wd : Bool} {o x y : Pt} {f : Nat -> V} {xs ys : List Str} {n m : Nat} {cx cy : List V}
theorem SlF.some {S0 st:St}{v:V}{z:Nat}{es:List (List V)}(h:SlF S0 st v z es){r:Pt}(hr:rowOf v=some r):st.row r≠ .none:=by
 obtain⟨_,t,e⟩:=h.row hr;exact Jc e
theorem UI.same (h:UI S1 wd o x y S f xs n ys m cx cy)(g:Gr S1 S')(k:∀p,S.row p≠ .none->S'.row p=S.row p):UI S1 wd o x y S' f xs n ys m cx cy:=by
 have ks:∀{v:V} {z:Nat} {es:List (List V)},SlF S1 S v z es->SlF S1 S' v z es:=fun hs=>hs.keep fun r hr=>k r (hs.some hr);have kr:∀{p:Pt} {c:List V},(∃t,S.row p= .cells t c)->∃t,S'.row p= .cells t c:=fun⟨t,e⟩=>⟨t,by rw[k _ (Jc e),e]⟩
 exact{h with gr:=g,own:=⟨fun i r hr=>by rw[k r (h.own.1 i r hr)];exact h.own.1 i r hr,h.own.2⟩,ro:=kr h.ro,rx:=kr h.rx,ry:=kr h.ry,nx:=ks h.nx,kx:=ks h.kx,ny:=ks h.ny,ky:=ks h.ky,kids:=fun a i b=>ks (h.kids a i b)}
theorem OwnF.set {k:Nat}{v':V}(h:OwnF S f)(hf:∀r,rowOf v'=some r->S.row r= .none/\S'.row r≠ .none)(keep:∀p,S.row p≠ .none->rowOf (f k)≠some p->S'.row p=S.row p):OwnF S' (setF f k v'):=by
 refine⟨fun i r hr=> ?_,fun i j r hij hi hj=> ?_⟩
 ·by_cases e:i=k
  ·subst e;rw[JgA]at hr;exact(hf r hr).2
  ·rw[Jdl _ _ e]at hr;rw[keep r (h.1 i r hr) (h.2 i k r e hr)];exact h.1 i r hr
 ·by_cases e:i=k
  ·subst e;rw[JgA]at hi;rw[Jdl _ _ (fun e=>hij e.symm)]at hj;exact h.1 j r hj (hf r hi).1
  ·rw[Jdl _ _ e]at hi;by_cases e2:j=k
   ·subst e2;rw[JgA]at hj;exact h.1 i r hi (hf r hj).1
   ·rw[Jdl _ _ e2]at hj;exact h.2 i j r hij hi hj
section
variable {v' : V} (h : UI S1 wd o x y S f xs n ys m cx cy) (g : Gr S1 S') (hf : ∀ r, rowOf v' = some r -> S.row r = .none /\ S'.row r ≠ .none)
include h g hf
end
theorem UI.ne {i j:Nat}{p q:Pt}(h:UI S1 wd o x y S f xs n ys m cx cy)(hij:i≠j)(hi:f i= .ptr p 0)(hj:f j= .ptr q 0):p≠q:=fun e=>h.own.2 i j p hij (by rw[hi];rfl) (by rw[hj,e];rfl)
theorem UI.wx (h:UI S1 wd o x y S f xs n ys m cx cy){t:Nat}(ht:S.row x= .cells t cx)(c:List V):UI S1 wd o x y (S.wr x t fun u=> .cells u c) f xs n ys m c cy:=by
 have old:∀p,p≠x->(S.wr x t fun u=> .cells u c).row p=S.row p:=fun p hp=>Jl _ _ _ hp;have hx:∀{i r},i≠5->rowOf (f i)=some r->r≠x:=fun{i r} hi hr e=>h.own.2 i 5 r hi hr (by rw[h.ex,e];rfl);have ks:∀{i:Nat} {z:Nat} {es:List (List V)},i≠5->SlF S1 S (f i) z es->SlF S1 (S.wr x t fun u=> .cells u c) (f i) z es:=fun hi hs=>hs.keep fun r hr=>old r (hx hi hr);have kr:∀{i:Nat} {p:Pt} {c':List V},i≠5->f i= .ptr p 0->(∃t,S.row p= .cells t c')->∃t',(S.wr x t fun u=> .cells u c).row p= .cells t' c':=fun hi hp ⟨t',e⟩=>⟨t',by rw[old _ (hx hi (by rw[hp];rfl)),e]⟩
 exact{h with gr:=h.gr.wr h.fo.1 (Jc ht) (by rw[ht];rfl) (Ja _),own:=⟨fun i r hr=>by
  by_cases e:r=x
  ·rw[e,Jm];exact fun e=>by cases e
  ·rw[old r e];exact h.own.1 i r hr,h.own.2⟩,ro:=kr (by decide) h.eo h.ro,rx:=⟨_,Jm _ _ _ _⟩,ry:=kr (by decide) h.ey h.ry,nx:=ks (by decide) h.nx,kx:=ks (by decide) h.kx,ny:=ks (by decide) h.ny,ky:=ks (by decide) h.ky,kids:=fun w i hi=>ks (by omega) (h.kids w i hi)}
theorem UI.wy (h:UI S1 wd o x y S f xs n ys m cx cy){t:Nat}(ht:S.row y= .cells t cy)(c:List V):UI S1 wd o x y (S.wr y t fun u=> .cells u c) f xs n ys m cx c:=by
 have old:∀p,p≠y->(S.wr y t fun u=> .cells u c).row p=S.row p:=fun p hp=>Jl _ _ _ hp;have hx:∀{i r},i≠6->rowOf (f i)=some r->r≠y:=fun{i r} hi hr e=>h.own.2 i 6 r hi hr (by rw[h.ey,e];rfl);have ks:∀{i:Nat} {z:Nat} {es:List (List V)},i≠6->SlF S1 S (f i) z es->SlF S1 (S.wr y t fun u=> .cells u c) (f i) z es:=fun hi hs=>hs.keep fun r hr=>old r (hx hi hr);have kr:∀{i:Nat} {p:Pt} {c':List V},i≠6->f i= .ptr p 0->(∃t,S.row p= .cells t c')->∃t',(S.wr y t fun u=> .cells u c).row p= .cells t' c':=fun hi hp ⟨t',e⟩=>⟨t',by rw[old _ (hx hi (by rw[hp];rfl)),e]⟩
 exact{h with gr:=h.gr.wr h.fo.2 (Jc ht) (by rw[ht];rfl) (Ja _),own:=⟨fun i r hr=>by
  by_cases e:r=y
  ·rw[e,Jm];exact fun e=>by cases e
  ·rw[old r e];exact h.own.1 i r hr,h.own.2⟩,ro:=kr (by decide) h.eo h.ro,rx:=kr (by decide) h.ex h.rx,ry:=⟨_,Jm _ _ _ _⟩,nx:=ks (by decide) h.nx,kx:=ks (by decide) h.kx,ny:=ks (by decide) h.ny,ky:=ks (by decide) h.ky,kids:=fun w i hi=>ks (by omega) (h.kids w i hi)}
end
section
variable {S1 S S' : St} {wd : Bool} {o x y : Pt} {f : Nat -> V} {xs ys : List Str} {n m : Nat} {cx cy : List V}
end
theorem JgB (fr:Fr)(p q:List Nat×List Nat):JZ fr [p,q]=(JZ fr [p]&&JZ fr [q]):=by simp only[JZ,List.all_cons,List.all_nil,Bool.and_true]
theorem Jce {fr:Fr}{p q:List Nat×List Nat}(h1:JZ fr [p]=true)(h2:JZ fr [q]=true):JZ fr [p,q]=true:=by rw[JgB,h1,h2];rfl
theorem UI.apart {S1 S:St}{wd:Bool}{o x y:Pt}{f:Nat->V}{xs ys:List Str}{n m:Nat}{cx cy:List V}(h:UI S1 wd o x y S f xs n ys m cx cy)(i j:Nat)(hij:i≠j){p:Pt}{k:Nat}(hj:f j= .ptr p k):rowOf (f i)≠some p:=fun e=>h.own.2 i j p hij e (by rw[hj];rfl)
inductive Rw where
 |mk (kind n:Int) (names:List Int) (kids:List Rw)
 deriving Inhabited
def Rw.kind :Rw->Int| .mk k _ _ _=>k
def Rw.n :Rw->Int| .mk _ n _ _=>n
def Rw.names :Rw->List Int| .mk _ _ l _=>l
def Rw.kids :Rw->List Rw| .mk _ _ _ l=>l
def In64 (z:Int):Prop:= -9223372036854775808<=z/\z<9223372036854775808
def qc (l:List Int):List (List V):=l.map fun z=>[V.int .i64 z]
theorem Qe (l:List Int):(qc l).length=l.length:=List.length_map _
inductive RwC (P:Pt->Prop) (st:St):List V->Rw->Prop
 | mk {k n:Int} {zs:List Int} {ks:List Rw} {nv kv:V} {es:List (List V)} (hk:In64 k) (hn:In64 n) (hz:∀z∈zs,In64 z) (h1:SlAt P st nv 1 (qc zs)) (h2:SlAt P st kv 4 es) (h3:es.length=ks.length) (hl:zs.length<2^63/\ks.length<2^63) (h4:∀i (h:i<es.length) (h':i<ks.length),RwC P st es[i] ks[i]):
   RwC P st [.int .i64 k, .int .i64 n,nv,kv] (.mk k n zs ks)
section
variable {P Q : Pt -> Prop} {st st' : St} {e : List V} {r : Rw}
theorem RwC.imp (h:RwC P st e r)(k:∀r,P r->st.row r≠ .none->Q r/\st'.row r=st.row r):RwC Q st' e r:=by
 induction h with
 |mk hk hn hz h1 h2 h3 hl h4 ih=>exact .mk hk hn hz (h1.imp k) (h2.imp k) h3 hl ih
theorem RwC.gr (h:RwC P st e r)(g:Gr st st'):RwC P st' e r:=h.imp fun r p e=>⟨p,g.same r e⟩
theorem RwC.inv (h:RwC P st e r):∃nv kv es,e=[.int .i64 r.kind, .int .i64 r.n,nv,kv]/\In64 r.kind/\In64 r.n/\(∀z∈r.names,In64 z)/\SlAt P st nv 1 (qc r.names)/\SlAt P st kv 4 es/\es.length=r.kids.length/\(r.names.length<2^63/\r.kids.length<2^63)/\∀i (h:i<es.length) (h':i<r.kids.length),RwC P st es[i] r.kids[i]:=by
 cases h with
 |mk hk hn hz h1 h2 h3 hl h4=>exact⟨_,_,_,rfl,hk,hn,hz,h1,h2,h3,hl,h4⟩
theorem RwC.len (h:RwC P st e r):e.length=4:=by cases h;rfl
end
def kidS (r:Rw)(i:Nat):Rw:=if r.kids.length=0 then .mk (IntKind.i64.wrap (r.n+i)) r.kind [] []else r.kids.getD (i%r.kids.length) default
def nms7 :List Str:=[[97],[98],[99],[110,97,109,101],[110],[73,110,116],[116,121,112,101]]
def JcU (z:Int):Str:=nms7.getD (z%7).toNat []
def JV (n:Str):List Str->Nat
 |[]=>0
 |a::r=>if Op.bytesLess a n=true then JV n r+1 else 0
theorem Jaq (n:Str):∀l,JV n l<=l.length
 |[]=>Nat.le_refl _
 | a::r=>by
   rw[JV];have:=Jaq n r
   split
   ·simp;omega
   ·omega
theorem Jcf (n:Str):∀(l:List Str) (i:Nat) (h:i<l.length),i<JV n l->Op.bytesLess l[i] n=true
 | a::r,i,h,hi=>by
   rw[JV]at hi
   split at hi
   ·cases i with
    |zero=>assumption
    |succ i=>exact Jcf n r i (by simpa using h) (by omega)
   ·omega
theorem JfN (n:Str):∀(l:List Str) (h:JV n l<l.length),Op.bytesLess l[JV n l] n=false
 |[],h=>absurd h (by simp)
 | a::r,h=>by
   by_cases c:Op.bytesLess a n=true
   ·have e:JV n (a::r)=JV n r+1:=by rw[JV,if_pos c]
    have:=JfN n r (by rw[e]at h;simpa using h);simp only[e,List.getElem_cons_succ];exact this
   ·have e:JV n (a::r)=0:=by rw[JV,if_neg c]
    simp only[e,List.getElem_cons_zero];simpa using c
def putS (t:Ty)(n:Str)(x:Ty):Ty:=
 if t.names[JV n t.names]? =some n then t else .mk t.kind t.name (t.names.take (JV n t.names)++n::t.names.drop (JV n t.names)) (t.kids.take (JV n t.names)++x::t.kids.drop (JV n t.names))
def nameAt (r:Rw)(i:Nat):Str:=match r.names[i]? with
 |some z=>JcU z
 |none=>[117]
def jH (nms:List Str)(deep:Nat)(r:Rw):Int:=if(1+r.kind%9=9/\nms=[])\/(deep<=1/\4<=1+r.kind%9/\1+r.kind%9<=8)then 2 else 1+r.kind%9
def JjD (k:Int)(r:Rw):Nat:=max (min r.names.length 4) (if k=8 then 1 else 0)
def JB (nms:List Str):Nat->Rw->Ty
 |0,r=> .mk (jH nms 0 r) [] [] []
 | d+1,r=>
   let k:=jH nms (d+1) r
   if k=9 then .mk 9 (nms.getD (r.n%nms.length).toNat []) [] []
   else if k=4\/k=5\/k=6 then(if k=6/\(JB nms d (kidS r 0)).kind=6 then JB nms d (kidS r 0)else .mk k [] [] [JB nms d (kidS r 0)])
   else if k=7\/k=8 then(List.range (JjD k r)).foldl (fun t i=>putS t (nameAt r i) (JB nms d (kidS r i))) (.mk k [] [] [])
   else .mk k [] [] []
theorem jh {S0 st:St}{v:V}{z:Nat}{es:List (List V)}{P:Pt->Prop}{vx:V}{xs:List (List V)}(hg:Gr S0 st)(h:SlF S0 st v z es)(hx:SlAt P st vx z xs)(hok:okC xs)(hn:xs.length<2^20)(hn2:es.length+xs.length<=2^24){R:V->St->Prop}
  (k:∀S' v',Gr S0 S'->SlF S0 S' v' z (es++xs)->(rowOf v'=rowOf v\/rowOf v'=some st.nx)->(∀p,st.row p≠ .none->rowOf v≠some p->S'.row p=st.row p)->R v' S'):wW (appV st z v vx) st R:=by
 by_cases h0:xs=[]
 ·subst h0;have happ:appV st z v vx=JE st z 0 [] v:=by
   unfold appV;rw[hx.slen];simp only[hx.all];rw[if_pos ⟨hn,hok.flat⟩];rfl
  have e1:JE st z 0 [] v=some (v, .no):=by
   have hs:(slen v).isSome=true:=by rw[h.at.slen];rfl
   unfold JE;rw[if_pos rfl,if_pos hs]
  rw[happ,e1];exact k st v hg (by rw[List.append_nil];exact h) (.inl rfl) fun _ _ _=>rfl
 ·exact Qw hg h hx hok h0 hn hn2 fun S' v' a b c d=>k S' v' a b (.inr c) d
theorem QK {S0 st:St}{v:V}{z:Nat}{es:List (List V)}(h:SlF S0 st v z es){b:Pt}(hb:S0.row b≠ .none):rowOf v≠some b:=fun e=>hb (h.row e).1
theorem Jsh (a:Int){n:Int}(h0:0<n):(¬a.tmod n<0/\a.tmod n=a%n)\/(a.tmod n<0/\a.tmod n+n=a%n):=by
 have e1:=Int.emod_nonneg a (show n≠0 by omega);have e2:=Int.emod_lt_of_pos a h0;have e3:=Int.tmod_eq_emod (a:=a) (b:=n);have e4:(n.natAbs:Int)=n:=by omega
 by_cases c:0<=a\/n∣a
 ·rw[if_pos c]at e3;left;omega
 ·rw[if_neg c]at e3;right;have:a%n≠0:=fun h=>c (.inr (Int.dvd_of_emod_eq_zero h));omega
theorem Jk6 {n:Nd}{r:List Nd}:∀{l:List Nd} {i j:Nat},idx n l i=some j->idx n (l++r) i=some j
 |[],i,j,h=>by cases h
 | a::l,i,j,h=>by
   rw[List.cons_append,idx];rw[idx]at h;by_cases c:n=a
   ·rw[if_pos c]at h⊢;exact h
   ·rw[if_neg c]at h⊢;exact Jk6 h
theorem JgC {n:Nd}:∀{l:List Nd} {i:Nat},idx n l i=none->idx n (l++[n]) i=some (i+l.length)
 |[],i,_=>by rw[List.nil_append,idx,if_pos rfl];rfl
 | a::l,i,h=>by
   rw[idx]at h;by_cases c:n=a
   ·rw[if_pos c]at h;cases h
   ·rw[if_neg c]at h;rw[List.cons_append,idx,if_neg c,JgC h,List.length_cons];congr 1;omega
theorem Jar {n:Nd}:∀{l:List Nd} {i j:Nat},idx n l i=some j->i<=j/\l[j-i]? =some n
 |[],i,j,h=>by cases h
 | a::l,i,j,h=>by
   rw[idx]at h;by_cases c:n=a
   ·rw[if_pos c]at h;injection h with h;subst h;exact⟨Nat.le_refl _,by rw[Nat.sub_self,c];rfl⟩
   ·rw[if_neg c]at h;obtain⟨h1,h2⟩:=Jar h;refine⟨by omega, ?_⟩;have:j-i=(j-(i+1))+1:=by omega
    rw[this,List.getElem?_cons_succ];exact h2
mutual
def Ki (nodes:List Nd):Ty->Option Nat
 | .mk k n ns ks=>match JS nodes ks with
   |none=>none
   |some ids=>idx ⟨k,n,ns,ids⟩ nodes 0
def JS (nodes:List Nd):List Ty->Option (List Nat)
 |[]=>some []
 | t::r=>match Ki nodes t,JS nodes r with
   |some i,some l=>some (i::l)
   |_,_=>none
end
mutual
def YZ :Ty->Nat
 | .mk _ _ _ ks=>Ys ks+1
def Ys :List Ty->Nat
 |[]=>0
 |t::r=>YZ t+Ys r
end
mutual
theorem QT {l r:List Nd}:∀(t:Ty) {i:Nat},Ki l t=some i->Ki (l++r) t=some i
 | .mk k n ns ks,i,h=>by
   rw[Ki]at h⊢
   cases c:JS l ks with
   |none=>rw[c]at h;cases h
   | some ids=>
     rw[c]at h;rw[kz ks c];exact Jk6 h
theorem kz {l r:List Nd}:∀(ts:List Ty) {ids:List Nat},JS l ts=some ids->JS (l++r) ts=some ids
 |[],ids,h=>by rw[JS]at h⊢;exact h
 | t::ts,ids,h=>by
   rw[JS]at h⊢
   cases c:Ki l t with
   |none=>rw[c]at h;cases h
   | some i=>
     cases c2:JS l ts with
     |none=>rw[c,c2]at h;cases h
     | some is=>
       rw[c,c2]at h;rw[QT t c,kz ts c2];exact h
end
theorem Jk7 {tb:Tb}{n:Nd}(h:(layS tb n).2.2=0):∃r,(layS tb n).1={tb with nodes:=tb.nodes++r}/\idx n (layS tb n).1.nodes 0=some (layS tb n).2.1/\r.length<=1:=by
 unfold layS at h⊢
 cases c:idx n tb.nodes 0 with
 |some i=>exact⟨[],by simp,by simpa using c,by simp⟩
 | none=>
   rw[c]at h;by_cases c2:120<=tb.nodes.length
   ·rw[if_pos c2]at h;cases h
   ·simp only[if_neg c2];refine⟨[n],rfl, ?_,by simp⟩;have:=JgC c;rw[Nat.zero_add]at this;exact this
mutual
theorem QL :∀(t:Ty) {left:Int} {tb:Tb},(addT t left tb).2.2.1=0->∃r,(addT t left tb).1={tb with nodes:=tb.nodes++r}/\Ki (addT t left tb).1.nodes t=some (addT t left tb).2.1/\(addT t left tb).2.2.2=left-YZ t
 | .mk k n ns ks,left,tb,h=>by
   rw[K0]at h⊢;by_cases c:left-1<0\/8<ks.length\/8<ns.length
   ·rw[if_pos c]at h;cases h
   rw[if_neg c]at h⊢;have ih:=qP ks (left:=left-1) (tb:=tb);generalize Jw ks (left-1) tb=x at h ih⊢;obtain⟨tb1,ids,e,l1⟩:=x;simp only at h ih⊢;by_cases he:e=0
   ·subst he;obtain⟨r,a1,a2,a3⟩:=ih rfl;simp only[ne_eq,not_true_eq_false,if_false]at h⊢;obtain⟨r2,b1,b2,b3⟩:=Jk7 h;refine⟨r++r2,by rw[b1,a1];simp, ?_,by rw[a3,YZ];push_cast;omega⟩;rw[Ki,b1];simp only;rw[kz ks a2];rw[b1]at b2;exact b2
   ·rw[if_pos he]at h;exact absurd h he
theorem qP :∀(ts:List Ty) {left:Int} {tb:Tb},(Jw ts left tb).2.2.1=0->∃r,(Jw ts left tb).1={tb with nodes:=tb.nodes++r}/\JS (Jw ts left tb).1.nodes ts=some (Jw ts left tb).2.1/\(Jw ts left tb).2.2.2=left-Ys ts
 | [],left,tb,h=>by
   rw[KJ];exact⟨[],by simp,by rw[JS],by simp[Ys]⟩
 | t::ts,left,tb,h=>by
   rw[Ku]at h⊢;have i1:=QL t (left:=left) (tb:=tb);generalize addT t left tb=x at h i1⊢;obtain⟨tb1,i,e,l1⟩:=x;simp only at h i1⊢;by_cases he:e=0
   ·subst he;obtain⟨r,a1,a2,a3⟩:=i1 rfl;simp only[ne_eq,not_true_eq_false,if_false]at h⊢;have i2:=qP ts (left:=l1) (tb:=tb1);generalize Jw ts l1 tb1=y at h i2⊢;obtain⟨tb2,is,e2,l2⟩:=y;simp only at h i2⊢;obtain⟨r2,b1,b2,b3⟩:=i2 h;refine⟨r++r2,by rw[b1,a1];simp, ?_,by rw[b3,a3,Ys];push_cast;omega⟩;rw[JS,b2];have:Ki tb2.nodes t=some i:=by rw[b1];exact QT t a2
    rw[this]
   ·rw[if_pos he]at h;exact absurd h he
end
mutual
theorem JjE :∀(t:Ty) {left l0:Int} {tb tb0:Tb} {i:Nat},(addT t l0 tb0).2.2.1=0->Ki tb.nodes t=some i->(YZ t:Int)<=left->addT t left tb=(tb,i,0,left-YZ t)
 | .mk k n ns ks,left,l0,tb,tb0,i,h0,h,hl=>by
   rw[K0]at h0⊢;by_cases c:l0-1<0\/8<ks.length\/8<ns.length
   ·rw[if_pos c]at h0;cases h0
   rw[if_neg c]at h0;rw[YZ]at hl⊢;rw[if_neg (by push_cast at hl;omega)];rw[Ki]at h
   cases c2:JS tb.nodes ks with
   |none=>rw[c2]at h;cases h
   | some ids=>
     rw[c2]at h;simp only at h;have hk:(Jw ks (l0-1) tb0).2.2.1=0:=by
      generalize Jw ks (l0-1) tb0=x at h0⊢;obtain⟨tb1,ids',e,l1⟩:=x;simp only at h0⊢;by_cases he:e=0
      ·exact he
      ·rw[if_pos he]at h0;exact absurd h0 he
     rw[JcV ks hk c2 (by push_cast at hl;omega)];simp only[ne_eq,not_true_eq_false,if_false];unfold layS;rw[h];simp only;congr 3
     push_cast;omega
theorem JcV :∀(ts:List Ty) {left l0:Int} {tb tb0:Tb} {is:List Nat},(Jw ts l0 tb0).2.2.1=0->JS tb.nodes ts=some is->(Ys ts:Int)<=left->Jw ts left tb=(tb,is,0,left-Ys ts)
 | [],left,l0,tb,tb0,is,_,h,hl=>by
   rw[JS]at h;injection h with h;rw[KJ,<-h];simp[Ys]
 | t::ts,left,l0,tb,tb0,is,h0,h,hl=>by
   rw[Ku]at h0⊢;rw[Ys]at hl⊢;rw[JS]at h
   cases c:Ki tb.nodes t with
   |none=>rw[c]at h;cases h
   | some i=>
     cases c2:JS tb.nodes ts with
     |none=>rw[c,c2]at h;cases h
     | some l=>
       rw[c,c2]at h;injection h with h;have k1:(addT t l0 tb0).2.2.1=0/\(Jw ts (addT t l0 tb0).2.2.2 (addT t l0 tb0).1).2.2.1=0:=by
        generalize addT t l0 tb0=x at h0⊢;obtain⟨tb1,i',e,l1⟩:=x;simp only at h0⊢;by_cases he:e=0
        ·subst he;simp only[ne_eq,not_true_eq_false,if_false]at h0;exact⟨rfl,h0⟩
        ·rw[if_pos he]at h0;exact absurd h0 he
       rw[JjE t k1.1 c (by push_cast at hl;omega)];simp only[ne_eq,not_true_eq_false,if_false];rw[JcV ts k1.2 c2 (by push_cast at hl;omega),<-h];simp only;congr 3
       push_cast;omega
end
theorem JnV (tb:Tb)(n:Nd):(layS tb n).2.2=0\/(layS tb n).2.2=20:=by
 unfold layS
 split
 ·exact .inl rfl
 ·split
  ·exact .inr rfl
  ·exact .inl rfl
mutual
theorem Jen :∀(t:Ty) (left:Int) (tb:Tb),(addT t left tb).2.2.1=0\/(addT t left tb).2.2.1=20
 | .mk k n ns ks,left,tb=>by
   rw[K0]
   split
   ·exact .inr rfl
   ·have ih:=JfO ks (left-1) tb;generalize Jw ks (left-1) tb=x at ih⊢;obtain⟨tb1,ids,e,l1⟩:=x;simp only at ih⊢;by_cases he:e=0
    ·rw[if_neg (fun k=>k he)];exact JnV _ _
    ·rw[if_pos he];exact ih
theorem JfO :∀(ts:List Ty) (left:Int) (tb:Tb),(Jw ts left tb).2.2.1=0\/(Jw ts left tb).2.2.1=20
 |[],left,tb=>by rw[KJ];exact .inl rfl
 | t::ts,left,tb=>by
   rw[Ku];have i1:=Jen t left tb;generalize addT t left tb=x at i1⊢;obtain⟨tb1,i,e,l1⟩:=x;simp only at i1⊢;by_cases he:e=0
   ·rw[if_neg (fun k=>k he)];have i2:=JfO ts l1 tb1;generalize Jw ts l1 tb1=y at i2⊢;obtain⟨tb2,is,e2,l2⟩:=y;exact i2
   ·rw[if_pos he];exact i1
end
def Acy (tb:Tb):Prop:=∀(i:Nat) (nd:Nd),tb.nodes[i]? =some nd->nd.kind≠9/\∀k∈nd.kids,k<i
def Sim (u:Nat)(V W:Was):Prop:=∀q:Nat×Nat,q.2<u->(q∈V<->q∈W)
def ResS (u:Nat)(o1 o2:Option (Bool×Was)):Prop:=(o1=none/\o2=none)\/∃x V W,o1=some (x,V)/\o2=some (x,W)/\Sim u V W
theorem kP {l:List Nat}{i:Nat}(h:i<l.length):l.getD i 0∈l:=by
 rw[List.getD_eq_getElem?_getD,List.getElem?_eq_getElem h];exact List.getElem_mem h
theorem JbM (x y:Nd)(first:Bool):∀(l:List Str) (i:Nat) (q:Nat×Nat),some q∈byP x y first l i->if first=true then q.2∈y.kids else q.2∈x.kids
 |[],i,q,h=>by cases h
 | n::r,i,q,h=>by
   rw[byP]at h;rcases List.mem_cons.1 h with h|h
   ·unfold JnH at h
    split at h
    ·cases h
    ·rename_i j _
     split at h
     ·rename_i c
      injection h with h
      cases first with
      |true=>simp only[if_true]at h⊢;rw[h];exact kP c.2
      | false=>
        simp only[Bool.false_eq_true,if_false]at h⊢;rw[h];exact kP c.1
     ·cases h
   ·exact JbM x y first r (i+1) q h
theorem Jcg (y:Nd):∀(l:List Nat) (i:Nat) (q:Nat×Nat),some q∈Jem y l i->q.2∈y.kids
 |[],i,q,h=>by cases h
 | a::r,i,q,h=>by
   rw[Jem]at h;rcases List.mem_cons.1 h with h|h
   ·split at h
    ·rename_i c;injection h with h;rw[h];exact kP c
    ·cases h
   ·exact Jcg y r (i+1) q h
theorem JnW {tb:Tb}(hT:Acy tb){a b:Nat}{l:List (Option (Nat×Nat))}(h:plan tb a b=some l)(q:Nat×Nat)(hq:some q∈l):q.2<b:=by
 unfold plan at h
 split at h
 ·rename_i c
  have hb:=Jib c.2;have hlb:b<tb.nodes.length:=by
   rcases Nat.lt_or_ge b tb.nodes.length with k|k
   ·exact k
   ·rw[YK k]at c;cases c.2
  have hnb:=hT b tb.nodes[b] (List.getElem?_eq_getElem hlb);have eb:Kh tb (tb.nodes.length+1) b=(b,true):=Qm hlb hnb.1;rw[eb]at h;have gb:tb.nodes.getD b Jjy=tb.nodes[b]:=by simp[List.getD_eq_getElem?_getD,hlb]
  simp only[gb]at h;refine hnb.2 q.2 ?_;unfold JfM at h
  split at h
  ·rename_i c2
   injection h with h;rw[<-h]at hq;have hq:some q=some _:=List.mem_singleton.1 hq;injection hq with hq;rw[hq];exact kP (by omega)
  ·split at h
   ·cases h
   ·split at h
    ·injection h with h;rw[<-h]at hq;have:=JbM _ _ true _ _ q hq;simpa using this
    ·split at h
     ·injection h with h;rw[<-h]at hq;have:=JbM _ _ false _ _ q hq;simpa using this
     ·injection h with h;rw[<-h]at hq;exact Jcg _ _ _ q hq
 ·cases h
theorem Jid {u:Nat}{f:Was->Nat->Nat->Option (Bool×Was)}(hf:∀V W a b,Sim u V W->b<u->ResS u (f V a b) (f W a b)):∀(l:List (Option (Nat×Nat))) (V W:Was),(∀q,some q∈l->q.2<u)->Sim u V W->ResS u (jG f l V) (jG f l W)
 |[],V,W,_,h=> .inr ⟨true,V,W,rfl,rfl,h⟩
 |none::r,V,W,_,h=> .inr ⟨false,V,W,rfl,rfl,h⟩
 | some p::r,V,W,hl,h=>by
   have k:=hf V W p.1 p.2 h (hl p List.mem_cons_self);rw[jG,jG];rcases k with⟨k1,k2⟩|⟨x,V',W',k1,k2,k3⟩
   ·rw[k1,k2];exact .inl ⟨rfl,rfl⟩
   ·rw[k1,k2]
    cases x with
    |false=>exact .inr ⟨false,V',W',rfl,rfl,k3⟩
    |true=>exact Jid hf r V' W' (fun q hq=>hl q (List.mem_cons_of_mem _ hq)) k3
theorem Jk8 {u:Nat}{V W:Was}(h:Sim u V W)(q:Nat×Nat):Sim u (V++[q]) (W++[q]):=fun p hp=>by
 simp only[List.mem_append,List.mem_singleton,h p hp]
theorem Jie {tb:Tb}(hT:Acy tb){u:Nat}:∀(f:Nat) (V W:Was) (a b:Nat),Sim u V W->b<u->ResS u (Yr tb f V a b) (Yr tb f W a b)
 |0,V,W,a,b,_,_=> .inl ⟨rfl,rfl⟩
 | f+1,V,W,a,b,h,hb=>by
   rw[Yr,Yr];by_cases c:a=b\/(a,b)∈V
   ·have c':a=b\/(a,b)∈W:=c.imp id (h (a,b) hb).1;rw[if_pos c,if_pos c'];exact .inr ⟨true,V,W,rfl,rfl,h⟩
   ·have c':¬(a=b\/(a,b)∈W):=fun k=>c (k.imp id (h (a,b) hb).2);rw[if_neg c,if_neg c']
    cases hp:plan tb a b with
    |none=>exact .inr ⟨false,_,_,rfl,rfl,Jk8 h _⟩
    |some l=>exact Jid (Jie hT f) l _ _ (fun q hq=>Nat.lt_trans (JnW hT hp q hq) hb) (Jk8 h _)
mutual
def jq :Ty->Bool
 | .mk k _ _ ks=>decide (k≠9)&&ji ks
def ji :List Ty->Bool
 |[]=>true
 |t::r=>jq t&&ji r
end
theorem Jk9 {tb:Tb}{n:Nd}(h:Acy tb)(hk:n.kind≠9)(hn:∀k∈n.kids,k<tb.nodes.length):Acy (layS tb n).1:=by
 unfold layS
 split
 ·exact h
 ·split
  ·exact h
  ·intro i nd hi;have hi:(tb.nodes++[n])[i]? =some nd:=hi;rcases Nat.lt_or_ge i tb.nodes.length with c|c
   ·rw[List.getElem?_append_left c]at hi;exact h i nd hi
   ·rw[List.getElem?_append_right c]at hi;have e:i-tb.nodes.length=0:=by
     have:=(List.getElem?_eq_some_iff.1 hi).1;simpa using this
    rw[e]at hi;injection hi with hi;rw[<-hi];exact⟨hk,fun k hk=>Nat.lt_of_lt_of_le (hn k hk) c⟩
theorem Jrk {tb:Tb}{n:Nd}(h:(layS tb n).2.2=0):(layS tb n).2.1<(layS tb n).1.nodes.length:=by
 obtain⟨r,_,h2,_⟩:=Jk7 h;have:=(Jar h2).2;rw[Nat.sub_zero]at this;exact(List.getElem?_eq_some_iff.1 this).1
mutual
theorem Jif :∀(t:Ty) {left:Int} {tb:Tb},jq t=true->Acy tb->Acy (addT t left tb).1/\((addT t left tb).2.2.1=0->(addT t left tb).2.1<(addT t left tb).1.nodes.length)
 | .mk k n ns ks,left,tb,hn,h=>by
   rw[jq,Bool.and_eq_true,decide_eq_true_eq]at hn;rw[K0];by_cases c:left-1<0\/8<ks.length\/8<ns.length
   ·rw[if_pos c];exact⟨h,fun e=>by cases e⟩
   rw[if_neg c];have ih:=JfP ks (left:=left-1) (tb:=tb) hn.2 h;generalize Jw ks (left-1) tb=x at ih⊢;obtain⟨tb1,ids,e,l1⟩:=x;simp only at ih⊢;by_cases he:e=0
   ·subst he;simp only[ne_eq,not_true_eq_false,if_false];exact⟨Jk9 ih.1 hn.1 (ih.2 rfl),fun e=>Jrk e⟩
   ·rw[if_pos he];exact⟨ih.1,fun e=>absurd e he⟩
theorem JfP :∀(ts:List Ty) {left:Int} {tb:Tb},ji ts=true->Acy tb->Acy (Jw ts left tb).1/\((Jw ts left tb).2.2.1=0->∀i∈(Jw ts left tb).2.1,i<(Jw ts left tb).1.nodes.length)
 |[],left,tb,hn,h=>by rw[KJ];exact⟨h,fun _ i hi=>by cases hi⟩
 | t::ts,left,tb,hn,h=>by
   rw[ji,Bool.and_eq_true]at hn;rw[Ku];have i1:=Jif t (left:=left) (tb:=tb) hn.1 h;generalize addT t left tb=x at i1⊢;obtain⟨tb1,i,e,l1⟩:=x;simp only at i1⊢;by_cases he:e=0
   ·subst he;simp only[ne_eq,not_true_eq_false,if_false];have i2:=JfP ts (left:=l1) (tb:=tb1) hn.2 i1.1;have i3:=qP ts (left:=l1) (tb:=tb1);generalize Jw ts l1 tb1=y at i2 i3⊢;obtain⟨tb2,is,e2,l2⟩:=y;simp only at i2 i3⊢;refine⟨i2.1,fun e q hq=> ?_⟩;rcases List.mem_cons.1 hq with rfl|hq
    ·obtain⟨r,b1,_⟩:=i3 e;have:=i1.2 rfl;rw[b1];simp only[List.length_append];omega
    ·exact i2.2 e q hq
   ·rw[if_pos he];exact⟨i1.1,fun e=>absurd e he⟩
end
theorem JlR {tb:Tb}(hT:Acy tb){k:Int}(hk:k=4\/k=5){p u i j:Nat}(hp:tb.nodes[p]? =some ⟨k,[],[],[i]⟩)(hu:tb.nodes[u]? =some ⟨k,[],[],[j]⟩){f:Nat}{x:Bool}{V:Was}(h:Yr tb f [] i j=some (x,V)):∃W,Yr tb (f+1) [] p u=some (x,W):=by
 have lp:=(List.getElem?_eq_some_iff.1 hp).1;have lu:=(List.getElem?_eq_some_iff.1 hu).1;have hj:j<u:=(hT u _ hu).2 j (by simp);by_cases e:p=u
 ·subst e;rw[hp]at hu;injection hu with hu;injection hu with _ _ _ hu;injection hu with hu;subst hu;rw[Jic]
  cases f with
  |zero=>cases h
  | succ f=>
    rw[Jic]at h;injection h with h;injection h with h;exact⟨[],by rw[<-h]⟩
 ·have o1:Kh tb (tb.nodes.length+1) p=(p,true):=Qm lp (by rw[(List.getElem?_eq_some_iff.1 hp).2];rcases hk with rfl|rfl<;>simp);have o2:Kh tb (tb.nodes.length+1) u=(u,true):=Qm lu (by rw[(List.getElem?_eq_some_iff.1 hu).2];rcases hk with rfl|rfl<;>simp);have hplan:plan tb p u=some [some (i,j)]:=by
   unfold plan;rw[o1,o2];simp only[and_self,if_true,List.getD_eq_getElem?_getD,hp,hu,Option.getD_some];rcases hk with rfl|rfl<;>simp[JfM,Jem]
  rw[Yr,if_neg (by simp;exact e),hplan];have s:Sim u [] ([]++[(p,u)]):=fun q hq=>by
   simp only[List.nil_append,List.mem_singleton];exact⟨fun h=>absurd h (by simp),fun h=>by rw[h]at hq;exact absurd hq (Nat.lt_irrefl _)⟩
  rcases Jie hT f [] ([]++[(p,u)]) i j s hj with⟨k1,_⟩|⟨x',V',W',k1,k2,_⟩
  ·rw[h]at k1;cases k1
  ·rw[h]at k1;injection k1 with k1;injection k1 with k1 _;show∃W,jG (Yr tb f) [some (i,j)] ([]++[(p,u)])=some (x,W);rw[jG];show∃W,(match Yr tb f ([]++[(p,u)]) i j with|none=>none|some (false,was)=>some (false,was)|some (true,was)=>jG (Yr tb f) [] was)=some (x,W);rw[k2,<-k1]
   cases x with
   |false=>exact⟨_,rfl⟩
   |true=>exact⟨_,rfl⟩
theorem JfQ {tb:Tb}(hT:Acy tb){i:Nat}{n:Nd}(h:tb.nodes[i]? =some n):Kh tb (tb.nodes.length+1) i=(i,true):=by
 have l:=(List.getElem?_eq_some_iff.1 h)
 exact Qm l.1 (by rw[l.2];exact(hT i n h).1)
theorem Jch {tb:Tb}(hT:Acy tb){a b:Nat}{x y:Nd}(ha:tb.nodes[a]? =some x)(hb:tb.nodes[b]? =some y):plan tb a b=JfM a x y:=by
 unfold plan;rw[JfQ hT ha,JfQ hT hb];simp only[and_self,if_true,List.getD_eq_getElem?_getD,ha,hb,Option.getD_some]
theorem JgD (x y:Nd)(first:Bool):∀(l:List Str) (i:Nat) (q:Nat×Nat),some q∈byP x y first l i->if first=true then q.1∈x.kids else q.1∈y.kids
 |[],i,q,h=>by cases h
 | n::r,i,q,h=>by
   rw[byP]at h;rcases List.mem_cons.1 h with h|h
   ·unfold JnH at h
    split at h
    ·cases h
    ·rename_i j _
     split at h
     ·rename_i c
      injection h with h
      cases first with
      |true=>simp only[if_true]at h⊢;rw[h];exact kP c.1
      | false=>
        simp only[Bool.false_eq_true,if_false]at h⊢;rw[h];exact kP c.2
     ·cases h
   ·exact JgD x y first r (i+1) q h
theorem JfR (y:Nd):∀(l:List Nat) (i:Nat) (q:Nat×Nat),some q∈Jem y l i->q.1∈l
 |[],i,q,h=>by cases h
 | a::r,i,q,h=>by
   rw[Jem]at h;rcases List.mem_cons.1 h with h|h
   ·split at h
    ·injection h with h;rw[h];exact List.mem_cons_self
    ·cases h
   ·exact List.mem_cons_of_mem _ (JfR y r (i+1) q h)
theorem JlS {a:Nat}{x y:Nd}{l:List (Option (Nat×Nat))}(h:JfM a x y=some l)(q:Nat×Nat)(hq:some q∈l):(q.1=a\/q.1∈x.kids)/\q.2∈y.kids:=by
 unfold JfM at h
 split at h
 ·rename_i c2
  injection h with h;rw[<-h]at hq;have hq:some q=some _:=List.mem_singleton.1 hq;injection hq with hq;rw[hq];exact⟨.inl rfl,kP (by omega)⟩
 ·split at h
  ·cases h
  ·split at h
   ·injection h with h;rw[<-h]at hq;have h1:=JgD _ _ true _ _ q hq;have h2:=JbM _ _ true _ _ q hq;simp only[if_true]at h1 h2;exact⟨.inr h1,h2⟩
   ·split at h
    ·injection h with h;rw[<-h]at hq;have h1:=JgD _ _ false _ _ q hq;have h2:=JbM _ _ false _ _ q hq;simp only[Bool.false_eq_true,if_false]at h1 h2;exact⟨.inr h1,h2⟩
    ·injection h with h;rw[<-h]at hq;exact⟨.inr (JfR _ _ _ q hq),Jcg _ _ _ q hq⟩
theorem Jla {f g:Was->Nat->Nat->Option (Bool×Was)}:∀(l:List (Option (Nat×Nat))) (W:Was),(∀q,some q∈l->∀W,f W q.1 q.2=g W q.1 q.2)->jG f l W=jG g l W
 |[],W,_=>rfl
 |none::r,W,_=>rfl
 | some p::r,W,h=>by
   rw[jG,jG,h p List.mem_cons_self W];have ih:=fun W=>Jla r W fun q hq=>h q (List.mem_cons_of_mem _ hq)
   cases g W p.1 p.2 with
   |none=>rfl
   | some x=>
     obtain⟨b,V⟩:=x
     cases b with
     |false=>rfl
     |true=>exact ih V
theorem Jig {tb tb':Tb}(hT:Acy tb)(hT':Acy tb')(hp:∀(i:Nat) (n:Nd),tb.nodes[i]? =some n->tb'.nodes[i]? =some n):∀(f:Nat) (W:Was) (a b:Nat),a<tb.nodes.length->b<tb.nodes.length->Yr tb' f W a b=Yr tb f W a b
 |0,W,a,b,_,_=>rfl
 | f+1,W,a,b,ha,hb=>by
   have ea:=List.getElem?_eq_getElem ha;have eb:=List.getElem?_eq_getElem hb;have e:plan tb' a b=plan tb a b:=by rw[Jch hT ea eb,Jch hT' (hp a _ ea) (hp b _ eb)]
   rw[Yr,Yr,e]
   split
   ·rfl
   ·cases hl:plan tb a b with
    |none=>rfl
    | some l=>
      refine Jla l _ fun q hq W=> ?_;rw[Jch hT ea eb]at hl;obtain⟨k1,k2⟩:=JlS hl q hq;refine Jig hT hT' hp f W q.1 q.2 ?_ (Nat.lt_trans ((hT b _ eb).2 _ k2) hb);rcases k1 with k1|k1
      ·rw[k1];exact ha
      ·exact Nat.lt_trans ((hT a _ ea).2 _ k1) ha
def TabX (S:St)(W:Pt->Prop)(rt:Pt)(tb:Tb):Prop:=WF S/\∃F,Tab W F S rt tb
def Kept (S:St)(W:Pt->Prop)(S':St)(W':Pt->Prop):Prop:=∀r,S.row r≠ .none->¬W r->S'.row r=S.row r/\¬W' r
section
variable {S S' S'' : St} {W W' W'' : Pt -> Prop} {rt : Pt} {tb : Tb}
theorem Kept.refl (S:St)(W:Pt->Prop):Kept S W S W:=fun r _ h=>⟨rfl,h⟩
theorem Kept.trans (h:Kept S W S' W')(k:Kept S' W' S'' W''):Kept S W S'' W'':=fun r e n=>by
 obtain⟨h1,h2⟩:=h r e n;obtain⟨k1,k2⟩:=k r (by rw[h1];exact e) h2;exact⟨by rw[k1,h1],k2⟩
theorem Kept.gr (g:Gr S S')(W:Pt->Prop):Kept S W S' W:=fun r e n=>⟨g.same r e,n⟩
theorem Kept.ch (c:Ch W S S')(h:∀r,W' r->W r\/S.row r= .none):Kept S W S' W':=fun r e n=>⟨c.same r e n,fun w=>by rcases h r w with w|w;exact n w;exact e w⟩
theorem Kept.row (h:Kept S W S' W'){p:Pt}{t:Nat}{l:List V}(e:S.row p= .cells t l)(n:¬W p):S'.row p= .cells t l:=by rw[(h p (by rw[e];exact fun k=>by cases k) n).1,e]
theorem Kept.out (h:Kept S W S' W'){p:Pt}(e:S.row p≠ .none)(n:¬W p):¬W' p:=(h p e n).2
theorem Kept.ty (h:Kept S W S' W'){e:List V}{t:Ty}(k:TyC (fun r=>¬W r) S e t):TyC (fun r=>¬W' r) S' e t:=k.imp fun r n e=>⟨(h r e n).2,(h r e n).1⟩
theorem Kept.sl (h:Kept S W S' W'){v:V}{z:Nat}{es:List (List V)}(k:SlAt (fun r=>¬W r) S v z es):SlAt (fun r=>¬W' r) S' v z es:=k.imp fun r n e=>⟨(h r e n).2,(h r e n).1⟩
theorem TabX.gr (h:TabX S W rt tb)(g:Gr S S'):TabX S' W rt tb:=by
 obtain⟨_,F,h⟩:=h;exact⟨g.wf,F,h.gr g⟩
theorem TabX.own (h:TabX S W rt tb){r:Pt}(e:S.row r= .none):¬W r:=by
 obtain⟨_,F,_,_,_,_,_,_,h⟩:=h;exact fun w=>h.own r w e
theorem TyC.new (h:TabX S W rt tb){P:Pt->Prop}(hP:∀r,P r->¬W r){e:List V}{t:Ty}(k:TyC P S e t):TyC (fun r=>¬W r) S e t:=k.imp fun r p _=>⟨hP r p,rfl⟩
end
theorem Yb {nodes:List Nd}{t:Ty}{i:Nat}(h:Ki nodes t=some i):∃ids,nodes[i]? =some ⟨t.kind,t.name,t.names,ids⟩/\JS nodes t.kids=some ids:=by
 obtain⟨k,n,ns,ks⟩:=t;rw[Ki]at h
 cases c:JS nodes ks with
 |none=>rw[c]at h;cases h
 | some ids=>
   rw[c]at h;have:=(Jar h).2;rw[Nat.sub_zero]at this;exact⟨ids,this,c⟩
theorem JfS {nodes:List Nd}{k:Int}{X:Ty}{p i:Nat}(h:Ki nodes (.mk k [] [] [X])=some p)(hx:Ki nodes X=some i):nodes[p]? =some ⟨k,[],[],[i]⟩:=by
 obtain⟨ids,h1,h2⟩:=Yb h;rw[show(Ty.mk k [] [] [X]).kids=[X]from rfl,JS,hx,JS]at h2;injection h2 with h2;rw[h1,<-h2];rfl
theorem JlT (t:Ty)(left:Int)(tb:Tb):∃r,(addT t left tb).1={tb with nodes:=tb.nodes++r}:=addT_pre t left tb
where
 addT_pre:∀(t:Ty) (left:Int) (tb:Tb),∃r,(addT t left tb).1={tb with nodes:=tb.nodes++r}
  | .mk k n ns ks,left,tb=>by
    rw[K0]
    split
    ·exact⟨[],by simp⟩
    ·obtain⟨r,hr⟩:=addTs_pre ks (left-1) tb;generalize Jw ks (left-1) tb=x at hr⊢;obtain⟨tb1,ids,e,l1⟩:=x;simp only at hr⊢;by_cases he:e=0
     ·rw[if_neg (fun k=>k he)];simp only;unfold layS
      split
      ·exact⟨r,hr⟩
      ·split
       ·exact⟨r,hr⟩
       ·exact⟨r++[⟨k,n,ns,ids⟩],by rw[hr];simp⟩
     ·rw[if_pos he];exact⟨r,hr⟩
 addTs_pre:∀(ts:List Ty) (left:Int) (tb:Tb),∃r,(Jw ts left tb).1={tb with nodes:=tb.nodes++r}
  |[],left,tb=>⟨[],by rw[KJ];simp⟩
  | t::ts,left,tb=>by
    rw[Ku];obtain⟨r,hr⟩:=addT_pre t left tb;generalize addT t left tb=x at hr⊢;obtain⟨tb1,i,e,l1⟩:=x;simp only at hr⊢;by_cases he:e=0
    ·rw[if_neg (fun k=>k he)];obtain⟨r2,hr2⟩:=addTs_pre ts l1 tb1;generalize Jw ts l1 tb1=y at hr2⊢;obtain⟨tb2,is,e2,l2⟩:=y;simp only at hr2⊢;exact⟨r++r2,by rw[hr2,hr];simp⟩
    ·rw[if_pos he];exact⟨r,hr⟩
structure jI (tb:Tb) (X Y:Ty) (i j:Nat) (is:Bool):Prop where
 acy:Acy tb
 x:Ki tb.nodes X=some i
 y:Ki tb.nodes Y=some j
 fits:∃f W,Yr tb f [] i j=some (is,W)
theorem jI.lt {tb:Tb}{X Y:Ty}{i j:Nat}{is:Bool}(h:jI tb X Y i j is):i<tb.nodes.length/\j<tb.nodes.length:=by
 obtain⟨_,h1,_⟩:=Yb h.x;obtain⟨_,h2,_⟩:=Yb h.y;exact⟨(List.getElem?_eq_some_iff.1 h1).1,(List.getElem?_eq_some_iff.1 h2).1⟩
theorem jI.ext {tb tb':Tb}{X Y:Ty}{i j:Nat}{is:Bool}(h:jI tb X Y i j is)(ha:Acy tb')(hr:∃r,tb'.nodes=tb.nodes++r):jI tb' X Y i j is:=by
 obtain⟨r,hr⟩:=hr;obtain⟨l1,l2⟩:=h.lt;obtain⟨f,W,hf⟩:=h.fits;refine⟨ha,by rw[hr];exact QT X h.x,by rw[hr];exact QT Y h.y,f,W, ?_⟩;rw[Jig h.acy ha (fun i n e=>by rw[hr,List.getElem?_append_left (List.getElem?_eq_some_iff.1 e).1];exact e) f [] i j l1 l2];exact hf
theorem jI.add {tb:Tb}{X Y Z:Ty}{i j:Nat}{is:Bool}(h:jI tb X Y i j is)(hz:jq Z=true)(left:Int):jI (addT Z left tb).1 X Y i j is:=by
 obtain⟨r,hr⟩:=JlT Z left tb;exact h.ext (Jif Z hz h.acy).1 ⟨r,by rw[hr]⟩
theorem jI.wrap {tb:Tb}{X Y:Ty}{i j:Nat}{is:Bool}(h:jI tb X Y i j is)(nX:jq X=true)(nY:jq Y=true){k:Int}(hk:k=4\/k=5)(hg:(addT (.mk k [] [] [X]) 400 tb).2.2.1=0)(hh:(addT (.mk k [] [] [Y]) 400 (addT (.mk k [] [] [X]) 400 tb).1).2.2.1=0):
  ∃f W,Yr (addT (.mk k [] [] [Y]) 400 (addT (.mk k [] [] [X]) 400 tb).1).1 f [] (addT (.mk k [] [] [X]) 400 tb).2.1 (addT (.mk k [] [] [Y]) 400 (addT (.mk k [] [] [X]) 400 tb).1).2.1=some (is,W):=by
 have n1:jq (.mk k [] [] [X])=true:=by rw[jq,ji,ji,nX];rcases hk with rfl|rfl<;>rfl
 have n2:jq (.mk k [] [] [Y])=true:=by rw[jq,ji,ji,nY];rcases hk with rfl|rfl<;>rfl
 have h2:=(h.add n1 400).add n2 400;obtain⟨r1,a1,a2,_⟩:=QL _ hg;obtain⟨r2,b1,b2,_⟩:=QL _ hh;generalize addT (.mk k [] [] [X]) 400 tb=A at*;generalize addT (.mk k [] [] [Y]) 400 A.1=B at*;have e1:=JfS (by rw[b1];exact QT _ a2) h2.x;have e2:=JfS b2 h2.y;obtain⟨f,W,hf⟩:=h2.fits;obtain⟨V,hV⟩:=JlR h2.acy hk e1 e2 hf;exact⟨_,V,hV⟩
theorem JlU (tb:Tb)(n:Nd):∃r,(layS tb n).1={tb with nodes:=tb.nodes++r}:=by
 unfold layS
 split
 ·exact⟨[],by simp⟩
 ·split
  ·exact⟨[],by simp⟩
  ·exact⟨[n],rfl⟩
theorem jI.lay {tb:Tb}{X Y:Ty}{i j:Nat}{is:Bool}(h:jI tb X Y i j is):jI (layS tb ⟨6,[],[],[j]⟩).1 X Y i j is:=by
 obtain⟨r,hr⟩:=JlU tb ⟨6,[],[],[j]⟩;exact h.ext (Jk9 h.acy (show(6:Int)≠9 by decide) fun k hk=>by rw[List.mem_singleton.1 hk];exact h.lt.2) ⟨r,by rw[hr]⟩
def TysF (P:Pt->Prop)(S0 st:St)(v:V)(ts:List Ty):Prop:=∃es,SlF S0 st v 4 es/\es.length=ts.length/\∀i (h:i<es.length) (h':i<ts.length),TyC P S0 es[i] ts[i]
section
variable {P : Pt -> Prop} {S0 st st' : St} {v : V} {ts : List Ty}
theorem TysF.nil (P:Pt->Prop)(S0 st:St):TysF P S0 st .snil []:=⟨[],SlF.nil _ _ _,rfl,fun i h=>absurd h (by simp)⟩
theorem TysF.gr (h:TysF P S0 st v ts)(g:Gr st st'):TysF P S0 st' v ts:=by
 obtain⟨es,h1,h2,h3⟩:=h;exact⟨es,h1.gr g,h2,h3⟩
theorem TysF.keep (h:TysF P S0 st v ts)(k:∀r,rowOf v=some r->st'.row r=st.row r):TysF P S0 st' v ts:=by
 obtain⟨es,h1,h2,h3⟩:=h;exact⟨es,h1.keep k,h2,h3⟩
theorem TysF.lst (h:TysF P S0 st v ts)(g:Gr S0 st){Q:Pt->Prop}(hQ:∀r,P r->Q r)(hN:∀r,S0.row r= .none->Q r):LstAt (TyC Q st) Q st v 4 ts:=by
 obtain⟨es,h1,h2,h3⟩:=h;exact⟨es,h1.at.imp fun r p _=>⟨hN r p,rfl⟩,h2,fun i a b=>(h3 i a b).imp fun r p e=>⟨hQ r p,g.same r e⟩⟩
theorem TysF.row (h:TysF P S0 st v ts){r:Pt}(hr:rowOf v=some r):S0.row r= .none:=by
 obtain⟨es,h1,_⟩:=h;exact(h1.row hr).1
theorem TysF.alive (h:TysF P S0 st v ts){r:Pt}(hr:rowOf v=some r):st.row r≠ .none:=by
 obtain⟨es,h1,_⟩:=h;obtain⟨_,t,e⟩:=h1.row hr;rw[e];exact fun e=>by cases e
theorem kg (hg:Gr S0 st)(h:TysF P S0 st v ts){Px:Pt->Prop}{vx:V}{xs:List (List V)}{ts':List Ty}(hx:SlAt Px st vx 4 xs)(hlen:xs.length=ts'.length)(hty:∀i (h:i<xs.length) (h':i<ts'.length),TyC P S0 xs[i] ts'[i])(hn:ts'.length<2^20)(hn2:ts.length+ts'.length<=2^24){R:V->St->Prop}
  (k:∀S' v',Gr S0 S'->TysF P S0 S' v' (ts++ts')->(rowOf v'=rowOf v\/rowOf v'=some st.nx)->(∀p,st.row p≠ .none->rowOf v≠some p->S'.row p=st.row p)->R v' S'):wW (appV st 4 v vx) st R:=by
 obtain⟨es,h1,h2,h3⟩:=h;have hok:okC xs:=fun e he=>by
  obtain⟨j,hj,rfl⟩:=List.mem_iff_getElem.1 he;exact(hty j hj (by omega)).ok
 refine jh hg h1 hx hok (by omega) (by omega) fun S' v' g s r kp=>k S' v' g ⟨es++xs,s,by simp;omega,fun i a b=> ?_⟩ r kp;by_cases hi:i<es.length
 ·rw[List.getElem_append_left hi,List.getElem_append_left (by omega)];exact h3 i hi (by omega)
 ·have hl:(es++xs).length=es.length+xs.length:=List.length_append;have hj:i-es.length<xs.length:=by omega
  rw[List.getElem_append_right (by omega),List.getElem_append_right (by omega)];have:=hty (i-es.length) hj (by omega);have e:∀a b (ha:a<ts'.length) (hb:b<ts'.length),a=b->ts'[a]=ts'[b]:=by intro a b _ _ e;subst e;rfl
  rw[e (i-ts.length) (i-es.length) (by omega) (by omega) (by omega)];exact this
theorem Ja8 {st:St}{p:Pt}(hn:st.nx=p){e:List V}(h4:e.length=4):SlAt (fun r=>r=p) (st.new fun t=> .cells t e) (.slx p 0 1 4 1) 4 [e]:=by
 have:=Qd (st:=st) (z:=4) h4
 rwa [hn]at this
end
theorem kQ :∀{a b c:List UInt8},Op.bytesLess a b=true->Op.bytesLess b c=true->Op.bytesLess a c=true
 |_,[],_,h,_=>by simp[Op.bytesLess]at h
 |_,_::_,[],_,h=>by simp[Op.bytesLess]at h
 |[],_::_,_::_,_,_=>by simp[Op.bytesLess]
 | a::x,b::y,c::z,h,k=>by
   simp only[Op.bytesLess,Bool.or_eq_true,Bool.and_eq_true,decide_eq_true_eq,beq_iff_eq]at h k⊢;rcases h with h|⟨rfl,h⟩
   ·rcases k with k|⟨rfl,k⟩
    ·exact .inl (UInt8.lt_trans h k)
    ·exact .inl h
   ·rcases k with k|⟨rfl,k⟩
    ·exact .inl k
    ·exact .inr ⟨rfl,kQ h k⟩
theorem qQ :∀a:List UInt8,Op.bytesLess a a=false
 |[]=>rfl
 | a::x=>by
   simp only[Op.bytesLess,qQ x,Bool.and_false,Bool.or_false,decide_eq_false_iff_not];exact UInt8.lt_irrefl a
theorem JaP :∀(p:Option Str) (l:List Str),Kd p l=0->l.Pairwise (fun a b=>Op.bytesLess a b=true)/\∀a∈l,∀q,p=some q->Op.bytesLess q a=true
 |p,[],_=>⟨List.Pairwise.nil,fun a h=>by cases h⟩
 | p,n::r,h=>by
   rw[Kd]at h
   split at h
   ·cases h
   split at h
   ·cases h
   rename_i _ h2
   obtain⟨i1,i2⟩:=JaP (some n) r h;have hp:∀q,p=some q->Op.bytesLess q n=true:=fun q hq=>by
    rw[hq]at h2;simpa[Ka]using h2
   refine⟨List.pairwise_cons.2 ⟨fun a ha=>i2 a ha n rfl,i1⟩,fun a ha q hq=> ?_⟩;rcases List.mem_cons.1 ha with rfl|ha
   ·exact hp q hq
   ·exact kQ (hp q hq) (i2 a ha n rfl)
theorem qd {l:List Str}(h:Kd none l=0):l.Nodup:=
 (JaP none l h).1.imp fun{a b} h e=>by rw[e,qQ]at h;cases h
theorem Y0 (has:Str->Bool)(p:Option Str)(f:Sg)(r:List Sg)(met:Nat):KN has p (f::r) met=if(!Kb f.name||Qq f.name)=true then(15,met)else if Ka p f.name=true then(6,met)else if 4<f.params.length then(18,met)else
  if(Jq has (f.params++[f.result]) 1 met).1≠0 then Jq has (f.params++[f.result]) 1 met else KN has (some f.name) r (Jq has (f.params++[f.result]) 1 met).2:=by rw[KN]
theorem JbN (has:Str->Bool):∀(p:Option Str) (fs:List Sg) (met:Nat),met<=400->(KN has p fs met).1=0->(∀f∈fs,f.params.length<=4)/\(∀f∈fs,kN (f.params++[f.result])<=400)/\(KN has p fs met).2<=400
 |p,[],met,hm,h=>by rw[KN];exact⟨fun f h=>(by cases h),fun f h=>(by cases h),hm⟩
 | p,f::r,met,hm,h=>by
   rw[Y0]at h⊢
   split at h
   ·cases h
   rename_i c1
   split at h
   ·cases h
   rename_i c2
   split at h
   ·cases h
   rename_i c3
   split at h
   ·rename_i c4;exact absurd h c4
   rename_i c4
   have c4':(Jq has (f.params++[f.result]) 1 met).1=0:=by simpa using c4
   rw[if_neg c1,if_neg c2,if_neg c3,if_neg c4];have m1:=(QJ has (f.params++[f.result]) 1 met hm).2 c4';have m2:=ku has (f.params++[f.result]) 1 met c4';obtain⟨i1,i2,i3⟩:=JbN has (some f.name) r _ m1 h;refine⟨fun g hg=> ?_,fun g hg=> ?_,i3⟩
   ·rcases List.mem_cons.1 hg with rfl|hg
    ·omega
    ·exact i1 g hg
   ·rcases List.mem_cons.1 hg with rfl|hg
    ·omega
    ·exact i2 g hg
def KU (l:List Sg):List Ty:=(l.map fun f=>f.params++[f.result]).flatten
theorem JfT (s:Sch):Qj s=s.types.map Prod.snd++[s.main]++KU s.sigs:=rfl
theorem Jdm :∀{ts:List Ty} {t:Ty},t∈ts->cntT t<=kN ts:=fun{ts t} h=>by
 obtain⟨i,hi,rfl⟩:=List.mem_iff_getElem.1 h;exact jf hi
theorem Jas (s:Sch):Qv s=
  if 12<s.types.length\/12<s.sigs.length then 3 else
  if Kd none (s.types.map Prod.fst)≠0 then Kd none (s.types.map Prod.fst)else
  if(Jq (hasN s.types) (s.types.map Prod.snd) 1 0).1≠0 then(Jq (hasN s.types) (s.types.map Prod.snd) 1 0).1 else
  if(mayS (hasN s.types) s.main 1 (Jq (hasN s.types) (s.types.map Prod.snd) 1 0).2).1≠0 then(mayS (hasN s.types) s.main 1 (Jq (hasN s.types) (s.types.map Prod.snd) 1 0).2).1 else
  if(KN (hasN s.types) none s.sigs (mayS (hasN s.types) s.main 1 (Jq (hasN s.types) (s.types.map Prod.snd) 1 0).2).2).1≠0 then(KN (hasN s.types) none s.sigs (mayS (hasN s.types) s.main 1 (Jq (hasN s.types) (s.types.map Prod.snd) 1 0).2).2).1 else
  if s.types.any (fun p=> !finS s.types p.2)then 14 else
  if Y4 s.types (Qj s)then 17 else 0:=rfl
theorem jJ {s:Sch}(h:Qv s=0):s.types.length<=12/\s.sigs.length<=12/\Kd none (s.types.map Prod.fst)=0/\(Jq (hasN s.types) (s.types.map Prod.snd) 1 0).1=0/\(mayS (hasN s.types) s.main 1 (Jq (hasN s.types) (s.types.map Prod.snd) 1 0).2).1=0/\(∀f∈s.sigs,f.params.length<=4):=by
 rw[Jas]at h
 split at h
 ·cases h
 rename_i c1
 split at h
 ·rename_i c;exact absurd h c
 rename_i c2
 split at h
 ·rename_i c;exact absurd h c
 rename_i c3
 split at h
 ·rename_i c;exact absurd h c
 rename_i c4
 split at h
 ·rename_i c;exact absurd h c
 rename_i c5
 have c3:(Jq (hasN s.types) (s.types.map Prod.snd) 1 0).1=0:=by simpa using c3
 have c4:(mayS (hasN s.types) s.main 1 (Jq (hasN s.types) (s.types.map Prod.snd) 1 0).2).1=0:=by simpa using c4
 have m1:=(QJ (hasN s.types) (s.types.map Prod.snd) 1 0 (by decide)).2 c3;have m2:=(K7 (hasN s.types) s.main 1 _ m1).2 c4;have:=JbN (hasN s.types) none s.sigs _ m2 (by simpa using c5);exact⟨by omega,by omega,by simpa using c2,c3,c4,this.1⟩
theorem Jih (n:Str)(id:Nat):∀l:List (Str×Nat),Qy n (V.int .i64 (id:Int)) (l.map fun p=>(p.1,V.int .i64 (p.2:Int)))=(setI n id l).map fun p=>(p.1,V.int .i64 (p.2:Int))
 |[]=>rfl
 | (a,c)::r=>by
   have ih:=Jih n id r;rw[List.map_cons,Qy,setI];by_cases e:n=a
   ·rw[if_pos e,if_pos e];rfl
   ·rw[if_neg e,if_neg e,ih];rfl
theorem Jlb {R:V->List Nat->Prop}(n:Str){v:V}{ids:List Nat}(hv:R v ids):∀{sv:List (Str×V)} {sg:List (Str×List Nat)},sv.length=sg.length->(∀i (h:i<sv.length) (h':i<sg.length),sv[i].1=sg[i].1/\R sv[i].2 sg[i].2)->
  (Qy n v sv).length=(setI n ids sg).length/\∀i (h:i<(Qy n v sv).length) (h':i<(setI n ids sg).length),(Qy n v sv)[i].1=(setI n ids sg)[i].1/\R (Qy n v sv)[i].2 (setI n ids sg)[i].2
 | [],[],_,_=>by
   rw[Qy,setI];refine⟨rfl,fun i h h'=> ?_⟩;have:i=0:=by simpa using h
   subst this;exact⟨rfl,hv⟩
 |[],_::_,h,_=>by simp at h
 |_::_,[],h,_=>by simp at h
 | (a,w)::r,(b,x)::r',h,k=>by
   have k0:=k 0 (by simp) (by simp);simp only[List.getElem_cons_zero]at k0;obtain⟨rfl,k0⟩:=k0;obtain⟨i1,i2⟩:=Jlb n hv (sv:=r) (sg:=r') (by simpa using h) fun i h1 h2=>by
    have:=k (i+1) (by simpa using h1) (by simpa using h2);simpa using this
   rw[Qy,setI];by_cases e:n=a
   ·rw[if_pos e,if_pos e];refine⟨by simpa using h,fun i h1 h2=> ?_⟩
    cases i with
    |zero=>exact⟨rfl,hv⟩
    |succ i=>have:=k (i+1) (by simpa using h1) (by simpa using h2);simpa using this
   ·rw[if_neg e,if_neg e];refine⟨by simp[i1],fun i h1 h2=> ?_⟩
    cases i with
    |zero=>exact⟨rfl,k0⟩
    |succ i=>have:=i2 i (by simpa using h1) (by simpa using h2);simpa using this
section
variable {S : St} {W : Pt -> Prop} {rt : Pt} {tb : Tb}
theorem Kept.wr {t:Nat}{f:Nat->Row}{p:Pt}(hp:W p):Kept S W (S.wr p t f) W:=fun r e n=>⟨Jl _ _ _ fun h=>n (by rw[h];exact hp),n⟩
theorem TabX.setMain (h:TabX S W rt tb)(id:Nat):∃t lv a b c,S.row rt= .cells t [lv, .map a, .map b, .int .i64 tb.main, .map c]/\TabX (S.wr rt t fun u=> .cells u [lv, .map a, .map b, .int .i64 id, .map c]) W rt {tb with main:=id}/\Kept S W (S.wr rt t fun u=> .cells u [lv, .map a, .map b, .int .i64 id, .map c]) W:=by
 obtain⟨hw,F,h⟩:=h;obtain⟨t,l,e,_,hT⟩:=Tab.setMain h id;obtain⟨lv,ra,rn,rs,es,sv,h⟩:=h;obtain⟨t',c⟩:=h.cell;rw[e]at c;injection c with c1 c2;subst c1;subst c2;refine⟨t,lv,ra,rn,rs,e,⟨?_,F,hT⟩,Kept.wr h.w.1⟩;exact((Ch.refl W hw).wr (p:=rt) (t:=t) (f:=fun u=> .cells u [lv, .map ra, .map rn, .int .i64 id, .map rs]) (Jc e) (by rw[e];rfl) (.inl h.w.1) (Ja _)).wf
theorem TabX.setNamed (h:TabX S W rt tb)(n:Str)(id:Nat):∃t lv a b c,S.row rt= .cells t [lv, .map a, .map b, .int .i64 tb.main, .map c]/\∃tm ms,(∀S':St,S'.row b=S.row b->JbA S' (.one .s) (.map b) (ofL n) (.int .i64 id)=some (JR, .wr b tm fun u=> .mob u ms))/\TabX (S.wr b tm fun u=> .mob u ms) W rt {tb with named:=setI n id tb.named}/\Kept S W (S.wr b tm fun u=> .mob u ms) W:=by
 obtain⟨hw,F,lv,ra,rn,rs,es,sv,h⟩:=h;obtain⟨t,c⟩:=h.cell;obtain⟨tm,hm⟩:=h.named;have hup:=fun(S':St) (hS:S'.row rn=S.row rn)=>jd (enc:=ofL) (e:= .one .s) (hS.trans hm) n (.int .i64 (id:Int)) (YQ n _) rfl;rw[Jih]at hup;have old:∀r,r≠rn->(S.wr rn tm fun u=> .mob u (((setI n id tb.named).map fun p=>(p.1,V.int .i64 (p.2:Int))).map fun p=>(ofL p.1,p.2))).row r=S.row r:=fun r e=>Jl _ _ _ e;have rtn:rt≠rn:=fun e=>by rw[e,hm]at c;cases c
 refine⟨t,lv,ra,rn,rs,c,tm,_,hup,⟨?_,F,lv,ra,rn,rs,es,sv,{h with cell:=⟨t,by rw[old rt rtn];exact c⟩,own:=fun r w=> ?_,l:= ?_,nd:=fun i a b=>(h.nd i a b).imp fun r p e=>⟨p,old r fun k=>h.fw r p (by rw[k];exact h.w.2.2.1)⟩,key:=h.key.of (old ra h.dis.1),named:=⟨_,Jm _ _ _ _⟩,sigs:=h.sigs.of (old rs fun e=>h.dis.2.2 e.symm),sig:=fun i a b=>⟨(h.sig i a b).1,(h.sig i a b).2.imp fun r p e=>⟨p,old r fun k=>h.fw r p (by rw[k];exact h.w.2.2.1)⟩⟩}⟩,Kept.wr h.w.2.2.1⟩
 ·exact((Ch.refl W hw).wr (p:=rn) (t:=tm) (by rw[hm];exact fun e=>by cases e) (by rw[hm];rfl) (.inl h.w.2.2.1) (K1 _)).wf
 ·by_cases e:r=rn
  ·rw[e,Jm];exact fun e=>by cases e
  ·rw[old r e];exact h.own r w
 ·exact h.l.imp fun r t _ n e=>old r fun k=>by rw[k,hm]at e;cases e
theorem TabX.setSigs (h:TabX S W rt tb)(n:Str){v:V}{ids:List Nat}(hv:SlAt (fun r=>¬W r) S v 1 (ints ids)):∃t lv a b c,S.row rt= .cells t [lv, .map a, .map b, .int .i64 tb.main, .map c]/\∃tm ms,(∀S':St,S'.row c=S.row c->JbA S' (.one .s) (.map c) (ofL n) v=some (JR, .wr c tm fun u=> .mob u ms))/\TabX (S.wr c tm fun u=> .mob u ms) W rt {tb with sigs:=setI n ids tb.sigs}/\Kept S W (S.wr c tm fun u=> .mob u ms) W:=by
 obtain⟨hw,F,lv,ra,rn,rs,es,sv,h⟩:=h;obtain⟨t,c⟩:=h.cell;obtain⟨tm,hm⟩:=h.sigs;have hup:=fun(S':St) (hS:S'.row rs=S.row rs)=>jd (enc:=ofL) (e:= .one .s) (hS.trans hm) n v (YQ n _) rfl;have old:∀r,r≠rs->(S.wr rs tm fun u=> .mob u ((Qy n v sv).map fun p=>(ofL p.1,p.2))).row r=S.row r:=fun r e=>Jl _ _ _ e;have rtn:rt≠rs:=fun e=>by rw[e,hm]at c;cases c
 have hF:∀r,(F r\/¬W r)->¬W r:=fun r p=>by rcases p with p|p;exact h.fw r p;exact p
 have oldF:∀r,(F r\/¬W r)->(S.wr rs tm fun u=> .mob u ((Qy n v sv).map fun p=>(ofL p.1,p.2))).row r=S.row r:=fun r p=>old r fun k=>hF r p (by rw[k];exact h.w.2.2.2);obtain⟨s3,s4⟩:=Jlb (R:=fun x ids=>SlAt (fun r=>F r\/¬W r) (S.wr rs tm fun u=> .mob u ((Qy n v sv).map fun p=>(ofL p.1,p.2))) x 1 (ints ids)) n (v:=v) (ids:=ids) (hv.imp fun r p e=>⟨.inr p,oldF r (.inr p)⟩) h.slen fun i a b=>⟨(h.sig i a b).1,(h.sig i a b).2.imp fun r p e=>⟨.inl p,oldF r (.inl p)⟩⟩
 refine⟨t,lv,ra,rn,rs,c,tm,_,hup,⟨?_,fun r=>F r\/¬W r,lv,ra,rn,rs,es,Qy n v sv,{h with cell:=⟨t,by rw[old rt rtn];exact c⟩,own:=fun r w=> ?_,fw:=hF,l:= ?_,nd:=fun i a b=>(h.nd i a b).imp fun r p e=>⟨.inl p,oldF r (.inl p)⟩,key:=h.key.of (old ra h.dis.2.1),named:=h.named.of (old rn h.dis.2.2),sigs:=⟨_,Jm _ _ _ _⟩,slen:=s3,sig:=s4}⟩,Kept.wr h.w.2.2.2⟩
 ·exact((Ch.refl W hw).wr (p:=rs) (t:=tm) (by rw[hm];exact fun e=>by cases e) (by rw[hm];rfl) (.inl h.w.2.2.2) (K1 _)).wf
 ·by_cases e:r=rs
  ·rw[e,Jm];exact fun e=>by cases e
  ·rw[old r e];exact h.own r w
 ·exact h.l.imp fun r t _ n e=>old r fun k=>by rw[k,hm]at e;cases e
end
theorem JnX {st:St}{r q:Pt}{t t' i c:Nat}{l:List V}{x:V}(hr:st.row r= .cells t l)(hl:l.length=c)(hq:st.row q= .cells t' [x])(hx:x.sc=true)(hi:i+1<=c)(hc:c<=2^24):
  appV st 1 (.slx r 0 i 1 c) (.slx q 0 1 1 1)=some (.slx r 0 (i+1) 1 c, .wr r t fun u=> .cells u (JI l i [x])):=by
 have h1:JL st 1 1 (.slx q 0 1 1 1)=some [x]:=by
  simp only[JL,KG,hq];simp
 unfold appV;simp only[slen,h1];rw[if_pos ⟨by decide,by simp[Km,hx]⟩];unfold JE;rw[if_neg (by decide)];simp only[hr];rw[if_neg (by omega),if_pos (by omega),if_pos (by omega),if_pos (by omega)];simp
theorem JlV {st:St}{c:Nat}(hc:c<2^20):Jp6 st 1 [.int .i64 0] (.int .i64 0) (.int .i64 (c:Int))=some (.slx st.nx 0 0 1 c, .new fun t=> .cells t (List.replicate c (.int .i64 0))):=by
 have e:(List.replicate c [V.int .i64 0]).flatten=List.replicate c (.int .i64 0):=by
  induction c with
  |zero=>rfl
  |succ c ih=>rw[List.replicate_succ,List.flatten_cons,ih (by omega),List.replicate_succ];rfl
 have h0:KE (.int .i64 (c:Int))=some c:=by simp[KE]
 have h1:KE (V.int .i64 0)=some 0:=rfl;show evOp (fun _=> .snil) st (.mksl 1 [.int .i64 0] (.c (.int .i64 0)) (.c (.int .i64 (c:Int))))=_;simp only[evOp,Opd.ev,h0,h1];rw[if_pos ⟨Nat.zero_le _,hc,rfl⟩,e]
def NewX (st:St)(v:V)(S:St)(r:Option Tb×Int):Prop:=match r.1 with
 |none=>v= .tup [.pnil, .int .i64 r.2]
 |some tb=>∃rt W,v= .tup [.ptr rt 0, .int .i64 0]/\TabX S W rt tb/\Kept st (fun _=>False) S W
theorem JbO (n:Str)(t:Ty)(r:List (Str×Ty))(tb:Tb):Jr ((n,t)::r) tb=if(addT t 400 tb).2.2.1≠0 then((addT t 400 tb).1,(addT t 400 tb).2.2.1)else Jr r {(addT t 400 tb).1 with named:=setI n (addT t 400 tb).2.1 (addT t 400 tb).1.named}:=by rw[Jr]
theorem JbP (t:Ty)(r:List Ty)(tb:Tb):Jx (t::r) tb=if(addT t 400 tb).2.2.1≠0 then((addT t 400 tb).1,[],(addT t 400 tb).2.2.1)else((Jx r (addT t 400 tb).1).1,(addT t 400 tb).2.1::(Jx r (addT t 400 tb).1).2.1,(Jx r (addT t 400 tb).1).2.2):=by rw[Jx]
theorem JbQ (f:Sg)(r:List Sg)(tb:Tb):Kl (f::r) tb=if(Jx (f.params++[f.result]) tb).2.2≠0 then((Jx (f.params++[f.result]) tb).1,(Jx (f.params++[f.result]) tb).2.2)else Kl r {(Jx (f.params++[f.result]) tb).1 with sigs:=setI f.name (Jx (f.params++[f.result]) tb).2.1 (Jx (f.params++[f.result]) tb).1.sigs}:=by rw[Kl]
theorem JbR (s:Sch):newS s=if Qv s≠0 then(none,Qv s)else
  if(Jr s.types JC).2≠0 then(none,(Jr s.types JC).2)else
  if(addT s.main 400 (Jr s.types JC).1).2.2.1≠0 then(none,(addT s.main 400 (Jr s.types JC).1).2.2.1)else
  if(Kl s.sigs {(addT s.main 400 (Jr s.types JC).1).1 with main:=(addT s.main 400 (Jr s.types JC).1).2.1}).2≠0 then(none,(Kl s.sigs {(addT s.main 400 (Jr s.types JC).1).1 with main:=(addT s.main 400 (Jr s.types JC).1).2.1}).2)else
  (some (Kl s.sigs {(addT s.main 400 (Jr s.types JC).1).1 with main:=(addT s.main 400 (Jr s.types JC).1).2.1}).1,0):=rfl
theorem JcW {P:Pt->Prop}{st S:St}{v:V}{l:List (Str×Ty)}(h:LstAt (NmC P st) P st v 5 l)(hS:∀r,st.row r≠ .none->S.row r=st.row r){i:Nat}(hi:i<l.length):
  ∃r q nv kv,JJ 5 v (.int .i64 i)=some (.ptr r q, .no)/\S.row r≠ .none/\ldn (S.row r) q 5=some (.agg [ofL l[i].1, .int .i64 l[i].2.kind,ofL l[i].2.name,nv,kv], .no)/\TyC P st [.int .i64 l[i].2.kind,ofL l[i].2.name,nv,kv] l[i].2/\(nv.cells=some [nv]/\nv.sc=true/\kv.cells=some [kv]/\kv.sc=true):=by
 obtain⟨r,q,e,a1,a2,a3,a4,⟨c,he,hc⟩,a6,a7⟩:=h.elem hi;have hc0:=hc;obtain⟨nv1,kv1,es1,rfl,y1,y2,y3,y4⟩:=hc.inv;subst he;rw[<-hS r a3]at a4;exact⟨r,q,nv1,kv1,a1,by rw[hS r a3];exact a3,a4,hc0,y1.cells,y1.sc,y2.cells,y2.sc⟩
theorem Jii {P:Pt->Prop}{st S:St}{v:V}{l:List Sg}(h:LstAt (SgC P st) P st v 6 l)(hS:∀r,st.row r≠ .none->S.row r=st.row r){i:Nat}(hi:i<l.length):
  ∃r q pv nv kv,JJ 6 v (.int .i64 i)=some (.ptr r q, .no)/\S.row r≠ .none/\ldn (S.row r) q 6=some (.agg [ofL l[i].name,pv, .int .i64 l[i].result.kind,ofL l[i].result.name,nv,kv], .no)/\Jfs P st pv l[i].params/\TyC P st [.int .i64 l[i].result.kind,ofL l[i].result.name,nv,kv] l[i].result/\(pv.cells=some [pv]/\pv.sc=true)/\(nv.cells=some [nv]/\nv.sc=true/\kv.cells=some [kv]/\kv.sc=true):=by
 obtain⟨r,q,e,a1,a2,a3,a4,⟨pv,c,he,hp,hc⟩,a6,a7⟩:=h.elem hi;have hc0:=hc;have hp0:=hp;obtain⟨ep,p1,p2,p3⟩:=hp;obtain⟨nv1,kv1,es1,rfl,y1,y2,y3,y4⟩:=hc.inv;subst he;rw[<-hS r a3]at a4;exact⟨r,q,pv,nv1,kv1,a1,by rw[hS r a3];exact a3,a4,hp0,hc0,⟨p1.cells,p1.sc⟩,y1.cells,y1.sc,y2.cells,y2.sc⟩
def TabZ (S:St)(W Z:Pt->Prop)(rt:Pt)(tb:Tb):Prop:=WF S/\∃F,Tab W F S rt tb/\∀r,F r->¬Z r
theorem TabZ.x {S:St}{W Z:Pt->Prop}{rt:Pt}{tb:Tb}(h:TabZ S W Z rt tb):TabX S W rt tb:=by
 obtain⟨hw,F,h,_⟩:=h;exact⟨hw,F,h⟩
theorem TabX.z {S S':St}{W:Pt->Prop}{rt:Pt}{tb:Tb}(h:TabX S W rt tb)(g:Gr S S'){p:Pt}(hp:S.row p= .none):TabZ S' W (fun r=>r=p) rt tb:=by
 obtain⟨hw,F,h⟩:=h;exact⟨g.wf,_,h.live.gr g,fun r f e=>f.2 (by rw[e];exact hp)⟩
theorem TabZ.gr {S S':St}{W Z:Pt->Prop}{rt:Pt}{tb:Tb}(h:TabZ S W Z rt tb)(g:Gr S S'):TabZ S' W Z rt tb:=by
 obtain⟨hw,F,h,k⟩:=h;exact⟨g.wf,F,h.gr g,k⟩
theorem TabZ.wr {S:St}{W Z:Pt->Prop}{rt:Pt}{tb:Tb}(h:TabZ S W Z rt tb){p:Pt}{t:Nat}{f:Nat->Row}(hp:Z p)(hn:¬W p)(he:S.row p≠ .none)(ht:(S.row p).time=t)(hf:∀u,(f u).time=u/\f u≠ .none):TabZ (S.wr p t f) W Z rt tb:=by
 obtain⟨hw,F,h,k⟩:=h;refine⟨((Ch.refl (fun r=>r=p) hw).wr he ht (.inl rfl) hf).wf,F,h.keep fun r w _=>Jl _ _ _ fun e=> ?_,k⟩;rcases w with w|w
 ·exact hn (by rw[<-e];exact w)
 ·exact k r w (by rw[e];exact hp)
theorem Kept.plus {S S':St}{W W':Pt->Prop}(h:Kept S W S' W')(Z:Pt->Prop):Kept S (fun r=>W r\/Z r) S' (fun r=>W' r\/Z r):=fun r e n=>by
 obtain⟨a,b⟩:=h r e fun w=>n (.inl w);exact⟨a,fun w=>by rcases w with w|w;exact b w;exact n (.inr w)⟩
mutual
def Qn (has:Str->Bool):Ty->Bool
 | .mk k n _ ks=>(decide (k≠9)||has n)&&KV has ks
def KV (has:Str->Bool):List Ty->Bool
 |[]=>true
 |t::r=>Qn has t&&KV has r
end
mutual
theorem Jci (has:Str->Bool):∀(t:Ty) (deep met:Nat),(mayS has t deep met).1=0->Qn has t=true
 | .mk k n ns ks,deep,met,h=>by
   rw[Jap]at h
   split at h
   ·cases h
   split at h
   ·cases h
   split at h
   ·cases h
   split at h
   ·cases h
   split at h
   ·cases h
   rename_i c
   split at h
   ·rename_i c;exact absurd h c
   rw[Qn,Bool.and_eq_true,kR has ks _ _ h];refine⟨?_,rfl⟩;by_cases k9:k=9
   ·cases hn:has n with
    |true=>simp
    |false=>exact absurd ⟨k9,hn⟩ c
   ·simp[k9]
theorem kR (has:Str->Bool):∀(ts:List Ty) (deep met:Nat),(Jq has ts deep met).1=0->KV has ts=true
 |[],_,_,_=>by rw[KV]
 | t::r,deep,met,h=>by
   rw[JT]at h
   split at h
   ·rename_i c;exact absurd h c
   rename_i c
   rw[KV,Jci has t deep met (by simpa using c),kR has r _ _ h];rfl
end
theorem qe {has:Str->Bool}:∀{ts:List Ty},KV has ts=true->∀t∈ts,Qn has t=true
 |[],_,t,h=>by cases h
 | a::r,hs,t,h=>by
   rw[KV,Bool.and_eq_true]at hs;rcases List.mem_cons.1 h with rfl|h
   ·exact hs.1
   ·exact qe hs.2 t h
theorem Jeo (has:Str->Bool):∀(p:Option Str) (fs:List Sg) (met:Nat),(KN has p fs met).1=0->(∀f∈fs,KV has (f.params++[f.result])=true)/\(fs.map Sg.name).Pairwise (fun a b=>Op.bytesLess a b=true)/\∀f∈fs,∀q,p=some q->Op.bytesLess q f.name=true
 |p,[],met,_=>⟨fun f h=>(by cases h),List.Pairwise.nil,fun f h=>(by cases h)⟩
 | p,f::r,met,h=>by
   rw[Y0]at h
   split at h
   ·cases h
   split at h
   ·cases h
   rename_i h2
   split at h
   ·cases h
   split at h
   ·rename_i c;exact absurd h c
   rename_i c
   obtain⟨i1,i2,i3⟩:=Jeo has _ r _ h;have hp:∀q,p=some q->Op.bytesLess q f.name=true:=fun q hq=>by
    rw[hq]at h2;simpa[Ka]using h2
   refine⟨fun g hg=> ?_, ?_,fun g hg q hq=> ?_⟩
   ·rcases List.mem_cons.1 hg with rfl|hg
    ·exact kR has _ 1 met (by simpa using c)
    ·exact i1 g hg
   ·rw[List.map_cons,List.pairwise_cons];refine⟨fun a ha=> ?_,i2⟩;obtain⟨g,hg,rfl⟩:=List.mem_map.1 ha;exact i3 g hg _ rfl
   ·rcases List.mem_cons.1 hg with rfl|hg
    ·exact hp q hq
    ·exact kQ (hp q hq) (i3 g hg _ rfl)
theorem JgE {l:List Str}(h:l.Pairwise (fun a b=>Op.bytesLess a b=true)):l.Nodup:=h.imp fun{a b} h e=>by rw[e,qQ]at h;cases h
def Able (X:Ty):Prop:=YZ X<=400/\∃l0 tb0,(addT X l0 tb0).2.2.1=0
structure TInv (has:Str->Bool) (nodes:List Nd):Prop where
 tree:∀i,i<nodes.length->∃X,Ki nodes X=some i/\Able X
 name:∀(i:Nat) (n:Nd),nodes[i]? =some n->n.kind=9->has n.name=true
theorem TInv.app {has:Str->Bool}{nodes:List Nd}{nd:Nd}(h:TInv has nodes)(hn:nd.kind=9->has nd.name=true){X:Ty}(hX:Ki (nodes++[nd]) X=some nodes.length)(ha:Able X):TInv has (nodes++[nd]):=by
 refine⟨fun i hi=> ?_,fun i n hi k=> ?_⟩
 ·by_cases c:i<nodes.length
  ·obtain⟨X,h1,h2⟩:=h.tree i c;exact⟨X,QT X h1,h2⟩
  ·have:i=nodes.length:=by simp at hi;omega
   subst this;exact⟨X,hX,ha⟩
 ·by_cases c:i<nodes.length
  ·rw[List.getElem?_append_left c]at hi;exact h.name i n hi k
  ·rw[List.getElem?_append_right (by omega)]at hi;have e:i-nodes.length=0:=by
    have:=(List.getElem?_eq_some_iff.1 hi).1;simpa using this
   rw[e]at hi;injection hi with hi;rw[<-hi]at k⊢;exact hn k
mutual
theorem qR {has:Str->Bool}:∀(t:Ty) {left:Int} {tb:Tb},0<=left->left<=400->Qn has t=true->(addT t left tb).2.2.1=0->TInv has tb.nodes->TInv has (addT t left tb).1.nodes
 | .mk k n ns ks,left,tb,h0,hl,hn,h,hi=>by
   have able:Able (.mk k n ns ks):=⟨by
    have h1:=(jD (.mk k n ns ks) left tb h0).2.2 h;obtain⟨_,_,_,h2⟩:=QL _ h;rw[h2]at h1;omega,left,tb,h⟩
   obtain⟨r0,b0,b1,_⟩:=QL _ h;rw[Qn,Bool.and_eq_true]at hn;rw[K0]at h b1⊢;by_cases c:left-1<0\/8<ks.length\/8<ns.length
   ·rw[if_pos c]at h;cases h
   rw[if_neg c]at h b1⊢;have ih:=JfU ks (left:=left-1) (tb:=tb) (by omega) (by omega) hn.2;have ok:=qP ks (left:=left-1) (tb:=tb);generalize Jw ks (left-1) tb=x at h b1 ih ok⊢;obtain⟨tb1,ids,e,l1⟩:=x;simp only at h b1 ih ok⊢;by_cases he:e=0
   ·subst he;simp only[ne_eq,not_true_eq_false,if_false]at h b1⊢;have ih:=ih rfl hi;unfold layS at h b1⊢
    cases cc:idx ⟨k,n,ns,ids⟩ tb1.nodes 0 with
    |some i=>exact ih
    | none=>
      rw[cc]at h b1;by_cases c2:120<=tb1.nodes.length
      ·rw[if_pos c2]at h;cases h
      ·simp only[if_neg c2]at b1⊢;refine ih.app (nd:=⟨k,n,ns,ids⟩) (fun k9=> ?_) b1 able;have:=hn.1;rw[show k=9 from k9]at this;simpa using this
   ·rw[if_pos he]at h;exact absurd h he
theorem JfU {has:Str->Bool}:∀(ts:List Ty) {left:Int} {tb:Tb},0<=left->left<=400->KV has ts=true->(Jw ts left tb).2.2.1=0->TInv has tb.nodes->TInv has (Jw ts left tb).1.nodes
 |[],left,tb,_,_,_,_,hi=>by rw[KJ];exact hi
 | t::ts,left,tb,h0,hl,hn,h,hi=>by
   rw[KV,Bool.and_eq_true]at hn;rw[Ku]at h⊢;have i1:=qR t (left:=left) (tb:=tb) h0 hl hn.1;have l1:=jD t left tb h0;generalize addT t left tb=x at h i1 l1⊢;obtain⟨tb1,i,e,lf⟩:=x;simp only at h i1 l1⊢;by_cases he:e=0
   ·subst he;simp only[ne_eq,not_true_eq_false,if_false]at h⊢;exact JfU ts (l1.2.2 rfl) (by omega) hn.2 h (i1 rfl hi)
   ·rw[if_pos he]at h;exact absurd h he
end
def sigI (tb:Tb)(n:Str):Option (List Nat):=(tb.sigs.find? fun p=>n=p.1).map (·.2)
theorem qS {α:Type}(n m:Str)(x:α):∀l:List (Str×α),((setI n x l).find? fun p=>m=p.1).map (·.2)=if m=n then some x else(l.find? fun p=>m=p.1).map (·.2)
 | []=>by
   rw[setI];by_cases e:m=n
   ·simp[List.find?,e]
   ·simp[List.find?,e]
 | (a,y)::r=>by
   rw[setI];by_cases c:n=a
   ·rw[if_pos c];by_cases e:m=n
    ·simp[List.find?,e]
    ·have e2:¬m=a:=fun k=>e (by rw[k,c]);simp[List.find?,e,e2]
   ·rw[if_neg c];have ih:=qS n m x r;by_cases e2:m=a
    ·have e:¬m=n:=fun k=>c (by rw[<-k,e2]);simp[List.find?,e2];intro k;exact absurd k.symm c
    ·simp only[List.find?,e2,decide_false];exact ih
structure Grown (tb tb':Tb):Prop where
 nodes:∃r,tb'.nodes=tb.nodes++r
theorem Grown.look {tb tb':Tb}(h:Grown tb tb'){X:Ty}{i:Nat}(k:Ki tb.nodes X=some i):Ki tb'.nodes X=some i:=by
 obtain⟨r,e⟩:=h.nodes;rw[e];exact QT X k
theorem Grown.looks {tb tb':Tb}(h:Grown tb tb'){X:List Ty}{i:List Nat}(k:JS tb.nodes X=some i):JS tb'.nodes X=some i:=by
 obtain⟨r,e⟩:=h.nodes;rw[e];exact kz X k
theorem Grown.refl (tb:Tb):Grown tb tb:=⟨[],by simp⟩
theorem Grown.trans {a b c:Tb}(h:Grown a b)(k:Grown b c):Grown a c:=by
 obtain⟨r,e⟩:=h.nodes;obtain⟨q,f⟩:=k.nodes;exact⟨r++q,by rw[f,e];simp⟩
theorem JcX {has:Str->Bool}:∀(l:List (Str×Ty)) {tb:Tb},(∀p∈l,Qn has p.2=true)->(l.map Prod.fst).Nodup->(Jr l tb).2=0->TInv has tb.nodes->
  TInv has (Jr l tb).1.nodes/\Grown tb (Jr l tb).1/\(∀p∈l,∃j,defI (Jr l tb).1 p.1=some j/\Ki (Jr l tb).1.nodes p.2=some j)/\(∀n,n∉l.map Prod.fst->defI (Jr l tb).1 n=defI tb n)/\(Jr l tb).1.sigs=tb.sigs/\∀p∈l,Able p.2
 |[],tb,_,_,_,hi=>by rw[Jr];exact⟨hi,Grown.refl _,fun p h=>(by cases h),fun _ _=>rfl,rfl,fun p h=>(by cases h)⟩
 | (n,t)::r,tb,hn,hd,h,hi=>by
   rw[List.map_cons,List.nodup_cons]at hd;rw[JbO]at h⊢;by_cases c:(addT t 400 tb).2.2.1=0
   ·rw[if_neg (fun k=>k c)]at h⊢;have i1:=qR t (left:=400) (tb:=tb) (by decide) (by decide) (hn (n,t) (by simp)) c hi;obtain⟨r0,e1,e2,e3⟩:=QL t c;have e4:=(jD t 400 tb (by decide)).2.2 c;rw[e3]at e4;obtain⟨j1,j2,j3,j4,j5,j6⟩:=JcX r (tb:={(addT t 400 tb).1 with named:=setI n (addT t 400 tb).2.1 (addT t 400 tb).1.named}) (fun p hp=>hn p (List.mem_cons_of_mem _ hp)) hd.2 h i1;have g1:Grown tb {(addT t 400 tb).1 with named:=setI n (addT t 400 tb).2.1 (addT t 400 tb).1.named}:=⟨r0,by rw[e1]⟩
    refine⟨j1,g1.trans j2,fun p hp=> ?_,fun m hm=> ?_,by rw[j5,e1],fun p hp=> ?_⟩
    ·rcases List.mem_cons.1 hp with rfl|hp
     ·refine⟨(addT t 400 tb).2.1, ?_,j2.look e2⟩;rw[j4 n hd.1];show((setI n _ _).find? _).map _=_;rw[qS,if_pos rfl]
     ·exact j3 p hp
    ·rw[List.map_cons,List.mem_cons,not_or]at hm;rw[j4 m hm.2];show((setI n _ _).find? _).map _=_;rw[qS,if_neg hm.1,e1];rfl
    ·rcases List.mem_cons.1 hp with rfl|hp
     ·exact⟨by show YZ t<=400;omega,400,tb,c⟩
     ·exact j6 p hp
   ·rw[if_pos c]at h;exact absurd h c
theorem JcY {has:Str->Bool}:∀(ts:List Ty) {tb:Tb},KV has ts=true->(Jx ts tb).2.2=0->TInv has tb.nodes->
  TInv has (Jx ts tb).1.nodes/\Grown tb (Jx ts tb).1/\JS (Jx ts tb).1.nodes ts=some (Jx ts tb).2.1/\(Jx ts tb).1.named=tb.named/\(Jx ts tb).1.sigs=tb.sigs/\(Jx ts tb).1.main=tb.main
 |[],tb,_,_,hi=>by rw[Jx];exact⟨hi,Grown.refl _,by rw[JS],rfl,rfl,rfl⟩
 | t::r,tb,hn,h,hi=>by
   rw[KV,Bool.and_eq_true]at hn;rw[JbP]at h⊢;by_cases c:(addT t 400 tb).2.2.1=0
   ·rw[if_neg (fun k=>k c)]at h⊢;have i1:=qR t (left:=400) (tb:=tb) (by decide) (by decide) hn.1 c hi;obtain⟨r0,e1,e2,e3⟩:=QL t c;obtain⟨j1,j2,j3,j4,j5,j6⟩:=JcY r hn.2 h i1;have g1:Grown tb (addT t 400 tb).1:=⟨r0,by rw[e1]⟩
    refine⟨j1,g1.trans j2, ?_,by rw[j4,e1],by rw[j5,e1],by rw[j6,e1]⟩;rw[JS,j2.look e2,j3]
   ·rw[if_pos c]at h;exact absurd h c
theorem JcZ {has:Str->Bool}:∀(fs:List Sg) {tb:Tb},(∀f∈fs,KV has (f.params++[f.result])=true)->(fs.map Sg.name).Nodup->(Kl fs tb).2=0->TInv has tb.nodes->
  TInv has (Kl fs tb).1.nodes/\Grown tb (Kl fs tb).1/\(Kl fs tb).1.named=tb.named/\(∀f∈fs,∃ids,sigI (Kl fs tb).1 f.name=some ids/\JS (Kl fs tb).1.nodes (f.params++[f.result])=some ids)/\(∀n,n∉fs.map Sg.name->sigI (Kl fs tb).1 n=sigI tb n)/\(Kl fs tb).1.main=tb.main
 |[],tb,_,_,_,hi=>by rw[Kl];exact⟨hi,Grown.refl _,rfl,fun p h=>(by cases h),fun _ _=>rfl,rfl⟩
 | f::r,tb,hn,hd,h,hi=>by
   rw[List.map_cons,List.nodup_cons]at hd;rw[JbQ]at h⊢;by_cases c:(Jx (f.params++[f.result]) tb).2.2=0
   ·rw[if_neg (fun k=>k c)]at h⊢;obtain⟨i1,i2,i3,i4,i5,i6⟩:=JcY (f.params++[f.result]) (hn f (by simp)) c hi;obtain⟨j1,j2,j3,j4,j5,j6⟩:=JcZ r (tb:={(Jx (f.params++[f.result]) tb).1 with sigs:=setI f.name (Jx (f.params++[f.result]) tb).2.1 (Jx (f.params++[f.result]) tb).1.sigs}) (fun p hp=>hn p (List.mem_cons_of_mem _ hp)) hd.2 h i1;have g1:Grown tb {(Jx (f.params++[f.result]) tb).1 with sigs:=setI f.name (Jx (f.params++[f.result]) tb).2.1 (Jx (f.params++[f.result]) tb).1.sigs}:=⟨i2.nodes⟩
    refine⟨j1,g1.trans j2,by rw[j3,i4],fun p hp=> ?_,fun m hm=> ?_,by rw[j6,i6]⟩
    ·rcases List.mem_cons.1 hp with rfl|hp
     ·refine⟨(Jx (p.params++[p.result]) tb).2.1, ?_,j2.looks i3⟩;rw[j5 _ hd.1];show((setI p.name _ _).find? _).map _=_;rw[qS,if_pos rfl]
     ·exact j4 p hp
    ·rw[List.map_cons,List.mem_cons,not_or]at hm;rw[j5 m hm.2];show((setI f.name _ _).find? _).map _=_;rw[qS,if_neg hm.1,i5];rfl
   ·rw[if_pos c]at h;exact absurd h c
structure Yy (s:Sch) (tb:Tb):Prop where
 chk:Qv s=0
 inv:TInv (hasN s.types) tb.nodes
 named:∀p∈s.types,∃j,defI tb p.1=some j/\Ki tb.nodes p.2=some j
 able:∀p∈s.types,Able p.2
 sigs:∀f∈s.sigs,∃ids,sigI tb f.name=some ids/\JS tb.nodes (f.params++[f.result])=some ids
 nosig:∀n,n∉s.sigs.map Sg.name->sigI tb n=none
 main:Ki tb.nodes s.main=some tb.main
theorem Jc0 {s:Sch}(h:Qv s=0):(∀p∈s.types,Qn (hasN s.types) p.2=true)/\(s.types.map Prod.fst).Nodup/\Qn (hasN s.types) s.main=true/\(∀f∈s.sigs,KV (hasN s.types) (f.params++[f.result])=true)/\(s.sigs.map Sg.name).Nodup/\(∀p∈s.types,finS s.types p.2=true):=by
 rw[Jas]at h
 split at h
 ·cases h
 split at h
 ·rename_i c;exact absurd h c
 rename_i c2
 split at h
 ·rename_i c;exact absurd h c
 rename_i c3
 split at h
 ·rename_i c;exact absurd h c
 rename_i c4
 split at h
 ·rename_i c;exact absurd h c
 rename_i c5
 split at h
 ·cases h
 rename_i c6
 have a3:=kR _ _ _ _ (show(Jq (hasN s.types) (s.types.map Prod.snd) 1 0).1=0 by simpa using c3);obtain⟨b1,b2,_⟩:=Jeo _ _ _ _ (by simpa using c5);refine⟨fun p hp=>qe a3 p.2 (List.mem_map.2 ⟨p,hp,rfl⟩),qd (by simpa using c2),Jci _ _ _ _ (by simpa using c4),b1,JgE b2,fun p hp=> ?_⟩
 cases e:finS s.types p.2 with
 |true=>rfl
 |false=>exact absurd (List.any_eq_true.2 ⟨p,hp,by rw[e];rfl⟩) c6
theorem JjF {s:Sch}{tb:Tb}{e:Int}(h:newS s=(some tb,e)):e=0/\Yy s tb:=by
 rw[JbR]at h;by_cases c1:Qv s=0
 ·rw[if_neg (fun k=>k c1)]at h;obtain⟨n1,n2,n3,n4,n5,n6⟩:=Jc0 c1;have t0:TInv (hasN s.types) JC.nodes:=⟨fun i h=>absurd h (Nat.not_lt_zero _),fun i n h=>by cases h⟩
  by_cases c2:(Jr s.types JC).2=0
  ·rw[if_neg (fun k=>k c2)]at h;obtain⟨d1,d2,d3,d4,d5,d6⟩:=JcX s.types n1 n2 c2 t0;generalize (Jr s.types JC).1=D at*;by_cases c3:(addT s.main 400 D).2.2.1=0
   ·rw[if_neg (fun k=>k c3)]at h;have m1:=qR s.main (by decide) (by decide) n3 c3 d1;obtain⟨r0,m2,m3,_⟩:=QL s.main c3;generalize addT s.main 400 D=M at*;obtain⟨MT,mi,me,ml⟩:=M;simp only at c3 m1 m2 m3 h;by_cases c4:(Kl s.sigs {MT with main:=mi}).2=0
    ·rw[if_neg (fun k=>k c4)]at h;injection h with h h';injection h with h;obtain⟨s1,s2,s3,s4,s5,s6⟩:=JcZ s.sigs (tb:={MT with main:=mi}) n4 n5 c4 m1;rw[h]at s1 s2 s3 s4 s5 s6;have g1:Grown D {MT with main:=mi}:=⟨r0,by rw[m2]⟩
     refine⟨h'.symm,c1,s1,fun p hp=> ?_,d6,s4,fun n hn=> ?_, ?_⟩
     ·obtain⟨j,k1,k2⟩:=d3 p hp;refine⟨j, ?_,s2.look (g1.look k2)⟩;rw[<-k1];unfold defI;rw[s3,m2]
     ·rw[s5 n hn];show((MT.sigs).find? _).map _=none;rw[m2,d5];rfl
     ·rw[s6];exact s2.look m3
    ·rw[if_pos c4]at h;injection h with h _;cases h
   ·rw[if_pos c3]at h;injection h with h _;cases h
  ·rw[if_pos c2]at h;injection h with h _;cases h
 ·rw[if_pos c1]at h;injection h with h _;cases h
theorem Jcj {s:Sch}{e:Int}(h:newS s=(none,e)):e≠0:=by
 rw[JbR]at h
 split at h
 ·injection h with _ h;rw[<-h];assumption
 split at h
 ·injection h with _ h;rw[<-h];assumption
 split at h
 ·injection h with _ h;rw[<-h];assumption
 split at h
 ·injection h with _ h;rw[<-h];assumption
 injection h with h _
 cases h
theorem JaQ (n m:Str)(b:Bool):∀l:List (Str×Bool),gB m (sB n b l)=if m=n then b else gB m l
 | []=>by
   rw[sB,gB];rfl
 | (a,c)::r=>by
   rw[sB];by_cases e:n=a
   ·rw[if_pos e,gB,gB];by_cases e2:m=n
    ·rw[if_pos e2,if_pos e2]
    ·rw[if_neg e2,if_neg e2,if_neg (fun k=>e2 (k.trans e.symm))]
   ·rw[if_neg e,gB,gB,JaQ n m b r];by_cases e2:m=n
    ·rw[if_pos e2,if_pos e2,if_neg (fun k=>e (e2.symm.trans k))]
    ·rw[if_neg e2,if_neg e2]
theorem Jep {has:Str->Bool}{t:Ty}(h:KS has t 1=true)(k:t.kind=9):has t.name=true:=by
 obtain⟨k',n,ns,ks⟩:=t;have k:k'=9:=k;rw[KS,if_neg (by decide),if_pos k]at h;exact h
def Rk (l:List (Str×Ty))(has:List (Str×Bool))(rk:Str->Nat):Prop:=∀p∈l,p.2.kind=9->gB p.1 has=true->gB p.2.name has=true/\rk p.2.name<rk p.1
theorem Jeq {l:List (Str×Ty)}(hd:(l.map Prod.fst).Nodup){p q:Str×Ty}(hp:p∈l)(hq:q∈l)(h:p.1=q.1):p=q:=by
 induction l with
 |nil=>cases hp
 | cons a r ih=>
   rw[List.map_cons,List.nodup_cons]at hd;rcases List.mem_cons.1 hp with e|hp'
   ·rcases List.mem_cons.1 hq with e2|hq'
    ·rw[e,e2]
    ·exact absurd (List.mem_map.2 ⟨q,hq',by rw[<-h,e]⟩) hd.1
   ·rcases List.mem_cons.1 hq with e2|hq'
    ·exact absurd (List.mem_map.2 ⟨p,hp',by rw[h,e2]⟩) hd.1
    ·exact ih hd.2 hp' hq'
theorem Jij {l:List (Str×Ty)}(hd:(l.map Prod.fst).Nodup):∀(r:List (Str×Ty)),(∀p∈r,p∈l)->∀(has:List (Str×Bool)) (rk:Str->Nat),Rk l has rk->∃rk',Rk l (KT r has) rk'
 |[],_,has,rk,h=>⟨rk,by rw[KT];exact h⟩
 | (n,t)::r,hr,has,rk,h=>by
   rw[KT];have hm:(n,t)∈l:=hr _ (by simp)
   suffices ∃rk',Rk l (sB n (gB n has||KS (fun x=>gB x has) t 1) has) rk' by
    obtain⟨rk',h'⟩:=this;exact Jij hd r (fun p hp=>hr p (List.mem_cons_of_mem _ hp)) _ rk' h'
   by_cases c:gB n has=true
   ·refine⟨rk,fun p hp k9 ht=> ?_⟩;have key:∀x,gB x (sB n (gB n has||KS (fun x=>gB x has) t 1) has)=gB x has:=fun x=>by
     rw[JaQ,c,Bool.true_or];by_cases e:x=n
     ·rw[if_pos e,e,c]
     ·rw[if_neg e]
    rw[key]at ht⊢;exact h p hp k9 ht
   have c':gB n has=false:=by simpa using c
   rw[c',Bool.false_or];by_cases d:KS (fun x=>gB x has) t 1=true
   ·rw[d];refine⟨fun x=>if x=n then rk t.name+1 else rk x,fun p hp k9 ht=> ?_⟩;by_cases e:p.1=n
    ·have e2:=Jeq hd hp hm e;subst e2;have d2:=Jep d k9;have e3:¬t.name=n:=fun k=>by rw[k,c']at d2;cases d2
     rw[JaQ,if_neg e3];refine⟨d2, ?_⟩;simp only[e3,if_false,if_true];exact Nat.lt_succ_self _
    ·rw[JaQ,if_neg e]at ht;obtain⟨a,b⟩:=h p hp k9 ht;have e3:¬p.2.name=n:=fun k=>by rw[k,c']at a;cases a
     rw[JaQ,if_neg e3];simp only[e,e3,if_false];exact⟨a,b⟩
   ·have d':KS (fun x=>gB x has) t 1=false:=by simpa using d
    rw[d'];refine⟨rk,fun p hp k9 ht=> ?_⟩;have key:∀x,gB x (sB n false has)=gB x has:=fun x=>by
     rw[JaQ];by_cases e:x=n
     ·rw[if_pos e,e,c']
     ·rw[if_neg e]
    rw[key]at ht⊢;exact h p hp k9 ht
theorem JfV {l:List (Str×Ty)}(hd:(l.map Prod.fst).Nodup):∀(k:Nat) (has:List (Str×Bool)) (rk:Str->Nat),Rk l has rk->∃rk',Rk l (Kk l k has) rk'
 |0,has,rk,h=>⟨rk,by rw[Kk];exact h⟩
 | k+1,has,rk,h=>by
   rw[Kk];obtain⟨rk',h'⟩:=Jij hd l (fun p hp=>hp) has rk h;exact JfV hd k _ rk' h'
theorem Jlc {l:List (Str×Ty)}(hd:(l.map Prod.fst).Nodup){p:Str×Ty}(hp:p∈l):defN l p.1=some p.2:=by
 unfold defN
 cases hf:l.find? fun q=>q.1=p.1 with
 | none=>
   have:=List.find?_eq_none.1 hf p hp;simp at this
 | some q=>
   have h1:=List.mem_of_find?_eq_some hf;have h2:=List.find?_some hf;rw[Jeq hd h1 hp (by simpa using h2)];rfl
theorem JnY {l:List (Str×Ty)}{t:Ty}(h:finS l t=true):KS (fun x=>gB x (Kk l l.length [])) t 1=true:=by
 unfold finS at h
 split at h
 ·cases h
 split at h
 ·cases h
 exact h
theorem Jik {l:List (Str×Ty)}(hd:(l.map Prod.fst).Nodup)(h:∀p∈l,finS l p.2=true):∃rk:Str->Nat,∀p∈l,p.2.kind=9->rk p.2.name<rk p.1:=by
 obtain⟨rk,hr⟩:=JfV hd l.length [] (fun _=>0) (fun p _ _ ht=>by cases ht);refine⟨fun x=>if gB x (Kk l l.length [])then rk x else rk ((defN l x).getD Qu).name+1,fun p hp k9=> ?_⟩;have h2:=Jep (JnY (h p hp)) k9;simp only[h2,if_true];by_cases c:gB p.1 (Kk l l.length [])=true
 ·rw[if_pos c];exact(hr p hp k9 c).2
 ·rw[if_neg c,Jlc hd hp];exact Nat.lt_succ_self _
theorem Jck {α:Type}{p q:α->Bool}(h:∀x,p x=true->q x=true){x:α}(hq:q x=true)(hp:p x=false):∀{l:List α},x∈l->(l.filter p).length<(l.filter q).length
 |[],hx=>by cases hx
 | a::r,hx=>by
   have le:∀l:List α,(l.filter p).length<=(l.filter q).length:=fun l=>by
    induction l with
    |nil=>exact Nat.le_refl _
    | cons b l ih=>
      by_cases c:p b=true
      ·simp[List.filter,c,h b c];exact ih
      ·have c:p b=false:=by simpa using c
       by_cases d:q b=true
       ·simp[List.filter,c,d];omega
       ·have d:q b=false:=by simpa using d
        simp[List.filter,c,d];exact ih
   rcases List.mem_cons.1 hx with rfl|hx
   ·simp[List.filter,hp,hq];have:=le r;omega
   ·have ih:=Jck h hq hp hx;by_cases c:p a=true
    ·simp[List.filter,c,h a c];omega
    ·have c:p a=false:=by simpa using c
     by_cases d:q a=true
     ·simp[List.filter,c,d];omega
     ·have d:q a=false:=by simpa using d
      simp[List.filter,c,d];omega
theorem Jld {tb:Tb}{l:List (Str×Ty)}{rk:Str->Nat}(hrk:∀p∈l,p.2.kind=9->rk p.2.name<rk p.1)
  (hn:∀(i:Nat) (n:Nd),tb.nodes[i]? =some n->n.kind=9->∃T j,(n.name,T)∈l/\defI tb n.name=some j/\Ki tb.nodes T=some j):
  ∀(f r i:Nat) (hi:i<tb.nodes.length),(tb.nodes[i].kind=9->rk tb.nodes[i].name<r)->(tb.nodes.filter fun n=>decide (n.kind=9/\rk n.name<r)).length<f->
   ∃j nd,Kh tb f i=(j,true)/\tb.nodes[j]? =some nd/\nd.kind≠9
 |0,r,i,hi,h,hf=>absurd hf (Nat.not_lt_zero _)
 | f+1,r,i,hi,h,hf=>by
   by_cases k:tb.nodes[i].kind=9
   ·obtain⟨T,j,h1,h2,h3⟩:=hn i _ (List.getElem?_eq_getElem hi) k;rw[kq hi k h2];obtain⟨ids,hnd,hks⟩:=Yb h3;have hj:=(List.getElem?_eq_some_iff.1 hnd).1;have hne:=(List.getElem?_eq_some_iff.1 hnd).2;refine Jld hrk hn f (rk tb.nodes[i].name) j hj (fun k2=> ?_) ?_
    ·rw[hne]at k2⊢;exact hrk _ h1 k2
    ·have:(tb.nodes.filter fun n=>decide (n.kind=9/\rk n.name<rk tb.nodes[i].name)).length<(tb.nodes.filter fun n=>decide (n.kind=9/\rk n.name<r)).length:=
      Jck (x:=tb.nodes[i]) (fun x hx=>by
       have hx:=of_decide_eq_true hx;exact decide_eq_true ⟨hx.1,Nat.lt_trans hx.2 (h k)⟩) (decide_eq_true ⟨k,h k⟩) (decide_eq_false fun hx=>Nat.lt_irrefl _ hx.2) (List.getElem_mem hi)
     omega
   ·rw[Qm hi k];exact⟨i,_,rfl,List.getElem?_eq_getElem hi,k⟩
theorem Jer {tb:Tb}:∀{f i j:Nat},Kh tb f i=(j,true)->Kh tb (f+1) i=(j,true)
 |0,i,j,h=>by cases h
 | f+1,i,j,h=>by
   by_cases hi:i<tb.nodes.length
   ·by_cases k:tb.nodes[i].kind=9
    ·cases d:defI tb tb.nodes[i].name with
     |none=>rw[qM hi k d]at h;cases h
     | some a=>
       rw[kq hi k d]at h⊢;exact Jer h
    ·rw[Qm hi k]at h⊢;exact h
   ·rw[YK (by omega)]at h;cases h
theorem Yy.add {s:Sch}{tb:Tb}(h:Yy s tb){X:Ty}(hX:Qn (hasN s.types) X=true)(he:(addT X 400 tb).2.2.1=0):Yy s (addT X 400 tb).1/\Ki (addT X 400 tb).1.nodes X=some (addT X 400 tb).2.1:=by
 have i1:=qR X (left:=400) (tb:=tb) (by decide) (by decide) hX he h.inv;obtain⟨r0,e1,e2,e3⟩:=QL X he;have g:Grown tb (addT X 400 tb).1:=⟨r0,by rw[e1]⟩
 have a1:(addT X 400 tb).1.named=tb.named:=by rw[e1]
 have a2:(addT X 400 tb).1.sigs=tb.sigs:=by rw[e1]
 have a3:(addT X 400 tb).1.main=tb.main:=by rw[e1]
 refine⟨⟨h.chk,i1,fun p hp=> ?_,h.able,fun f hf=> ?_,fun n hn=> ?_, ?_⟩,e2⟩
 ·obtain⟨j,k1,k2⟩:=h.named p hp;exact⟨j,by unfold defI;rw[a1];exact k1,g.look k2⟩
 ·obtain⟨ids,k1,k2⟩:=h.sigs f hf;exact⟨ids,by unfold sigI;rw[a2];exact k1,g.looks k2⟩
 ·unfold sigI;rw[a2];exact h.nosig n hn
 ·rw[a3];exact g.look h.main
theorem JbS {l:List (Str×Ty)}{n:Str}(h:hasN l n=true):∃T,(n,T)∈l:=by
 obtain⟨p,hp,e⟩:=List.any_eq_true.1 h;exact⟨p.2,by rw[<-show p.1=n by simpa using e];exact hp⟩
theorem Yy.opens {s:Sch}{tb:Tb}(h:Yy s tb){i:Nat}(hi:i<tb.nodes.length):∃j nd,Kh tb (tb.nodes.length+1) i=(j,true)/\tb.nodes[j]? =some nd/\nd.kind≠9:=by
 obtain⟨n1,n2,n3,n4,n5,n6⟩:=Jc0 h.chk;obtain⟨rk,hrk⟩:=Jik n2 n6;refine Jld hrk (fun i n hi k=> ?_) _ (rk tb.nodes[i].name+1) i hi (fun _=>Nat.lt_succ_self _) (Nat.lt_succ_of_le (List.length_filter_le _ _));obtain⟨T,hT⟩:=JbS (h.inv.name i n hi k);obtain⟨j,k1,k2⟩:=h.named _ hT;exact⟨T,j,hT,k1,k2⟩
theorem Yy.same {s:Sch}{tb:Tb}(h:Yy s tb){p:Str×Ty}(hp:p∈s.types){a j:Nat}(ha:Ki tb.nodes (.mk 9 p.1 [] [])=some a)(hj:Ki tb.nodes p.2=some j):
  Kh tb (tb.nodes.length+1) a=Kh tb (tb.nodes.length+1) j:=by
 obtain⟨ids,hnd,_⟩:=Yb ha;have hnd:tb.nodes[a]? =some ⟨9,p.1,[],ids⟩:=hnd;have hi:=(List.getElem?_eq_some_iff.1 hnd).1;have hne:=(List.getElem?_eq_some_iff.1 hnd).2;obtain⟨j',k1,k2⟩:=h.named p hp;rw[hj]at k2;injection k2 with k2;obtain⟨o,nd,h1,_⟩:=h.opens hi;have h2:Kh tb (tb.nodes.length+1) a=Kh tb tb.nodes.length j:=kq hi (by rw[hne]) (by rw[hne,k2];exact k1);rw[h1,Jer (h2.symm.trans h1)]
mutual
def fitT :Ty->Bool
 | .mk _ _ ns ks=>decide (ns.length<=8)&&decide (ks.length<=8)&&jK ks
def jK :List Ty->Bool
 |[]=>true
 |t::r=>fitT t&&jK r
end
theorem qf {k:Int}{n:Str}{ns:List Str}{ks:List Ty}(h:fitT (.mk k n ns ks)=true):ns.length<=8/\ks.length<=8/\jK ks=true:=by
 rw[fitT,Bool.and_eq_true,Bool.and_eq_true]at h;exact⟨of_decide_eq_true h.1.1,of_decide_eq_true h.1.2,h.2⟩
theorem jL :∀{ks:List Ty},jK ks=true->∀i (h:i<ks.length),fitT ks[i]=true
 |[],_,i,h=>absurd h (by simp)
 | t::r,hf,i,h=>by
   rw[jK,Bool.and_eq_true]at hf
   cases i with
   |zero=>exact hf.1
   |succ i=>exact jL hf.2 i (by simpa using h)
mutual
theorem Jes :∀(t:Ty) {left:Int} {tb:Tb},(addT t left tb).2.2.1=0->fitT t=true
 | .mk k n ns ks,left,tb,h=>by
   rw[K0]at h;by_cases c:left-1<0\/8<ks.length\/8<ns.length
   ·rw[if_pos c]at h;cases h
   rw[if_neg c]at h
   cases he:Jw ks (left-1) tb with
   |mk t1 x=>
   obtain⟨ids,e,l1⟩:=x;rw[he]at h;by_cases e0:e=0
   ·have e1:(Jw ks (left-1) tb).2.2.1=0:=by rw[he];exact e0
    rw[fitT,JfW ks e1,decide_eq_true (by omega),decide_eq_true (by omega)];rfl
   ·have h:(if e≠0 then(t1,0,e,l1)else((layS t1 ⟨k,n,ns,ids⟩).1,(layS t1 ⟨k,n,ns,ids⟩).2.1,(layS t1 ⟨k,n,ns,ids⟩).2.2,l1):Tb×Nat×Int×Int).2.2.1=0:=h;rw[if_pos e0]at h;exact absurd h e0
theorem JfW :∀(ts:List Ty) {left:Int} {tb:Tb},(Jw ts left tb).2.2.1=0->jK ts=true
 |[],_,_,_=>by rw[jK]
 | t::r,left,tb,h=>by
   rw[Ku]at h
   cases he:addT t left tb with
   |mk t1 x=>
   obtain⟨i,e,l1⟩:=x;rw[he]at h;by_cases e0:e=0
   ·have e1:(addT t left tb).2.2.1=0:=by rw[he];exact e0
    subst e0;have h:(Jw r l1 t1).2.2.1=0:=h;rw[jK,Jes t e1,JfW r h];rfl
   ·have h:(if e≠0 then(t1,[],e,l1)else((Jw r l1 t1).1,i::(Jw r l1 t1).2.1,(Jw r l1 t1).2.2.1,(Jw r l1 t1).2.2.2):Tb×List Nat×Int×Int).2.2.1=0:=h;rw[if_pos e0]at h;exact absurd h e0
end
theorem Able.fit {X:Ty}(h:Able X):fitT X=true:=by
 obtain⟨_,_,_,h⟩:=h;exact Jes X h
theorem kT {nodes:List Nd}{t:Ty}{r:List Ty}{l:List Nat}(h:JS nodes (t::r)=some l):∃a b,l=a::b/\Ki nodes t=some a/\JS nodes r=some b:=by
 rw[JS]at h
 cases c1:Ki nodes t with
 |none=>rw[c1]at h;cases h
 | some a=>
   cases c2:JS nodes r with
   |none=>rw[c1,c2]at h;cases h
   | some b=>
     rw[c1,c2]at h;injection h with h;exact⟨a,b,h.symm,rfl,rfl⟩
mutual
theorem Jet {nodes:List Nd}:∀{X Y:Ty} {i:Nat},Ki nodes X=some i->Ki nodes Y=some i->X=Y
 | .mk k n ns ks, .mk k' n' ns' ks',i,h,h'=>by
   obtain⟨ids,a1,a2⟩:=Yb h;obtain⟨ids',b1,b2⟩:=Yb h';rw[a1]at b1;injection b1 with b1;injection b1 with e1 e2 e3 e4;have a2:JS nodes ks=some ids:=a2;have b2:JS nodes ks'=some ids':=b2;rw[<-e4]at b2;have:=JfX a2 b2;rw[this];have e1:k=k':=e1;have e2:n=n':=e2;have e3:ns=ns':=e3;rw[e1,e2,e3]
theorem JfX {nodes:List Nd}:∀{X Y:List Ty} {i:List Nat},JS nodes X=some i->JS nodes Y=some i->X=Y
 |[],[],i,h,h'=>rfl
 | [],y::r,i,h,h'=>by
   obtain⟨a,b,rfl,_,_⟩:=kT h'
   cases h
 | x::l,[],i,h,h'=>by
   obtain⟨a,b,rfl,_,_⟩:=kT h
   cases h'
 | x::l,y::r,i,h,h'=>by
   obtain⟨a,b,rfl,c1,c2⟩:=kT h;obtain⟨a',b',e,d1,d2⟩:=kT h';injection e with e1 e2;rw[e1]at c1;rw[e2]at c2;rw[Jet c1 d1,JfX c2 d2]
end
theorem Yy.able_of {s:Sch}{tb:Tb}(h:Yy s tb){X:Ty}{i:Nat}(hx:Ki tb.nodes X=some i):Able X:=by
 obtain⟨ids,a1,_⟩:=Yb hx;obtain⟨Y,h1,h2⟩:=h.inv.tree i (List.getElem?_eq_some_iff.1 a1).1;rw[Jet hx h1];exact h2
theorem Yy.lay {s:Sch}{tb:Tb}(h:Yy s tb){k:Int}(hk:k≠9)(he:(layS tb ⟨k,[],[],[]⟩).2.2=0):Yy s (layS tb ⟨k,[],[],[]⟩).1:=by
 have hT:addT (.mk k [] [] []) 400 tb=((layS tb ⟨k,[],[],[]⟩).1,(layS tb ⟨k,[],[],[]⟩).2.1,(layS tb ⟨k,[],[],[]⟩).2.2,399):=by
  rw[K0,if_neg (by simp),KJ];rfl
 have h1:Qn (hasN s.types) (.mk k [] [] [])=true:=by
  rw[Qn,KV,decide_eq_true hk];rfl
 have h2:(addT (.mk k [] [] []) 400 tb).2.2.1=0:=by rw[hT];exact he
 have:=(h.add h1 h2).1;rw[hT]at this;exact this
end Eva
namespace Eva
open Go Go.RowKit Go.ChangeShapes
abbrev Rws :=List (List V×Loc)
def rosA (A:Rws):St:=rosR (A.map Prod.fst).reverse
def locA (A:Rws)(i:Nat):Loc:=(A.getD i ([],⟨0,0,0⟩)).2
def gA (A:Rws):Locs:=rosG (A.map Prod.fst).reverse.length (locA A)
def kU (ρ:Nat->Value)(w:World)(A:Rws):Prop:=∀A',A<+:A'->∀i (h:i<A.length),Ql (gA A') ρ A[i].2 (.ro A[i].1) w/\A[i].2.b<w.heap.size
theorem JnZ {A A':Rws}(h:A<+:A'){i:Nat}(hi:i<A.length):∃h':i<A'.length,A'[i]=A[i]:=by
 obtain⟨C,rfl⟩:=h;exact⟨by simp;omega,List.getElem_append_left hi⟩
theorem Jil (A:Rws):(A.map Prod.fst).reverse.length=A.length:=by simp
theorem Jle {A A':Rws}(h:A<+:A'){i:Nat}(hi:i<A.length):(rosA A').row (Pt.nth i)= .ro A[i].1:=by
 obtain⟨h',e⟩:=JnZ h hi;unfold rosA;rw[jB,Pt.num_nth,Jil,if_pos h'];congr 1;rw[List.getD_eq_getElem?_getD,List.getElem?_reverse (by simp;omega)];have:(A'.map Prod.fst).length-1-(A'.length-1-i)=i:=by simp;omega
 rw[this,List.getElem?_map,List.getElem?_eq_getElem h',e];rfl
theorem Jqz {A A':Rws}(h:A<+:A'){i:Nat}(hi:i<A.length):gA A' (Pt.nth i)=some A[i].2:=by
 obtain⟨h',e⟩:=JnZ h hi;unfold gA rosG locA;rw[Jil,Pt.num_nth,if_pos h',List.getD_eq_getElem?_getD,List.getElem?_eq_getElem h',e];rfl
theorem kU.nil (ρ:Nat->Value)(w:World):kU ρ w []:=fun _ _ i h=>absurd h (by simp)
theorem kU.snoc {ρ:Nat->Value}{w:World}{A:Rws}(h:kU ρ w A){l:List V}{lo:Loc}(hb:lo.b<w.heap.size)(k:∀A',A++[(l,lo)]<+:A'->Ql (gA A') ρ lo (.ro l) w):kU ρ w (A++[(l,lo)]):=by
 intro A' hp i hi;rcases Nat.lt_or_ge i A.length with c|c
 ·rw[List.getElem_append_left c];exact h A' ((List.prefix_append _ _).trans hp) i c
 ·have e:i=A.length:=by simp at hi;omega
  subst e;simp only[List.getElem_concat_length];exact⟨k A' hp,hb⟩
theorem Jim {P:Program}{ρ:Nat->Value}{w:World}{t:BT}(hB:t.all fun i e=>Qs P ρ ⟨w.heap.size,w⟩ i e.b){A:Rws}(hA:kU ρ w A)
  {f:Nat} {args:List V} (h:Does (tabT t) f args (rosA A) fun v _=>v= .bool true) {xs:List Value} (hx:RL (gA A) ρ args xs):
  Calls P f xs.toArray w fun e w'=>e= .returned (.bool true)/\Below w.heap.size w w':=by
 refine Jjq hB (L:=(A.map Prod.fst).reverse) (locs:=locA A) (fun i hi=> ?_) h hx;have hi':i<A.length:=by simpa using hi
 have e1:locA A i=A[i].2:=by unfold locA;rw[List.getD_eq_getElem?_getD,List.getElem?_eq_getElem hi'];rfl
 have e2:(A.map Prod.fst).reverse.getD ((A.map Prod.fst).reverse.length-1-i) []=A[i].1:=by
  rw[List.getD_eq_getElem?_getD,List.getElem?_reverse (by simp;omega)];have:(A.map Prod.fst).length-1-((A.map Prod.fst).reverse.length-1-i)=i:=by simp;omega
  rw[this,List.getElem?_map,List.getElem?_eq_getElem hi'];rfl
 rw[e1,e2];exact hA A (List.prefix_refl _) i hi'
def OpnC (ρ:Nat->Value)(w:World)(cs:List Value)(K:St->List V->Prop):Prop:=∀A,kU ρ w A->∃B e,kU ρ w (A++B)/\∀A',A++B<+:A'->RL (gA A') ρ e cs/\K (rosA A') e
def OpnV (ρ:Nat->Value)(w:World)(v:Value)(K:St->V->Prop):Prop:=∀A,kU ρ w A->∃B u,kU ρ w (A++B)/\∀A',A++B<+:A'->R (gA A') ρ u v/\K (rosA A') u
section
variable {ρ : Nat -> Value} {w : World}
theorem OpnC.mono {cs:List Value}{K K':St->List V->Prop}(h:OpnC ρ w cs K)(k:∀st e,K st e->K' st e):OpnC ρ w cs K':=fun A hA=>by
 obtain⟨B,e,h1,h2⟩:=h A hA;exact⟨B,e,h1,fun A' hp=>⟨(h2 A' hp).1,k _ _ (h2 A' hp).2⟩⟩
theorem OpnV.mono {v:Value}{K K':St->V->Prop}(h:OpnV ρ w v K)(k:∀st e,K st e->K' st e):OpnV ρ w v K':=fun A hA=>by
 obtain⟨B,e,h1,h2⟩:=h A hA;exact⟨B,e,h1,fun A' hp=>⟨(h2 A' hp).1,k _ _ (h2 A' hp).2⟩⟩
theorem OpnC.nil :OpnC ρ w [] fun _ e=>e=[]:=fun A hA=>⟨[],[],by simpa using hA,fun A' _=>⟨rfl,rfl⟩⟩
theorem OpnC.append {cs cs':List Value}{K K':St->List V->Prop}(h:OpnC ρ w cs K)(h':OpnC ρ w cs' K'):OpnC ρ w (cs++cs') fun st e=>∃a b,e=a++b/\K st a/\K' st b:=fun A hA=>by
 obtain⟨B,e,h1,h2⟩:=h A hA;obtain⟨B',e',h3,h4⟩:=h' _ h1;refine⟨B++B',e++e',by rw[<-List.append_assoc];exact h3,fun A' hp=> ?_⟩;rw[<-List.append_assoc]at hp;obtain⟨k1,k2⟩:=h2 A' ((List.prefix_append _ _).trans hp);obtain⟨k3,k4⟩:=h4 A' hp;exact⟨k1.append k3,_,_,rfl,k2,k4⟩
theorem OpnC.const {cs:List Value}{e:List V}(h:∀γ,RL γ ρ e cs):OpnC ρ w cs fun _ e'=>e'=e:=fun A hA=>⟨[],e,by simpa using hA,fun A' _=>⟨h _,rfl⟩⟩
theorem OpnC.one {v:Value}{K:St->List V->Prop}(h:OpnC ρ w [v] K):OpnV ρ w v fun st u=>K st [u]:=fun A hA=>by
 obtain⟨B,e,h1,h2⟩:=h A hA;have l:e.length=1:=by
  have:=(h2 _ (List.prefix_refl _)).1.length;simpa using this.symm
 match e,l with
 | [u],_=>
   refine⟨B,u,h1,fun A' hp=> ?_⟩;obtain⟨⟨y,ys,e,k1,_⟩,k2⟩:=h2 A' hp;injection e with e _;exact⟨e▸k1,k2⟩
theorem OpnV.cell {v:Value}{K:St->V->Prop}(h:OpnV ρ w v K):OpnC ρ w [v] fun st e=>∃u,e=[u]/\K st u:=fun A hA=>by
 obtain⟨B,u,h1,h2⟩:=h A hA;exact⟨B,[u],h1,fun A' hp=>⟨⟨_,_,rfl,(h2 A' hp).1,rfl⟩,_,rfl,(h2 A' hp).2⟩⟩
theorem OpnC.agg {cs:List Value}{K:St->List V->Prop}(h:OpnC ρ w cs K):OpnV ρ w (.agg cs.toArray) fun st u=>∃e,u= .agg e/\K st e:=fun A hA=>by
 obtain⟨B,e,h1,h2⟩:=h A hA;exact⟨B, .agg e,h1,fun A' hp=>⟨⟨_,rfl,(h2 A' hp).1⟩,_,rfl,(h2 A' hp).2⟩⟩
theorem OpnV.ints {v:Value}{zs:List Int}(h:IntsIn w v zs)(h0:0<w.heap.size):OpnV ρ w v fun st u=>qK st u zs:=fun A hA=>by
 obtain⟨lo,hb,hr,hu⟩:=Jnn h h0;obtain⟨u,u1,u2⟩:=hu (Pt.nth A.length);refine⟨[(zs.map (V.int .i64),lo)],u,hA.snoc hb fun A' _=>hr _ _,fun A' hp=> ?_⟩;have hl:A.length<(A++[(zs.map (V.int .i64),lo)]).length:=by simp
 have g1:=Jqz hp hl;have r1:=Jle hp hl;simp only[List.getElem_concat_length]at g1 r1;refine⟨u2 _ _ g1, ?_⟩;rcases u1 with u1|u1
 ·exact .inl u1
 ·exact .inr ⟨_,u1,r1⟩
theorem Jin {α:Type}{z:Nat}:∀{xs:List (List α)},(∀x∈xs,x.length=z)->∀k,k<xs.length*z->∃(h:k/z<xs.length),xs.flatten[k]? =(xs[k/z])[k%z]?
 |[],_,k,hk=>by simp at hk
 | x::r,hz,k,hk=>by
   have hx:=hz x (by simp);have z0:0<z:=by
    rcases Nat.eq_zero_or_pos z with h|h
    ·rw[h]at hk;simp at hk
    ·exact h
   rw[List.flatten_cons];by_cases c:k<z
   ·rw[List.getElem?_append_left (by omega)];have e1:k/z=0:=Nat.div_eq_of_lt c;have e2:k%z=k:=Nat.mod_eq_of_lt c;exact⟨by rw[e1];simp,by simp only[e1,e2,List.getElem_cons_zero]⟩
   ·have hk':k-z<r.length*z:=by
     rw[List.length_cons,Nat.succ_mul]at hk;omega
    obtain⟨h1,h2⟩:=Jin (xs:=r) (fun y hy=>hz y (List.mem_cons_of_mem _ hy)) (k-z) hk';rw[List.getElem?_append_right (by omega),hx,h2];have e1:k/z=(k-z)/z+1:=by
     have:=Nat.add_div_right (k-z) z0;rw[Nat.sub_add_cancel (by omega)]at this;exact this
    have e2:k%z=(k-z)%z:=by
     have:=Nat.add_mod_right (k-z) z;rw[Nat.sub_add_cancel (by omega)]at this;exact this
    exact⟨by rw[e1];simpa using h1,by simp only[e1,e2,List.getElem_cons_succ]⟩
theorem OpnC.many {α:Type}{z:Nat}{K:List V->St->α->Prop}:∀{xs:List (List Value)},(∀cs∈xs,∃r,OpnC ρ w cs fun st e=>e.length=z/\K e st r)->∃rs:List α,rs.length=xs.length/\OpnC ρ w xs.flatten fun st e=>∃es:List (List V),e=es.flatten/\(∀x∈es,x.length=z)/\es.length=rs.length/\∀i (h:i<es.length) (h':i<rs.length),K es[i] st rs[i]
 |[],_=>⟨[],rfl,OpnC.nil.mono fun st e h=>⟨[],h,by simp,rfl,fun i h=>absurd h (by simp)⟩⟩
 | cs::xs,hx=>by
   obtain⟨r,hr⟩:=hx cs (by simp);obtain⟨rs,hl,h⟩:=OpnC.many (xs:=xs) fun c hc=>hx c (List.mem_cons_of_mem _ hc);refine⟨r::rs,by simp[hl], ?_⟩;rw[List.flatten_cons];refine(hr.append h).mono fun st e ⟨a,b,h1,⟨h2,h3⟩,es,h4,h5,h6,h7⟩=>⟨a::es,by rw[h1,h4];rfl, ?_,by simp[h6], ?_⟩
   ·intro x hx;rcases List.mem_cons.1 hx with rfl|hx
    ·exact h2
    ·exact h5 x hx
   ·intro i hi hi'
    cases i with
    |zero=>exact h3
    |succ i=>exact h7 i (by simpa using hi) (by simpa using hi')
end
theorem OpnV.rows {α:Type}{z:Nat}(z0:0<z){ρ:Nat->Value}{w:World}(h0:0<w.heap.size){a:Addr}{len cap:Nat}(hl:len<=cap){xs:List (List Value)}(hx:xs.length=len)(hz:∀x∈xs,x.length=z)(hc:∀k,k<len*z->w.cell? (a.add k)=xs.flatten[k]?)(hcap:0<cap->∃v,w.cell? a=some v){K:List V->St->α->Prop}(hK:∀cs∈xs,∃r,OpnC ρ w cs fun st e=>e.length=z/\K e st r):
  ∃rs:List α,rs.length=len/\OpnV ρ w (.slice (some a) len cap) fun st u=>∃es,SlAt (fun _=>True) st u z es/\es.length=rs.length/\∀i (h:i<es.length) (h':i<rs.length),K es[i] st rs[i]:=by
 obtain⟨rs,hrl,hop⟩:=OpnC.many hK;refine⟨rs,by omega,fun A hA=> ?_⟩;obtain⟨B,e,h1,h2⟩:=hop A hA;have hel:e.length=len*z:=by
  have:=(h2 _ (List.prefix_refl _)).1.length;rw[<-this,<-hx];clear this h2 hop hK hc hx hrl
  induction xs with
  |nil=>simp
  | cons x r ih=>
    rw[List.flatten_cons,List.length_append,hz x (by simp),ih fun y hy=>hz y (List.mem_cons_of_mem _ hy),List.length_cons,Nat.succ_mul,Nat.add_comm]
 obtain⟨lo,hlo⟩:∃lo:Loc,lo=if cap=0 then⟨0,0,0⟩else⟨a.block,a.off,cap*z⟩:=⟨_,rfl⟩
 have hsp:0<cap->a=⟨a.block,a.off,none⟩:=fun hc0=>by
  obtain⟨v,hv⟩:=hcap hc0;have:=World.cell?_spot hv;obtain⟨b,o,s⟩:=a;simp only at this;subst this;rfl
 have hb:lo.b<w.heap.size:=by
  rw[hlo]
  split
  ·exact h0
  ·rename_i hc0
   obtain⟨v,hv⟩:=hcap (by omega);rw[hsp (by omega)]at hv;obtain⟨arr,elem,fz,e1,_⟩:=Y9 hv;exact(Array.getElem?_eq_some_iff.1 e1).1
 refine⟨B++[(e,lo)], .sl (Pt.nth (A++B).length) 0 len z, ?_,fun A' hp=> ?_⟩
 ·rw[<-List.append_assoc];refine h1.snoc hb fun A' hp i v hi=> ?_;obtain⟨x,hx1,hx2⟩:=(h2 A' ((List.prefix_append _ _).trans hp)).1.get hi;have hil:i<len*z:=by
   have:=(List.getElem?_eq_some_iff.1 hi).1;omega
  have hc0:cap≠0:=fun e=>by
   have:len=0:=by omega
   rw[this,Nat.zero_mul]at hil;omega
  have hcell:=hc i hil;rw[hx1,hsp (by omega)]at hcell;have hadd:(⟨a.block,a.off,none⟩:Addr).add i=⟨a.block,a.off+i,none⟩:=by
   unfold Addr.add
   split
   ·rename_i e;subst e;rfl
   ·rfl
  rw[hadd]at hcell;obtain⟨arr,elem,fz,e1,e2⟩:=Y9 hcell;refine⟨arr,elem,fz,x, ?_, ?_,hx2⟩
  ·rw[hlo,if_neg hc0];exact e1
  ·rw[hlo,if_neg hc0];exact e2
 ·rw[<-List.append_assoc]at hp;have hl':(A++B).length<((A++B)++[(e,lo)]).length:=by simp
  have g1:=Jqz hp hl';have r1:=Jle hp hl';simp only[List.getElem_concat_length]at g1 r1;obtain⟨_,es,k1,k2,k3,k4⟩:=h2 A' ((List.prefix_append _ _).trans hp);have el:es.length=len:=by omega
  refine⟨⟨lo,a,cap,g1,rfl,hl,fun hc0=> ?_, ?_⟩,es,⟨k2, .inr ⟨_,0,trivial, .inl (by rw[el]),e, .inr r1,by rw[hel,el];omega, ?_⟩⟩,k3,k4⟩
  ·rw[hlo,if_neg hc0];exact hsp (by omega)
  ·rw[hlo]
   split
   ·rename_i hc0
    simp[hc0]
   ·simp
  ·rw[k1,List.drop_zero,List.take_of_length_le (by rw[<-k1,hel,el];omega)]
theorem Jc1 :∀zs:List Int,(qc zs).flatten=zs.map (V.int .i64)
 |[]=>rfl
 | z::zs=>by
   have:=Jc1 zs;unfold qc at this⊢;rw[List.map_cons,List.flatten_cons,this];rfl
def QU (P:Pt->Prop)(st:St)(u:V)(rs:List Rw):Prop:=∃es,SlAt P st u 4 es/\es.length=rs.length/\rs.length<2^63/\∀i (h:i<es.length) (h':i<rs.length),RwC P st es[i] rs[i]
section
variable {H : Type} {enc : TypeId × Value -> H} {P : Program} {W : World} {ρ : Nat -> Value}
theorem Jpq {t e:TypeId}{fuel:Nat}{cs:List Value}{x:DataW H×List MemPlace}(ht:P.underlying t=some (.slice e))(he:P.underlying e=some (.int .i64))(hc:P.cellsOf e=1)
  (hf:DataW.trod enc P W 0 (fun _=>true) true fuel t cs=some x):
  ∃(v:Value) (zs:List Int),cs=[v]/\IntsIn W v zs/\(∀z∈zs,In64 z)/\zs.length<=maxLen:=by
 rcases open_ints ht he hc hf with⟨h1,_⟩|⟨a',len',cap',zs,h1,_,h2,h3,h4,_,h5,h6⟩
 ·exact⟨_,[],h1, .inl ⟨rfl,rfl⟩,by simp,Nat.zero_le _⟩
 ·have h4:zs.length=cap':=by simpa using h4
  refine⟨_,zs.take len',h1, ?_,fun z hz=> ?_,by rw[List.length_take];omega⟩
  ·have hl:(zs.take len').length=len':=by rw[List.length_take];omega
   by_cases h0:cap'=0
   ·have:len'=0:=by omega
    subst this;subst h0;exact .inr (.inl ⟨a',rfl,by simp⟩)
   ·right;right;have c0:=h5 0 (by omega);have hsp:(a'.add 0).spot=none:=World.cell?_spot c0;obtain⟨b,off,spot⟩:=a';have hsp:spot=none:=by simpa[Addr.add]using hsp
    subst hsp;have hadd:∀i,(⟨b,off,none⟩:Addr).add i=⟨b,off+i,none⟩:=fun i=>by
     unfold Addr.add
     split
     ·rename_i e;subst e;rfl
     ·rfl
    refine⟨b,off,cap',by rw[hl],by omega, ?_,fun i hi=> ?_⟩
    ·obtain⟨arr,elem,fz,e1,_⟩:=Y9 (by rw[hadd]at c0;exact c0);exact(Array.getElem?_eq_some_iff.1 e1).1
    ·have:=h5 i (by omega);rw[hadd]at this;rw[this,List.getElem_take,List.getD_eq_getElem?_getD,List.getElem?_eq_getElem (by omega)];rfl
  ·have:=h6 z (List.mem_of_mem_take hz);have: -9223372036854775808<=z/\z<=9223372036854775807:=by simpa[Lit.wf,IntKind.min,IntKind.max,IntKind.bits,IntKind.signed]using this
   exact⟨this.1,by omega⟩
theorem Jat {n:Nat}(h:n<=maxLen):n<2^63:=by
 have:maxLen=2^63-1:=rfl;omega
theorem Jcl (a:Addr)(i j:Nat):(a.add i).add j=a.add (i+j):=by
 unfold Addr.add;by_cases hi:i=0<;>by_cases hj:j=0<;>simp[hi,hj,Nat.add_assoc]
structure Jlf (P:Program) (t ti ts tk:TypeId):Prop where
 raw:∃f0 f1 f2 f3:Field,P.underlying t=some (.struct #[f0,f1,f2,f3])/\(f0.type=ti/\f0.offset=0)/\(f1.type=ti/\f1.offset=1)/\(f2.type=ts/\f2.offset=2)/\(f3.type=tk/\f3.offset=3)
 int:P.underlying ti=some (.int .i64)
 ints:P.underlying ts=some (.slice ti)
 kids:P.underlying tk=some (.slice t)
 ct:P.cellsOf t=4
 ci:P.cellsOf ti=1
 cs:P.cellsOf ts=1
 ck:P.cellsOf tk=1
theorem JjG {t te:TypeId}{z:Nat}(z0:0<z)(ht:P.underlying t=some (.slice te))(hz:P.cellsOf te=z)(h0:0<W.heap.size){fuel:Nat}{α:Type}{K:List V->St->α->Prop}
  (hK:∀{cs:List Value} {x:DataW H×List MemPlace},DataW.trod enc P W 0 (fun _=>true) true fuel te cs=some x->cs.length=z/\∃r,OpnC ρ W cs fun st e=>e.length=z/\K e st r)
  {cs:List Value} {x:DataW H×List MemPlace} (h:DataW.trod enc P W 0 (fun _=>true) true (fuel+1) t cs=some x):
  ∃(v:Value) (rs:List α),cs=[v]/\OpnV ρ W v fun st u=>∃es,SlAt (fun _=>True) st u z es/\es.length=rs.length/\rs.length<=maxLen/\∀i (h:i<es.length) (h':i<rs.length),K es[i] st rs[i]:=by
 rcases DataW.trod_slice ht h with⟨h1,_⟩|⟨a,len,cap,elems,rest,n,hn,h1,_,hb,hl,hm,hlen,hel,hsp,_⟩
 ·refine⟨_,[],h1,fun A hA=>⟨[], .snil,by simpa using hA,fun A' _=>⟨rfl,[],SlAt.nil _ _ _,rfl,Nat.zero_le _,fun i h=>absurd h (by simp)⟩⟩⟩
 ·injection hn with hn;subst hn;obtain⟨hrl,hr⟩:=hsp rfl;rw[hz]at hel hr;have each:∀i,i<len->∃cs',W.cells? 0 (a.add (i*z)) z=some cs'/\∃y,DataW.trod enc P W 0 (fun _=>true) true fuel te cs'=some y:=fun i hi=>by
   have:=hel i hi;rw[List.getElem?_eq_getElem (by omega),Option.bind_eq_some_iff]at this;obtain⟨cs',k1,k2⟩:=this;exact⟨cs',k1,_,k2⟩
  have ex:∀i,∃cs':List Value,i<len->W.cells? 0 (a.add (i*z)) z=some cs'/\∃y,DataW.trod enc P W 0 (fun _=>true) true fuel te cs'=some y:=fun i=>by
   by_cases hi:i<len
   ·obtain⟨cs',h⟩:=each i hi;exact⟨cs',fun _=>h⟩
   ·exact⟨[],fun h=>absurd h hi⟩
  obtain⟨F,hF⟩:=Classical.axiomOfChoice ex;have hxs:∀cs∈(List.range len).map F,cs.length=z/\∃r,OpnC ρ W cs fun st e=>e.length=z/\K e st r:=fun cs hcs=>by
   obtain⟨i,hi,rfl⟩:=List.mem_map.1 hcs;obtain⟨k1,y,k2⟩:=hF i (List.mem_range.1 hi);exact hK k2
  have key:=OpnV.rows (ρ:=ρ) z0 (K:=K) h0 hl (a:=a) (xs:=(List.range len).map F) (by simp) (fun x hx=>(hxs x hx).1) ?hcell ?hcap fun cs hcs=>(hxs cs hcs).2
  ·obtain⟨rs,hrs,ho⟩:=key;refine⟨_,rs,h1,ho.mono fun st u ⟨es,k1,k2,k3⟩=>⟨es,k1,k2,by omega,k3⟩⟩
  ·intro k hk;obtain⟨hq,e⟩:=Jin (xs:=(List.range len).map F) (fun x hx=>(hxs x hx).1) k (by simpa using hk);rw[e];have hq':k/z<len:=by simpa using hq
   have:=(hF (k/z) hq').1;obtain⟨_,_,k3⟩:=World.cells?_some this;have:=k3 (k%z) (Nat.mod_lt _ z0);rw[Jcl,show k/z*z+k%z=k by rw[Nat.mul_comm];exact Nat.div_add_mod k z]at this;rw[this];simp
  ·intro hc;by_cases c:0<len
   ·obtain⟨k1,_⟩:=hF 0 c;obtain⟨_,k2,k3⟩:=World.cells?_some k1;have:=k3 0 z0;rw[Jcl]at this;simp only[Nat.zero_mul,Nat.add_zero]at this;have e0:a.add 0=a:=by unfold Addr.add;simp
    rw[e0]at this;exact⟨_,by rw[this,List.getElem?_eq_getElem (by omega)]⟩
   ·have:=hr 0 (by omega);rw[List.getElem?_eq_getElem (by omega),Option.bind_eq_some_iff]at this;obtain⟨cs',k1,_⟩:=this;obtain⟨_,k2,k3⟩:=World.cells?_some k1;have:=k3 0 z0;rw[Jcl,show(len+0)*z+0=0 by rw[show len=0 by omega];simp]at this;have e0:a.add 0=a:=by unfold Addr.add;simp
    rw[e0]at this;exact⟨_,by rw[this,List.getElem?_eq_getElem (by omega)]⟩
theorem Jlg {t ti ts tk:TypeId}(hT:Jlf P t ti ts tk)(h0:0<W.heap.size):∀(fuel:Nat),
  (∀{cs:List Value} {x:DataW H×List MemPlace},DataW.trod enc P W 0 (fun _=>true) true fuel t cs=some x->cs.length=4/\∃r,OpnC ρ W cs fun st e=>RwC (fun _=>True) st e r)/\
  (∀{cs:List Value} {x:DataW H×List MemPlace},DataW.trod enc P W 0 (fun _=>true) true fuel tk cs=some x->∃v rs,cs=[v]/\OpnV ρ W v fun st u=>QU (fun _=>True) st u rs):=by
 intro fuel
 induction fuel with
 |zero=>exact⟨fun h=>by simp[DataW.trod]at h,fun h=>by simp[DataW.trod]at h⟩
 | succ fuel ih=>
   refine⟨fun{cs x} h=> ?_,fun{cs x} h=> ?_⟩
   ·obtain⟨g0,g1,g2,g3,hraw,⟨t0,o0⟩,⟨t1,o1⟩,⟨t2,o2⟩,⟨t3,o3'⟩⟩:=hT.raw;obtain⟨xs,n,hn,_,hl,hxl,hf⟩:=DataW.trod_struct hraw h;injection hn with hn;subst hn;rw[hT.ct]at hl;refine⟨hl, ?_⟩
    match cs,hl with
    | [c0,c1,c2,c3],_=>
      have hx4:xs.length=4:=hxl
      match xs,hx4 with
      | [x0,x1,x2,x3],_=>
        have f0:=hf 0 g0 rfl;have f1:=hf 1 g1 rfl;have f2:=hf 2 g2 rfl;have f3:=hf 3 g3 rfl;rw[t0,o0,hT.ci]at f0;rw[t1,o1,hT.ci]at f1;rw[t2,o2,hT.cs]at f2;rw[t3,o3',hT.ck]at f3;obtain⟨k,e0,_,w0⟩:=DataW.trod_int hT.int f0;obtain⟨m,e1,_,w1⟩:=DataW.trod_int hT.int f1;obtain⟨v2,zs,e2,i2,b2,l2⟩:=Jpq hT.ints hT.int hT.ci f2;obtain⟨v3,rs,e3,o3⟩:=ih.2 f3;injection e0 with e0;injection e1 with e1;injection e2 with e2;injection e3 with e3;subst e0;subst e1;subst e2;subst e3;have bnd:∀{z:Int},(Lit.int .i64 z).wf=true->In64 z:=fun{z} h=>by
         have: -9223372036854775808<=z/\z<=9223372036854775807:=by simpa[Lit.wf,IntKind.min,IntKind.max,IntKind.bits,IntKind.signed]using h
         exact⟨this.1,by omega⟩
        refine⟨.mk k m zs rs, ?_⟩;have oc:OpnC ρ W [.int .i64 k, .int .i64 m] fun _ e=>e=[.int .i64 k, .int .i64 m]:=OpnC.const fun γ=>⟨_,_,rfl,rfl,_,_,rfl,rfl,rfl⟩
        refine((oc.append (OpnV.ints i2 h0).cell).append o3.cell).mono fun st e ⟨a,b,h1,⟨a1,a2,h2,h3,u2,h4,h5⟩,u3,h6,es,h7,h8,h9,h10⟩=> ?_;rw[h1,h2,h3,h4,h6];refine .mk (bnd w0) (bnd w1) b2 ?_ h7 h8 ⟨Jat l2,h9⟩ h10;rcases h5 with⟨rfl,rfl⟩|⟨r,rfl,hr⟩
        ·exact SlAt.nil _ _ _
        ·refine⟨fun e he=> ?_, .inr ⟨r,0,trivial, .inl (by rw[Qe]),_, .inr hr,by rw[Qe];simp, ?_⟩⟩
         ·obtain⟨z,_,rfl⟩:=List.mem_map.1 he;rfl
         ·rw[Qe,List.drop_zero,List.take_of_length_le (by simp),Jc1]
   ·obtain⟨v,rs,h1,h2⟩:=JjG (ρ:=ρ) (z:=4) (by decide) hT.kids hT.ct h0 (K:=fun e st r=>RwC (fun _=>True) st e r) (fun{cs x} k=>by
     obtain⟨k3,r,k4⟩:=ih.1 k;exact⟨k3,r,k4.mono fun st e h=>⟨h.len,h⟩⟩) h
    exact⟨v,rs,h1,h2.mono fun st u ⟨es,k1,k2,k3,k4⟩=>⟨es,k1,k2,Jat k3,k4⟩⟩
theorem Jrl {t ti ts tk:TypeId}(hT:Jlf P t ti ts tk)(h0:0<W.heap.size){r:Reach}{b0:Nat}{v:Value}{d:DataW H}{p:List MemPlace}(hval:Value.okWide P W r b0 t v)(h:DataW.Trod enc P W 0 (fun _=>true) true t v d p):
  ∃q:Rw,OpnV ρ W v fun st u=>∃e,u= .agg e/\RwC (fun _=>True) st e q:=by
 obtain⟨_,_,_,_,hraw,_⟩:=hT.raw;obtain⟨arr,rfl,_⟩:=WideShapes.okWide_struct hraw hval;obtain⟨fuel,hf⟩:=h;obtain⟨_,q,h1⟩:=(Jlg (ρ:=ρ) hT h0 fuel).1 hf;refine⟨q, ?_⟩;have:=h1.agg;simpa[Value.cells]using this
theorem Jpr {t ti ts tk:TypeId}(hT:Jlf P t ti ts tk)(h0:0<W.heap.size){r:Reach}{b0:Nat}{v:Value}{d:DataW H}{p:List MemPlace}(hval:Value.okWide P W r b0 tk v)(h:DataW.Trod enc P W 0 (fun _=>true) true tk v d p):
  ∃qs:List Rw,OpnV ρ W v fun st u=>QU (fun _=>True) st u qs:=by
 obtain⟨a,len,cap,rfl⟩:=WideShapes.okWide_slice hT.kids hval;obtain⟨fuel,hf⟩:=h;obtain⟨v',qs,h1,h2⟩:=(Jlg (ρ:=ρ) hT h0 fuel).2 hf;have hcs:(Value.slice a len cap).cells.toList=[.slice a len cap]:=by simp[Value.cells]
 rw[hcs]at h1;injection h1 with h1;exact⟨qs,by rw[h1];exact h2⟩
end
end Eva
namespace Eva
open Go Go.RowKit
theorem QU.imp {P Q:Pt->Prop}{st st':St}{v:V}{qs:List Rw}(h:QU P st v qs)(k:∀r,P r->st.row r≠ .none->Q r/\st'.row r=st.row r):QU Q st' v qs:=by
 obtain⟨es,h1,h2,h3,h4⟩:=h;exact⟨es,h1.imp k,h2,h3,fun i a b=>(h4 i a b).imp k⟩
theorem QU.gr {P:Pt->Prop}{st st':St}{v:V}{qs:List Rw}(h:QU P st v qs)(g:Gr st st'):QU P st' v qs:=h.imp fun r p e=>⟨p,g.same r e⟩
theorem QU.len {P:Pt->Prop}{st:St}{v:V}{qs:List Rw}(h:QU P st v qs):Kf v=some (.int .i64 qs.length, .no)/\v.sc=true/\v.cells=some [v]/\qs.length<2^63:=by
 obtain⟨es,h1,h2,h3,h4⟩:=h;exact⟨by rw[h1.len,h2],h1.sc,h1.cells,h3⟩
theorem QU.elem {P:Pt->Prop}{st:St}{v:V}{qs:List Rw}(h:QU P st v qs){i:Nat}(hi:i<qs.length):
  ∃r o kv nv,JJ 4 v (.int .i64 i)=some (.ptr r o, .no)/\st.row r≠ .none/\ldn (st.row r) o 4=some (.agg [.int .i64 qs[i].kind, .int .i64 qs[i].n,nv,kv], .no)/\RwC P st [.int .i64 qs[i].kind, .int .i64 qs[i].n,nv,kv] qs[i]/\ld1 (st.row r) (o+3)=some (kv, .no)/\∃es,SlAt P st kv 4 es/\es.length=qs[i].kids.length/\qs[i].kids.length<2^63/\∀j (h:j<es.length) (h':j<qs[i].kids.length),RwC P st es[j] qs[i].kids[j]:=by
 obtain⟨es,h1,h2,h3,h4⟩:=h;obtain⟨r,o,a1,a2,a3,a4,a5⟩:=h1.elem (i:=i) (by omega);have h5:=h4 i (by omega) hi;have h6:=h5;obtain⟨nv,kv,xs,he,hk,hn,hz,b1,b2,b3,⟨b4,b5⟩,b6⟩:=h5.inv;rw[he]at a4 h6;have a6:=a5 3 (by rw[he];exact(by decide:3<4));simp only[he]at a6;exact⟨r,o,kv,nv,a1,a3,a4,h6,a6,xs,b2,b3,b5,b6⟩
def Yz :List Str:=[[65],[66,101,101],[67,97,116],[68,111,103]]
def Jc2 :List Str:=[[102,97],[102,98],[102,99],[102,100]]
def typesOf (nms:List Str)(ts:List Rw):List (Str×Ty):=(nms.zip ts).map fun p=>(p.1,JB nms 5 p.2)
def Y1 (nms:List Str)(r:Rw):List Ty:=(r.kids.take 3).map (JB nms 4)
def qg (nms:List Str)(ss:List Rw):List Sg:=(Jc2.zip ss).map fun p=>⟨p.1,Y1 nms p.2,JB nms 4 p.2⟩
def qi (m:Rw)(ts ss:List Rw):Sch:=⟨JB (Yz.take ts.length) 6 m,typesOf (Yz.take ts.length) ts,qg (Yz.take ts.length) ss⟩
theorem Jio (nms:List Str)(ts:List Rw)(h:nms.length<=ts.length):(typesOf nms ts).length=nms.length:=by unfold typesOf;simp;omega
theorem Jip (nms:List Str)(ts:List Rw)(i:Nat)(h1:i<nms.length)(h2:i<ts.length)(h:i<(typesOf nms ts).length):(typesOf nms ts)[i]=(nms[i],JB nms 5 ts[i]):=by simp only[typesOf,List.getElem_map,List.getElem_zip]
theorem JjH (nms:List Str)(ss:List Rw)(i:Nat)(h1:i<Jc2.length)(h2:i<ss.length)(h:i<(qg nms ss).length):(qg nms ss)[i]=⟨Jc2[i],Y1 nms ss[i],JB nms 4 ss[i]⟩:=by simp only[qg,List.getElem_map,List.getElem_zip]
theorem JjI (nms:List Str)(ss:List Rw):(qg nms ss).length=min 4 ss.length:=by unfold qg;simp[Jc2]
theorem JgF (nms:List Str)(r:Rw):(Y1 nms r).length=min 3 r.kids.length:=by unfold Y1;simp
theorem JgG (nms:List Str)(r:Rw)(i:Nat)(h2:i<r.kids.length)(h:i<(Y1 nms r).length):(Y1 nms r)[i]=JB nms 4 r.kids[i]:=by simp only[Y1,List.getElem_map,List.getElem_take]
structure LsF {α:Type} (C:(Pt->Prop)->St->List V->α->Prop) (st S1:St) (B:Pt->Prop) (z:Nat) (S:St) (v:V) (l:List α):Prop where
 g:Gr st S
 keep:∀r,S1.row r≠ .none->¬B r->S.row r=S1.row r
 live:∀r,S1.row r≠ .none->S.row r≠ .none
 own:∀r,rowOf v=some r->S1.row r= .none
 es:∃es,SlF st S v z es/\es.length=l.length/\∀i (h:i<es.length) (h':i<l.length),C (fun r=>¬B r/\rowOf v≠some r) S es[i] l[i]
section
variable {α : Type} {C : (Pt -> Prop) -> St -> List V -> α -> Prop} {st S1 S S' : St} {B : Pt -> Prop} {z : Nat} {v : V} {l : List α}
theorem LsF.nil (h:Gr st S1):LsF C st S1 B z S1 .snil []:=⟨h,fun r _ _=>rfl,fun r e=>e,fun r e=>(by cases e),⟨[],SlF.nil _ _ _,rfl,fun i h=>absurd h (by simp)⟩⟩
theorem LsF.gr (hC:∀{P Q:Pt->Prop} {st st':St} {e:List V} {x:α},C P st e x->(∀r,P r->st.row r≠ .none->Q r/\st'.row r=st.row r)->C Q st' e x)(h:LsF C st S1 B z S v l)(g:Gr S S'):LsF C st S1 B z S' v l:=by
 obtain⟨es,h1,h2,h3⟩:=h.es;exact⟨h.g.trans g,fun r e n=>by rw[g.same r (h.live r e)];exact h.keep r e n,fun r e=>by rw[g.same r (h.live r e)];exact h.live r e,h.own,es,h1.gr g,h2,fun i a b=>hC (h3 i a b) fun r p e=>⟨p,g.same r e⟩⟩
theorem LsF.alive (h:LsF C st S1 B z S v l){r:Pt}(hr:rowOf v=some r):S.row r≠ .none:=by
 obtain⟨es,h1,_⟩:=h.es;exact h1.some hr
theorem LsF.sc (h:LsF C st S1 B z S v l):v.sc=true/\v.cells=some [v]:=by
 obtain⟨es,h1,_⟩:=h.es;exact⟨h1.at.sc,h1.at.cells⟩
theorem LsF.wr (hC:∀{P Q:Pt->Prop} {st st':St} {e:List V} {x:α},C P st e x->(∀r,P r->st.row r≠ .none->Q r/\st'.row r=st.row r)->C Q st' e x)(h:LsF C st S1 B z S v l){p:Pt}{t:Nat}{c:List V}{c':List V}(hp:B p)(h0:st.row p= .none)(h1:S1.row p≠ .none)(e:S.row p= .cells t c):LsF C st S1 B z (S.wr p t fun u=> .cells u c') v l:=by
 have ne:∀r,¬B r->r≠p:=fun r n k=>n (by rw[k];exact hp);obtain⟨es,h2,h3,h4⟩:=h.es;refine⟨h.g.wr h0 (Jc e) (by rw[e];rfl) (Ja _),fun r a n=>by rw[Jl _ _ _ (ne r n)];exact h.keep r a n,fun r a=> ?_,h.own,es,h2.keep fun r hr=>Jl _ _ _ fun k=> ?_,h3,fun i a b=>hC (h4 i a b) fun r q _=>⟨q,Jl _ _ _ (ne r q.1)⟩⟩
 ·by_cases k:r=p
  ·rw[k,Jm];exact fun e=>by cases e
  ·rw[Jl _ _ _ k];exact h.live r a
 ·exact h1 (by rw[<-k];exact h.own r hr)
theorem JgH (hC:∀{P Q:Pt->Prop} {st st':St} {e:List V} {x:α},C P st e x->(∀r,P r->st.row r≠ .none->Q r/\st'.row r=st.row r)->C Q st' e x)(h:LsF C st S1 B z S v l){P:Pt->Prop}{vx:V}{e:List V}{x:α}(hx:SlAt P S vx z [e])(hok:Km e=true)(hc:C (fun r=>¬B r/\rowOf v≠some r) S e x)(hB:∀r,B r->S1.row r≠ .none)(hn:l.length<1000){R:V->St->Prop}
  (k:∀S' v',LsF C st S1 B z S' v' (l++[x])->(∀p,S.row p≠ .none->rowOf v≠some p->S'.row p=S.row p)->R v' S'):wW (appV S z v vx) S R:=by
 obtain⟨es,h1,h2,h3⟩:=h.es;refine jh h.g h1 hx (fun a ha=>by rw[List.mem_singleton.1 ha];exact hok) (by simp) (by simp;omega) fun S' v' g s r kp=>k S' v' ?_ kp;have hw:=h.g.wf;have key:∀r,S.row r≠ .none->rowOf v≠some r->rowOf v'≠some r:=fun q a b c=>by
  rcases r with e|e
  ·exact b (by rw[<-e];exact c)
  ·rw[e]at c;injection c with c;rw[<-c]at a;exact a (Kj hw)
 have sub:∀{e:List V} {y:α},C (fun r=>¬B r/\rowOf v≠some r) S e y->C (fun r=>¬B r/\rowOf v'≠some r) S' e y:=fun h=>hC h fun r p e=>⟨⟨p.1,key r e p.2⟩,kp r e p.2⟩
 refine⟨g,fun r a n=> ?_,fun r a=> ?_,fun q hq=> ?_,es++[e],s,by simp[h2],fun i a b=> ?_⟩
 ·rw[kp r (h.live r a) fun e=>a (h.own r e)];exact h.keep r a n
 ·rw[kp r (h.live r a) fun e=>a (h.own r e)];exact h.live r a
 ·rcases r with e|e
  ·exact h.own q (by rw[<-e];exact hq)
  ·rw[e]at hq;injection hq with hq;apply Classical.byContradiction;intro n;exact h.live q n (by rw[<-hq];exact Kj hw)
 ·by_cases hi:i<es.length
  ·rw[List.getElem_append_left hi,List.getElem_append_left (by omega)];exact sub (h3 i hi (by omega))
  ·have hl:(es++[e]).length=es.length+1:=by simp
   have hi2:i=es.length:=by omega
   subst hi2;have e1:(es++[e])[es.length]=e:=by simp
   have e2:(l++[x])[es.length]=x:=by simp[h2]
   rw[e1,e2];exact sub hc
theorem Jps {S0:St}{es:List (List V)}{P:Pt->Prop}(h:SlF S0 st v z es)(k:∀r,rowOf v=some r->P r):SlAt P st v z es:=by
 refine⟨h.1, ?_⟩;rcases h.2 with h2|⟨r,t,h2,h3,h4⟩
 ·exact .inl h2
 ·have hr:rowOf v=some r:=by rcases h4 with h4|h4<;>rw[h4]<;>rfl
  refine .inr ⟨r,0,k r hr, ?_,es.flatten, .inl ⟨t,h3⟩,by rw[JF h.1];omega,by rw[List.drop_zero,<-JF h.1,List.take_length]⟩;rcases h4 with h4|h4
  ·exact .inl h4
  ·exact .inr ⟨_,Nat.le_refl _,h4⟩
theorem LsF.lst (hC:∀{P Q:Pt->Prop} {st st':St} {e:List V} {x:α},C P st e x->(∀r,P r->st.row r≠ .none->Q r/\st'.row r=st.row r)->C Q st' e x)(h:LsF C st S1 B z S v l)(hB:∀r,B r->S1.row r≠ .none):LstAt (C (fun r=>¬B r) S) (fun r=>¬B r) S v z l:=by
 obtain⟨es,h1,h2,h3⟩:=h.es;exact⟨es,Jps h1 fun r hr b=>hB r b (h.own r hr),h2,fun i a b=>hC (h3 i a b) fun r p _=>⟨p.1,rfl⟩⟩
end
def OwnS (st:St)(tv sv:V)(r:Pt):Prop:=st.row r= .none/\rowOf tv≠some r/\rowOf sv≠some r
def SgT (tv:V)(P:Pt->Prop)(st:St)(e:List V)(x:Sg):Prop:=SgC (fun r=>P r/\rowOf tv≠some r) st e x
theorem SgT.imp {tv:V}{P Q:Pt->Prop}{st st':St}{e:List V}{x:Sg}(h:SgT tv P st e x)(k:∀r,P r->st.row r≠ .none->Q r/\st'.row r=st.row r):SgT tv Q st' e x:=SgC.imp h fun r p e=>⟨⟨(k r p.1 e).1,p.2⟩,(k r p.1 e).2⟩
structure SchF (st S:St) (c:List V) (tv sv:V) (s:Sch):Prop where
 main:TyC (OwnS st tv sv) S c s.main
 types:∃es,SlF st S tv 5 es/\es.length=s.types.length/\∀i (h:i<es.length) (h':i<s.types.length),NmC (OwnS st tv sv) S es[i] s.types[i]
 sigs:∃es,SlF st S sv 6 es/\es.length=s.sigs.length/\∀i (h:i<es.length) (h':i<s.sigs.length),SgC (OwnS st tv sv) S es[i] s.sigs[i]
 apart:∀r,rowOf tv=some r->rowOf sv≠some r
theorem SchF.c {st S:St}{c:List V}{tv sv:V}{s:Sch}(h:SchF st S c tv sv s):SchC (fun r=>st.row r= .none) S (c++[tv,sv]) s:=by
 obtain⟨m,⟨es,t1,t2,t3⟩,⟨gs,g1,g2,g3⟩,_⟩:=h;exact⟨c,tv,sv,rfl,m.imp fun r p _=>⟨p.1,rfl⟩,⟨es,t1.at,t2,fun i a b=>(t3 i a b).imp fun r p _=>⟨p.1,rfl⟩⟩,⟨gs,g1.at,g2,fun i a b=>(g3 i a b).imp fun r p _=>⟨p.1,rfl⟩⟩⟩
section
variable {H : Type} {enc : TypeId × Value -> H} {P : Program} {W : World} {ρ : Nat -> Value}
structure TyTy (P:Program) (t ti tr tn tk:TypeId):Prop where
 ty:∃f0 f1 f2 f3:Field,P.underlying t=some (.struct #[f0,f1,f2,f3])/\(f0.type=ti/\f0.offset=0)/\(f1.type=tr/\f1.offset=1)/\(f2.type=tn/\f2.offset=2)/\(f3.type=tk/\f3.offset=3)
 int:P.underlying ti=some (.int .i64)
 str:P.underlying tr=some .string
 names:P.underlying tn=some (.slice tr)
 kids:P.underlying tk=some (.slice t)
 ct:P.cellsOf t=4
 ci:P.cellsOf ti=1
 cr:P.cellsOf tr=1
 cn:P.cellsOf tn=1
 ck:P.cellsOf tk=1
structure JsJ (P:Program) (ts tts tgs tnm tsg:TypeId) (t ti tr tn tk:TypeId):Prop where
 ty:TyTy P t ti tr tn tk
 sch:∃f0 f1 f2:Field,P.underlying ts=some (.struct #[f0,f1,f2])/\(f0.type=t/\f0.offset=0)/\(f1.type=tts/\f1.offset=4)/\(f2.type=tgs/\f2.offset=5)
 nm:∃f0 f1:Field,P.underlying tnm=some (.struct #[f0,f1])/\(f0.type=tr/\f0.offset=0)/\(f1.type=t/\f1.offset=1)
 sg:∃f0 f1 f2:Field,P.underlying tsg=some (.struct #[f0,f1,f2])/\(f0.type=tr/\f0.offset=0)/\(f1.type=tk/\f1.offset=1)/\(f2.type=t/\f2.offset=2)
 types:P.underlying tts=some (.slice tnm)
 sigs:P.underlying tgs=some (.slice tsg)
 c6:P.cellsOf ts=6
 cts:P.cellsOf tts=1
 cgs:P.cellsOf tgs=1
 c5:P.cellsOf tnm=5
 cs6:P.cellsOf tsg=6
end
theorem Jiq {e R vs:List V}{off:Nat}(h:off+vs.length<=e.length):JI (e++R) off vs=JI e off vs++R:=by
 rw[KL,KL,List.take_append_of_le_length (by omega),List.drop_append_of_le_length h];simp only[List.append_assoc]
theorem JgI {e R vs:List V}{m:Nat}:JI (e++R) (e.length+m) vs=e++JI R m vs:=by
 rw[KL,KL,List.take_append,List.drop_append,List.take_of_length_le (by omega),List.drop_eq_nil_of_le (by omega)];rw[show e.length+m-e.length=m by omega,show e.length+m+vs.length-e.length=m+vs.length by omega];simp
theorem Jir {z:Nat}:∀{es:List (List V)},(∀e∈es,e.length=z)->∀{k:Nat} (hk:k<es.length) {off:Nat} {vs:List V},off+vs.length<=z->JI es.flatten (k*z+off) vs=(es.set k (JI es[k] off vs)).flatten
 |[],_,k,hk,_,_,_=>absurd hk (by simp)
 | e::r,hz,k,hk,off,vs,ho=>by
   have he:=hz e (by simp);rw[List.flatten_cons]
   cases k with
   | zero=>
     rw[Nat.zero_mul,Nat.zero_add,Jiq (by omega)];rfl
   | succ k=>
     have ih:=Jir (es:=r) (fun x hx=>hz x (List.mem_cons_of_mem _ hx)) (k:=k) (by simpa using hk) ho;rw[show(k+1)*z+off=e.length+(k*z+off) by rw[Nat.succ_mul,he];omega,JgI,ih];rfl
theorem Jpt {S0 S:St}{v:V}{z:Nat}{es:List (List V)}(h:SlF S0 S v z es){k:Nat}(hk:k<es.length):
  ∃r t,rowOf v=some r/\S0.row r= .none/\S.row r= .cells t es.flatten/\JJ z v (.int .i64 (k:Int))=some (.ptr r (k*z), .no)/\es[k].length=z/\
   ∀(S':St) (t' off:Nat) (vs:List V),off+vs.length<=z->S'.row r= .cells t' (JI es.flatten (k*z+off) vs)->SlF S0 S' v z (es.set k (JI es[k] off vs)):=by
 have hz:=h.1;rcases h.2 with⟨_,rfl⟩|⟨r,t,h1,h2,h3⟩
 ·exact absurd hk (by simp)
 refine⟨r,t, ?_,h1,h2, ?_,hz _ (List.getElem_mem hk),fun S' t' off vs ho hr=>⟨fun e he=> ?_, .inr ⟨r,t',h1, ?_, ?_⟩⟩⟩
 ·rcases h3 with rfl|rfl<;>rfl
 ·rcases h3 with rfl|rfl
  ·rw[YH,if_pos (by omega)];simp
  ·rw[kI,if_pos (by omega)];simp
 ·rcases List.mem_or_eq_of_mem_set he with he|rfl
  ·exact hz e he
  ·rw[KL];have:=hz _ (List.getElem_mem hk);simp;omega
 ·rw[hr,Jir hz hk ho]
 ·rw[List.length_set];exact h3
section
variable {st S S' : St} {c : List V} {tv sv : V} {s : Sch}
theorem SchF.add (h:SchF st S c tv sv s){v':V}{es':List (List V)}{l':List (Str×Ty)}(hS:∀q,S.row q≠ .none->rowOf tv≠some q->S'.row q=S.row q)(hsl:SlF st S' v' 5 es')(hl:es'.length=l'.length)
  (hel:∀i (h:i<es'.length) (h':i<l'.length),NmC (fun _=>True) S' es'[i] l'[i]):SchC (fun _=>True) S' (c++[v',sv]) ⟨s.main,l',s.sigs⟩:=by
 obtain⟨m,_,⟨gs,g1,g2,g3⟩,ap⟩:=h;have k:∀q,OwnS st tv sv q->S.row q≠ .none->True/\S'.row q=S.row q:=fun q p e=>⟨trivial,hS q e p.2.1⟩
 exact⟨c,v',sv,rfl,m.imp k,⟨es',hsl.at.imp fun _ _ _=>⟨trivial,rfl⟩,hl,hel⟩,⟨gs,(g1.keep (st':=S') fun q e=>hS q (g1.some e) fun e2=>ap q e2 e).at.imp fun _ _ _=>⟨trivial,rfl⟩,g2,fun i a b=>(g3 i a b).imp k⟩⟩
theorem SchF.gr (h:SchF st S c tv sv s)(g:Gr S S'):SchF st S' c tv sv s:=by
 obtain⟨m,⟨es,t1,t2,t3⟩,⟨gs,g1,g2,g3⟩,ap⟩:=h;have k:∀q,OwnS st tv sv q->S.row q≠ .none->OwnS st tv sv q/\S'.row q=S.row q:=fun q p e=>⟨p,g.same q e⟩
 exact⟨m.imp k,⟨es,t1.gr g,t2,fun i a b=>(t3 i a b).imp k⟩,⟨gs,g1.gr g,g2,fun i a b=>(g3 i a b).imp k⟩,ap⟩
end
theorem JfY (r:List UInt8):∀l:List UInt8,(∀c∈l,c≠32)->(l++32::r).takeWhile (· !=32)=l
 |[],_=>by simp
 | c::l,h=>by
   have hc:(c !=32)=true:=by simpa using h c (by simp)
   rw[List.cons_append,List.takeWhile_cons,hc];simp only[if_true];rw[JfY r l fun x hx=>h x (List.mem_cons_of_mem _ hx)]
def Jeu (W:Str)(i:Nat):Str:=(W.drop (i+1)).takeWhile (· !=32)
theorem Jis {W:Str}{ns:List Str}{N:Nat}(hN:W.length<N)(h1:∀i:Fin N,(W.drop i.1).head? =some 32->Jeu W i.1=[]\/ns.contains (Jeu W i.1)=true)(h2:∀w∈ns,(Kb w&&Lib.contains W (32::(w++[32])))=true)(l:Str):(Kb l&&Lib.contains W (32::(l++[32])))=ns.contains l:=by
 cases hc:ns.contains l with
 |true=>exact h2 l (List.contains_iff_mem.1 hc)
 | false=>
   cases hb:(Kb l&&Lib.contains W (32::(l++[32])))with
   |false=>rfl
   | true=>
     exfalso;simp only[Bool.and_eq_true]at hb;obtain⟨hi,hb⟩:=hb;have hne:l≠[]:=by intro e;subst e;cases hi
     have hno:∀c∈l,c≠32:=by
      intro c hcl e;subst e;have ha:Yp l=true:=by
       cases l with
       |nil=>cases hi
       |cons a r=>simp only[Kb,Bool.and_eq_true]at hi;exact hi.2.2
      have:=List.all_eq_true.1 ha 32 hcl;exact absurd this (by decide)
     have hex:∃i,Lib.occAt W (32::(l++[32])) i=true:=by
      apply Classical.byContradiction;intro hn;have:Lib.index W (32::(l++[32]))= -1:=Lib.index_none fun j _=>by
       cases ho:Lib.occAt W (32::(l++[32])) j with
       |false=>rfl
       |true=>exact absurd ⟨j,ho⟩ hn
      unfold Lib.contains at hb;rw[this]at hb;exact absurd hb (by decide)
     obtain⟨i,ho⟩:=hex;have hroom:=Lib.occAt_room ho;have hi97:i<N:=by
      rcases hroom with h|h
      ·simp only[List.length_cons,List.length_append,List.length_nil]at h;omega
      ·cases h
     have hp:(32::(l++[32]))<+:W.drop i:=List.isPrefixOf_iff_prefix.1 ho;obtain⟨r,hr⟩:=hp;have hd:W.drop (i+1)=l++32::r:=by
      rw[<-List.tail_drop,<-hr];simp
     have hw:Jeu W i=l:=by unfold Jeu;rw[hd];exact JfY r l hno
     rcases h1 ⟨i,hi97⟩ (by show(W.drop i).head? =some 32;rw[<-hr];rfl)with h|h
     ·exact hne (hw▸h)
     ·have h:ns.contains (Jeu W i)=true:=h;rw[hw,hc]at h
      cases h
def Jev :List Str:=[[66,111,111,108],[73,110,116],[84,101,120,116],[76,105,115,116],[77,97,112],[79,112,116],[85,110,105,111,110]]
def Jew :List Str:=[[108,101,110],[110,111,116],[97,110,100],[111,114],[101,113],[108,116],[97,100,100],[115,117,98],[109,117,108],[115,104,108],[115,104,114],[105,56],[105,49,54],[105,51,50],[117,56],[117,49,54],[117,51,50],[99,97,116],[116,101,120,116],[97,116],[103,101,116],[104,97,115],[111,114,101,108,115,101]]
theorem Jn0 (l:Str):(Kb l&&Lib.contains words (32::(l++[32])))=Jev.contains l:=
 Jis (N:=100) (by decide) (by decide+kernel) (by decide+kernel) l
theorem JlW (l:Str):Qq l=Jew.contains l:=
 Jis (W:=jF) (N:=100) (by decide) (by decide+kernel) (by decide+kernel) l
theorem Jpu (n:Str):QZ n=(!Kb n||Jev.contains n):=by
 have:=Jn0 n;unfold QZ
 cases h:Kb n with
 |false=>rfl
 |true=>rw[h]at this;rw[<-this];rfl
theorem Ja9 :∀a b:List UInt8,(Op.bytesLess a b||decide (a=b))= !Op.bytesLess b a
 |[],[]=>rfl
 |[],_::_=>rfl
 |_::_,[]=>rfl
 | a::x,b::y=>by
   have ih:=Ja9 x y;simp only[Op.bytesLess];by_cases h:a=b
   ·subst h;have e:¬a<a:=UInt8.lt_irrefl a;simp only[e,decide_false,Bool.false_or,BEq.rfl,Bool.true_and,List.cons.injEq,true_and];exact ih
   ·have h1:(a==b)=false:=by simpa using h
    have h2:(b==a)=false:=by simpa using fun e=>h e.symm
    simp only[h1,h2,Bool.false_and,Bool.or_false,List.cons.injEq,h,false_and,decide_false];rcases UInt8.lt_or_lt_of_ne h with c|c
    ·rw[decide_eq_true c,decide_eq_false (UInt8.lt_asymm c)];rfl
    ·rw[decide_eq_true c,decide_eq_false (UInt8.lt_asymm c)];rfl
theorem kA (a b:List UInt8):binV .leq (ofL a) (ofL b)=some (.bool (!Op.bytesLess b a), .no):=by
 simp only[binV,arith,ofL,qC,Option.map_some,JbE,Ja9]
def ownS (has:Str->Bool)(t:Ty):Int:=
 if t.kind<1\/9<t.kind then 1 else
 if t.kids.length≠KX t\/(t.name≠[]/\t.kind≠9)\/(0<t.names.length/\¬(t.kind=7\/t.kind=8))then 12 else
 if t.kind=9/\has t.name=false then 15 else KW t
theorem jM (has:Str->Bool)(k:Int)(n:Str)(ns:List Str)(ks:List Ty)(deep met:Nat):mayS has (.mk k n ns ks) deep met=
  if 400<met+1 then(3,met+1)else if 12<deep then(13,met+1)else
  if ownS has (.mk k n ns ks)≠0 then(ownS has (.mk k n ns ks),met+1)else Jq has ks (deep+1) (met+1):=by
 rw[Jap];have e:ownS has (.mk k n ns ks)=if k<1\/9<k then 1 else if ks.length≠KX (.mk k n ns ks)\/(n≠[]/\k≠9)\/(0<ns.length/\¬(k=7\/k=8))then 12 else if k=9/\has n=false then 15 else KW (.mk k n ns ks):=rfl;rw[e];by_cases a:400<met+1
 ·rw[if_pos a,if_pos a]
 rw[if_neg a,if_neg a];by_cases b:12<deep
 ·rw[if_pos b,if_pos b]
 rw[if_neg b,if_neg b];by_cases c1:k<1\/9<k
 ·rw[if_pos c1,if_pos c1];rfl
 rw[if_neg c1,if_neg c1];by_cases c2:ks.length≠KX (.mk k n ns ks)\/(n≠[]/\k≠9)\/(0<ns.length/\¬(k=7\/k=8))
 ·rw[if_pos c2,if_pos c2];rfl
 rw[if_neg c2,if_neg c2];by_cases c3:k=9/\has n=false
 ·rw[if_pos c3,if_pos c3];rfl
 rw[if_neg c3,if_neg c3]
theorem Jpv :∀x:Fin 256,okB x.1=true->(letB x.1= !digB x.1):=by decide+kernel
def letR (x:Nat):Bool:=(decide (97<=x)&&decide (x<=122))||((decide (65<=x)&&decide (x<=90))||decide (x=95))
theorem Jpw {x:Nat}(hx:x<256):letR x=letB x:=by
 have:∀x:Fin 256,letR x.1=letB x.1:=by decide+kernel
 exact this ⟨x,hx⟩
theorem Jpx (c:UInt8)(r:List UInt8):Kb (c::r)=(decide ((c::r).length<=16)&&(letB c.toNat&&Yp (c::r))):=by
 have e:Kb (c::r)=(decide ((c::r).length<=16)&&(!digB c.toNat&&Yp (c::r))):=rfl;rw[e]
 cases ho:Yp (c::r)with
 |false=>simp
 | true=>
   have h1:okB c.toNat=true:=List.all_eq_true.1 ho c (by simp);rw[Jpv ⟨c.toNat,UInt8.toNat_lt _⟩ h1]
mutual
def KH (has:Str->Bool):Ty->Bool
 | .mk k n ns ks=>if k=7 then K9 has ks else if k=8 then K8 has ks else if k=9 then has n else true
def K8 (has:Str->Bool):List Ty->Bool
 |[]=>false
 |t::r=>KH has t||K8 has r
def K9 (has:Str->Bool):List Ty->Bool
 |[]=>true
 |t::r=>KH has t&&K9 has r
end
def finR (l:List (Str×Ty)):Nat->List Str->List Str
 |0,has=>has
 |k+1,has=>finR l k ((l.filter fun p=>KH has.contains p.2).map Prod.fst)
theorem Jau (l:List (Str×Ty))(k:Nat)(has:List Str):finR l (k+1) has=finR l k ((l.filter fun p=>KH has.contains p.2).map Prod.fst):=by rw[finR]
theorem Jex (has:Str->Bool)(k:Int)(n:Str)(ns:List Str)(ks:List Ty):KH has (.mk k n ns ks)=if k=7 then K9 has ks else if k=8 then K8 has ks else if k=9 then has n else true:=by rw[KH]
theorem JbT (has:Str->Bool):∀ks:List Ty,K8 has ks=ks.any fun t=>KH has t
 |[]=>by rw[K8];rfl
 |t::r=>by rw[K8,JbT has r];rfl
theorem JbU (has:Str->Bool):∀ks:List Ty,K9 has ks=ks.all fun t=>KH has t
 |[]=>by rw[K9];rfl
 |t::r=>by rw[K9,JbU has r];rfl
mutual
def Yt (l:List (Str×Ty)):Ty->Bool
 | .mk k n ns ks=>(if k=6 then decide ((KO l (l.length+1) (ks.headD Qu)).kind=6)else false)||qj l ks
def qj (l:List (Str×Ty)):List Ty->Bool
 |[]=>false
 |t::r=>Yt l t||qj l r
end
theorem Jit (l:List (Str×Ty))(k:Int)(n:Str)(ns:List Str)(ks:List Ty):Yt l (.mk k n ns ks)=((if k=6 then decide ((KO l (l.length+1) (ks.headD Qu)).kind=6)else false)||qj l ks):=by rw[Yt]
theorem Jey (l:List (Str×Ty)):∀ts:List Ty,qj l ts=ts.any (Yt l)
 |[]=>by rw[qj];rfl
 |t::r=>by rw[qj,Jey l r];rfl
mutual
def okO :Ty->Bool
 | .mk k n ns ks=>(decide (k≠6)||decide (0<ks.length))&&okOs ks
def okOs :List Ty->Bool
 |[]=>true
 |t::r=>okO t&&okOs r
end
theorem Jn1 (k:Int)(n:Str)(ns:List Str)(ks:List Ty):okO (.mk k n ns ks)=((decide (k≠6)||decide (0<ks.length))&&okOs ks):=by rw[okO]
theorem JbV :∀{ts:List Ty},okOs ts=true->∀t∈ts,okO t=true
 |[],_,t,h=>by cases h
 | a::r,h,t,ht=>by
   rw[okOs,Bool.and_eq_true]at h;rcases List.mem_cons.1 ht with rfl|ht
   ·exact h.1
   ·exact JbV h.2 t ht
mutual
theorem Jez (has:Str->Bool):∀(t:Ty) (deep met:Nat),(mayS has t deep met).1=0->okO t=true
 | .mk k n ns ks,deep,met,h=>by
   rw[jM]at h
   split at h
   ·cases h
   split at h
   ·cases h
   split at h
   ·rename_i c;exact absurd h c
   rename_i c
   have c:ownS has (.mk k n ns ks)=0:=by simpa using c
   rw[Jn1,Jav has ks _ _ h,Bool.and_true];by_cases k6:k=6
   ·have e:ownS has (.mk k n ns ks)=if k<1\/9<k then 1 else if ks.length≠KX (.mk k n ns ks)\/(n≠[]/\k≠9)\/(0<ns.length/\¬(k=7\/k=8))then 12 else if k=9/\has n=false then 15 else KW (.mk k n ns ks):=rfl;rw[e,if_neg (by omega)]at c;by_cases c2:ks.length≠KX (.mk k n ns ks)\/(n≠[]/\k≠9)\/(0<ns.length/\¬(k=7\/k=8))
    ·rw[if_pos c2]at c;cases c
    have:ks.length=KX (.mk k n ns ks):=Classical.byContradiction fun h=>c2 (.inl h);have e:KX (.mk k n ns ks)=1:=by unfold KX;exact if_pos (.inr (.inr k6))
    rw[Bool.or_eq_true];exact .inr (decide_eq_true (by omega))
   ·rw[Bool.or_eq_true];exact .inl (decide_eq_true k6)
theorem Jav (has:Str->Bool):∀(l:List Ty) (deep met:Nat),(Jq has l deep met).1=0->okOs l=true
 |[],_,_,_=>by rw[okOs]
 | t::r,deep,met,h=>by
   rw[JT]at h
   split at h
   ·rename_i c;exact absurd h c
   rename_i c
   rw[okOs,Jez has t deep met (by simpa using c),Jav has r _ _ h];rfl
end
def refS (s:Sch):Int:=
  if 12<s.types.length\/12<s.sigs.length then 3 else
  if Kd none (s.types.map Prod.fst)≠0 then Kd none (s.types.map Prod.fst)else
  if(Jq (hasN s.types) (s.types.map Prod.snd) 1 0).1≠0 then(Jq (hasN s.types) (s.types.map Prod.snd) 1 0).1 else
  if(mayS (hasN s.types) s.main 1 (Jq (hasN s.types) (s.types.map Prod.snd) 1 0).2).1≠0 then(mayS (hasN s.types) s.main 1 (Jq (hasN s.types) (s.types.map Prod.snd) 1 0).2).1 else
  if(KN (hasN s.types) none s.sigs (mayS (hasN s.types) s.main 1 (Jq (hasN s.types) (s.types.map Prod.snd) 1 0).2).2).1≠0 then(KN (hasN s.types) none s.sigs (mayS (hasN s.types) s.main 1 (Jq (hasN s.types) (s.types.map Prod.snd) 1 0).2).2).1 else
  if(finR s.types (s.types.length+1) []).length≠s.types.length then 14 else
  if(Qj s).any (Yt s.types)then 17 else 0
theorem qT {x:Row}{q a b:Nat}{E:List V}(h:ldn x q (a+b)=some (.agg E, .no)):ldn x (q+a) b=some (.agg (E.drop a), .no):=by
 have key:∀l:List V,(if q+(a+b)<=l.length then some (V.agg ((l.drop q).take (a+b)),Eff.no)else none)=some (.agg E, .no)->(if q+a+b<=l.length then some (V.agg ((l.drop (q+a)).take b),Eff.no)else none)=some (.agg (E.drop a), .no):=fun l h=>by
  split at h
  ·rename_i c
   injection h with h;injection h with h _;injection h with h;rw[if_pos (by omega),<-h,List.drop_take,List.drop_drop];congr 4;omega
  ·cases h
 cases x with
 |cells t l=>rw[ko]at h⊢;exact key l h
 |ro l=>rw[JdV]at h⊢;exact key l h
 |_=>cases h
theorem Jaw {x:Row}{q n j:Nat}{E:List V}(h:ldn x q n=some (.agg E, .no))(hj:j<n){v:V}(he:E[j]? =some v):ld1 x (q+j)=some (v, .no):=by
 have key:∀l:List V,(if q+n<=l.length then some (V.agg ((l.drop q).take n),Eff.no)else none)=some (.agg E, .no)->(l[q+j]?).map (fun v=>(v,Eff.no))=some (v, .no):=fun l h=>by
  split at h
  ·injection h with h;injection h with h _;injection h with h;rw[<-h,List.getElem?_take_of_lt hj,List.getElem?_drop]at he;rw[he];rfl
  ·cases h
 cases x with
 |cells t l=>rw[ko]at h;rw[Jb9];exact key l h
 |ro l=>rw[JdV]at h;rw[Jjo];exact key l h
 |_=>cases h
theorem Jn2 (has:Str->Bool)(k:Int)(n:Str)(ns:List Str)(ks:List Ty)(deep:Nat):KS has (.mk k n ns ks) deep=if 12<deep then false else if k=9 then has n else if k=8 then YR has ks (deep+1)else if k=7 then YS has ks (deep+1)else true:=by rw[KS]
mutual
theorem JeA (has h:Str->Bool):∀(t:Ty) (d m:Nat),(mayS h t d m).1=0->KS has t d=KH has t
 | .mk k n ns ks,d,m,e=>by
   rw[jM]at e;by_cases c1:400<m+1
   ·rw[if_pos c1]at e;cases e
   rw[if_neg c1]at e;by_cases c2:12<d
   ·rw[if_pos c2]at e;cases e
   rw[if_neg c2]at e;by_cases c3:ownS h (.mk k n ns ks)≠0
   ·rw[if_pos c3]at e;exact absurd e c3
   rw[if_neg c3]at e;obtain⟨i1,i2⟩:=JfZ has h ks (d+1) (m+1) e;rw[Jn2,Jex,if_neg c2,i1,i2];by_cases k9:k=9
   ·subst k9;rfl
   by_cases k8:k=8
   ·subst k8;rfl
   by_cases k7:k=7
   ·subst k7;rfl
   rw[if_neg k9,if_neg k8,if_neg k7,if_neg k7,if_neg k8,if_neg k9]
theorem JfZ (has h:Str->Bool):∀(ts:List Ty) (d m:Nat),(Jq h ts d m).1=0->YR has ts d=K8 has ts/\YS has ts d=K9 has ts
 |[],d,m,e=>⟨by rw[YR,K8],by rw[YS,K9]⟩
 | t::r,d,m,e=>by
   rw[JT]at e
   split at e
   ·rename_i c;exact absurd e c
   rename_i c
   have c:(mayS h t d m).1=0:=by simpa using c
   obtain⟨i1,i2⟩:=JfZ has h r _ _ e;rw[YR,K8,YS,K9,JeA has h t d m c,i1,i2];exact⟨rfl,rfl⟩
end
theorem kB (h:Str->Bool):∀(ts:List Ty) (d m:Nat),(Jq h ts d m).1=0->∀t∈ts,∃m',(mayS h t d m').1=0
 |[],d,m,e,t,ht=>by cases ht
 | a::r,d,m,e,t,ht=>by
   rw[JT]at e
   split at e
   ·rename_i c;exact absurd e c
   rename_i c
   have c:(mayS h a d m).1=0:=by simpa using c
   rcases List.mem_cons.1 ht with rfl|ht
   ·exact⟨m,c⟩
   ·exact kB h r _ _ e t ht
mutual
theorem YL {p q:Str->Bool}(h:∀x,p x=true->q x=true):∀(t:Ty),KH p t=true->KH q t=true
 | .mk k n ns ks,e=>by
   rw[Jex]at e⊢;obtain⟨i1,i2⟩:=Jc3 h ks
   split
   ·rename_i c;rw[if_pos c]at e;exact i2 e
   rename_i c;rw[if_neg c]at e
   split
   ·rename_i c;rw[if_pos c]at e;exact i1 e
   rename_i c;rw[if_neg c]at e
   split
   ·rename_i c;rw[if_pos c]at e;exact h _ e
   ·rfl
theorem Jc3 {p q:Str->Bool}(h:∀x,p x=true->q x=true):∀(ts:List Ty),(K8 p ts=true->K8 q ts=true)/\(K9 p ts=true->K9 q ts=true)
 |[]=>⟨fun e=>(by rw[K8]at e;cases e),fun _=>(by rw[K9])⟩
 | t::r=>by
   obtain⟨i1,i2⟩:=Jc3 h r;have i3:=YL h t;rw[K8,K8,K9,K9,Bool.or_eq_true,Bool.or_eq_true,Bool.and_eq_true,Bool.and_eq_true];exact⟨fun e=>e.elim (fun a=> .inl (i3 a)) fun b=> .inr (i1 b),fun e=>⟨i3 e.1,i2 e.2⟩⟩
end
def qU (l:List (Str×Ty))(has:List Str):List Str:=(l.filter fun p=>KH has.contains p.2).map Prod.fst
theorem Qk (l:List (Str×Ty)):∀(k:Nat) (has:List Str),finR l (k+1) has=qU l (finR l k has)
 |0,has=>by rw[Jau,finR,finR];rfl
 |k+1,has=>by rw[Jau,Qk l k,Jau]
theorem JbW {l:List (Str×Ty)}{has:List Str}{x:Str}:(qU l has).contains x=true<->∃p∈l,p.1=x/\KH has.contains p.2=true:=by
 unfold qU;rw[List.contains_iff_mem,List.mem_map];constructor
 ·rintro⟨p,h1,h2⟩;rw[List.mem_filter]at h1;exact⟨p,h1.1,h2,h1.2⟩
 ·rintro⟨p,h1,h2,h3⟩;exact⟨p,List.mem_filter.2 ⟨h1,h3⟩,h2⟩
theorem JlX {l:List (Str×Ty)}{a b:List Str}(h:∀x,a.contains x=true->b.contains x=true):∀x,(qU l a).contains x=true->(qU l b).contains x=true:=fun x e=>by
 obtain⟨p,h1,h2,h3⟩:=JbW.1 e;exact JbW.2 ⟨p,h1,h2,YL h _ h3⟩
theorem Jlh (l:List (Str×Ty)):∀(k:Nat) (x:Str),(finR l k []).contains x=true->(finR l (k+1) []).contains x=true
 |0,x,h=>by rw[finR]at h;cases h
 | k+1,x,h=>by
   rw[Qk]at h;rw[Qk];exact JlX (Jlh l k) x h
theorem Jf0 {α:Type}{p q:α->Bool}:∀{l:List α},(∀x∈l,q x=true->p x=true)->(l.filter q).length<=(l.filter p).length
 |[],_=>Nat.le_refl _
 | a::r,h=>by
   have ih:=Jf0 (l:=r) fun x hx=>h x (List.mem_cons_of_mem _ hx);by_cases c:q a=true
   ·simp[List.filter,c,h a (by simp) c];exact ih
   ·have c:q a=false:=by simpa using c
    by_cases d:p a=true
    ·simp[List.filter,c,d];omega
    ·have d:p a=false:=by simpa using d
     simp[List.filter,c,d];exact ih
theorem qV {α:Type}{p q:α->Bool}:∀{l:List α},(∀x∈l,q x=true->p x=true)->(l.filter p).length<=(l.filter q).length->l.filter p=l.filter q
 |[],_,_=>rfl
 | a::r,h,hl=>by
   have h':∀x∈r,q x=true->p x=true:=fun x hx=>h x (List.mem_cons_of_mem _ hx);by_cases c:q a=true
   ·have d:=h a (by simp) c;simp only[List.filter,c,d,List.length_cons]at hl⊢;rw[qV h' (by omega)]
   ·have c:q a=false:=by simpa using c
    by_cases d:p a=true
    ·simp only[List.filter,c,d,List.length_cons]at hl;have:=Jf0 h';omega
    ·have d:p a=false:=by simpa using d
     simp only[List.filter,c,d]at hl⊢;exact qV h' hl
theorem Jf1 (l:List (Str×Ty)):∀k:Nat,k<=(finR l k []).length\/∃j,j<k/\finR l (j+1) []=finR l j []
 |0=> .inl (Nat.zero_le _)
 | k+1=>by
   rcases Jf1 l k with h|⟨j,h1,h2⟩
   ·by_cases e:finR l (k+1) []=finR l k []
    ·exact .inr ⟨k,Nat.lt_succ_self _,e⟩
    ·left
     cases k with
     | zero=>
       cases c:finR l 1 []with
       |nil=>rw[c,finR]at e;exact absurd rfl e
       |cons a r=>simp
     | succ k=>
       have up:=Jlh l k;have hB':=Qk l k [];have hC:=Qk l (k+1) [];obtain⟨A,hA⟩:∃A,A=finR l k []:=⟨_,rfl⟩
       obtain⟨B,hB⟩:∃B,B=finR l (k+1) []:=⟨_,rfl⟩
       rw[<-hA]at up hB';rw[<-hB]at up hB' hC h e;rw[hC]at e⊢;refine Nat.lt_of_not_le fun hle=>e ?_;have hle2:(qU l B).length<=B.length:=by omega
       rw[hB']at hle2
       conv=>rhs;rw[hB']
       rw[<-hB']at hle2;unfold qU at hle2⊢;congr 1;refine qV (fun x _ hx=>YL up _ hx) ?_;rw[List.length_map]at hle2;have hBl:B.length=(l.filter fun p=>KH A.contains p.2).length:=by rw[hB'];unfold qU;rw[List.length_map]
       have hle:(l.filter fun p=>KH B.contains p.2).length<=k+1:=by unfold qU at hle;rw[List.length_map]at hle;exact hle
       omega
   ·exact .inr ⟨j,by omega,h2⟩
theorem Jn3 (l:List (Str×Ty)):∀k:Nat,(finR l k []).length<=l.length
 |0=>by rw[finR];exact Nat.zero_le _
 | k+1=>by
   rw[Qk];unfold qU;rw[List.length_map];exact List.length_filter_le _ _
theorem Jcm {l:List (Str×Ty)}{j:Nat}(h:finR l (j+1) []=finR l j []):∀i,finR l (j+i) []=finR l j []
 |0=>rfl
 | i+1=>by
   rw[<-Nat.add_assoc,Qk,Jcm h i,<-Qk,h]
theorem Jiu (l:List (Str×Ty)):finR l (l.length+1) []=finR l l.length []:=by
 rcases Jf1 l (l.length+1)with h|⟨j,h1,h2⟩
 ·have:=Jn3 l (l.length+1);omega
 ·have a:=Jcm h2 (l.length-j);have b:=Jcm h2 (l.length+1-j);rw[show j+(l.length-j)=l.length by omega]at a;rw[show j+(l.length+1-j)=l.length+1 by omega]at b;rw[a,b]
theorem Jiv :∀(r:List (Str×Ty)) (has:List (Str×Bool)) (x:Str),gB x has=true->gB x (KT r has)=true
 |[],has,x,h=>by rw[KT];exact h
 | (n,t)::r,has,x,h=>by
   rw[KT];refine Jiv r _ x ?_;rw[JaQ]
   split
   ·rename_i e;rw[<-e,h];rfl
   ·exact h
theorem Jiw :∀(r:List (Str×Ty)) (has has0:List (Str×Bool)),(∀x,gB x has0=true->gB x has=true)->(∀p∈r,∀f,KS f p.2 1=KH f p.2)->∀p∈r,KH (fun x=>gB x has0) p.2=true->gB p.1 (KT r has)=true
 |[],has,has0,h,he,p,hp,e=>by cases hp
 | (n,t)::r,has,has0,h,he,p,hp,e=>by
   rw[KT];rcases List.mem_cons.1 hp with rfl|hp
   ·refine Jiv r _ _ ?_;rw[JaQ,if_pos rfl,he (n,t) (by simp),YL h _ e,Bool.or_true]
   ·refine Jiw r _ has0 (fun x hx=> ?_) (fun p hp=>he p (List.mem_cons_of_mem _ hp)) p hp e;rw[JaQ]
    split
    ·rename_i e2;rw[<-e2,h x hx];rfl
    ·exact h x hx
theorem Jix {l:List (Str×Ty)}{L:Str->Bool}(hL:∀p∈l,KH L p.2=true->L p.1=true):∀(r:List (Str×Ty)) (has:List (Str×Bool)),(∀p∈r,p∈l)->(∀p∈r,∀f,KS f p.2 1=KH f p.2)->(∀x,gB x has=true->L x=true)->∀x,gB x (KT r has)=true->L x=true
 |[],has,hr,he,h,x,hx=>by rw[KT]at hx;exact h x hx
 | (n,t)::r,has,hr,he,h,x,hx=>by
   rw[KT]at hx;refine Jix hL r _ (fun p hp=>hr p (List.mem_cons_of_mem _ hp)) (fun p hp=>he p (List.mem_cons_of_mem _ hp)) (fun y hy=> ?_) x hx;rw[JaQ]at hy
   split at hy
   ·rename_i e
    rw[Bool.or_eq_true]at hy;rcases hy with hy|hy
    ·rw[e];exact h n hy
    ·rw[he (n,t) (by simp)]at hy;rw[e];exact hL (n,t) (hr _ (by simp)) (YL h _ hy)
   ·exact h y hy
theorem Jf2 {l:List (Str×Ty)}{L:Str->Bool}(hL:∀p∈l,KH L p.2=true->L p.1=true)(he:∀p∈l,∀f,KS f p.2 1=KH f p.2):∀(k:Nat) (has:List (Str×Bool)),(∀x,gB x has=true->L x=true)->∀x,gB x (Kk l k has)=true->L x=true
 |0,has,h,x,hx=>by rw[Kk]at hx;exact h x hx
 | k+1,has,h,x,hx=>by
   rw[Kk]at hx;exact Jf2 hL he k _ (Jix hL l has (fun p hp=>hp) he h) x hx
theorem Jf3 {l:List (Str×Ty)}(he:∀p∈l,∀f,KS f p.2 1=KH f p.2):∀(k j:Nat) (has:List (Str×Bool)),(∀x,(finR l j []).contains x=true->gB x has=true)->∀x,(finR l (j+k) []).contains x=true->gB x (Kk l k has)=true
 |0,j,has,h,x,hx=>by rw[Kk];exact h x hx
 | k+1,j,has,h,x,hx=>by
   rw[Kk];refine Jf3 he k (j+1) _ (fun y hy=> ?_) x (by rw[show j+1+k=j+(k+1) by omega];exact hx);rw[Qk]at hy;obtain⟨p,h1,h2,h3⟩:=JbW.1 hy;rw[<-h2];exact Jiw l has has (fun _ h=>h) he p h1 (YL h _ h3)
theorem JjJ {l:List (Str×Ty)}(he:∀p∈l,∀f,KS f p.2 1=KH f p.2):(fun x=>gB x (Kk l l.length []))=fun x=>(finR l (l.length+1) []).contains x:=by
 funext x;have hfix:=Jiu l;have h1:gB x (Kk l l.length [])=true->(finR l (l.length+1) []).contains x=true:=fun h=>by
  refine Jf2 (L:=fun x=>(finR l (l.length+1) []).contains x) (fun p hp e=> ?_) he l.length [] (fun y hy=>by cases hy) x h;rw[hfix]at e;show(finR l (l.length+1) []).contains p.1=true;rw[Qk];exact JbW.2 ⟨p,hp,rfl,e⟩
 have h2:(finR l (l.length+1) []).contains x=true->gB x (Kk l l.length [])=true:=fun h=>by
  rw[hfix]at h;refine Jf3 he l.length 0 [] (fun y hy=>by rw[finR]at hy;cases hy) x ?_;rw[Nat.zero_add];exact h
 cases a:gB x (Kk l l.length [])<;>cases b:(finR l (l.length+1) []).contains x
 ·rfl
 ·rw[h2 b]at a;cases a
 ·rw[h1 a]at b;cases b
 ·rfl
theorem Jrm {l:List (Str×Ty)}{t:Ty}(hl:(Jq (hasN l) (l.map Prod.snd) 1 0).1=0)(ht:(mayS (hasN l) t 1 0).1=0):finS l t=KH (fun x=>(finR l (l.length+1) []).contains x) t:=by
 unfold finS;rw[if_neg (fun k=>k hl),if_neg (fun k=>k ht),JeA _ _ t 1 0 ht];rw[JjJ fun p hp f=>by
  obtain⟨m',e⟩:=kB _ _ _ _ hl p.2 (List.mem_map.2 ⟨p,hp,rfl⟩);exact JeA f _ p.2 1 m' e]
mutual
theorem Jli (has:Str->Bool)(k:Nat):∀(t:Ty) (d m:Nat),(mayS has t d (m+k)).1=0->(mayS has t d m).1=0/\(mayS has t d (m+k)).2=(mayS has t d m).2+k
 | .mk kd n ns ks,d,m,e=>by
   rw[jM]at e⊢;rw[jM];by_cases c1:400<m+k+1
   ·rw[if_pos c1]at e;cases e
   rw[if_neg c1]at e⊢;rw[if_neg (show¬400<m+1 by omega)];by_cases c2:12<d
   ·rw[if_pos c2]at e;cases e
   rw[if_neg c2]at e⊢;rw[if_neg c2];by_cases c3:ownS has (.mk kd n ns ks)≠0
   ·rw[if_pos c3]at e;exact absurd e c3
   rw[if_neg c3]at e⊢;rw[if_neg c3];rw[show m+k+1=m+1+k by omega]at e⊢;exact Jiy has k ks (d+1) (m+1) e
theorem Jiy (has:Str->Bool)(k:Nat):∀(ts:List Ty) (d m:Nat),(Jq has ts d (m+k)).1=0->(Jq has ts d m).1=0/\(Jq has ts d (m+k)).2=(Jq has ts d m).2+k
 |[],d,m,e=>by rw[KR,KR];exact⟨rfl,rfl⟩
 | t::r,d,m,e=>by
   rw[JT]at e;rw[JT has t r d m,JT has t r d (m+k)];by_cases c:(mayS has t d (m+k)).1=0
   ·obtain⟨i1,i2⟩:=Jli has k t d m c;rw[if_neg (fun h=>h c)]at e;rw[if_neg (fun h=>h i1),if_neg (fun h=>h c)];rw[i2]at e⊢;exact Jiy has k r d _ e
   ·rw[if_pos c]at e;exact absurd e c
end
theorem Jiz {has:Str->Bool}{t:Ty}{d m:Nat}(h:(mayS has t d m).1=0):(mayS has t d 0).1=0:=by
 have:=Jli has m t d 0 (by rw[Nat.zero_add];exact h);exact this.1
theorem Jba (l:List (Str×Ty))(t:Ty)(h:t.kind≠9):∀k,KO l k t=t
 |0=>rfl
 |k+1=>by rw[kK,if_neg h,Jba l t h k]
theorem JiA {l:List (Str×Ty)}{rk:Str->Nat}(hd:(l.map Prod.fst).Nodup)(hrk:∀p∈l,p.2.kind=9->rk p.2.name<rk p.1)(hn:∀p∈l,p.2.kind=9->∃q∈l,q.1=p.2.name):
  ∀(f r:Nat) (t:Ty),(t.kind=9->∃p∈l,p.1=t.name/\rk p.1<r)->(l.filter fun p=>decide (rk p.1<r)).length<=f->(KO l f t).kind≠9
 | 0,r,t,ht,hf=>by
   rw[KO];intro k9;obtain⟨p,h1,h2,h3⟩:=ht k9;have:p∈l.filter fun p=>decide (rk p.1<r):=List.mem_filter.2 ⟨h1,decide_eq_true h3⟩;rw[List.eq_nil_of_length_eq_zero (Nat.le_zero.1 hf)]at this
   cases this
 | f+1,r,t,ht,hf=>by
   by_cases k9:t.kind=9
   ·obtain⟨p,h1,h2,h3⟩:=ht k9;rw[kK,if_pos k9,<-h2,Jlc hd h1];show(KO l f p.2).kind≠9;refine JiA hd hrk hn f (rk p.1) p.2 (fun k=> ?_) ?_
    ·obtain⟨q,q1,q2⟩:=hn p h1 k;exact⟨q,q1,q2,by rw[q2];exact hrk p h1 k⟩
    ·have:(l.filter fun q=>decide (rk q.1<rk p.1)).length<(l.filter fun p=>decide (rk p.1<r)).length:=
      Jck (p:=fun q=>decide (rk q.1<rk p.1)) (q:=fun p=>decide (rk p.1<r)) (x:=p) (fun x hx=>decide_eq_true (Nat.lt_trans (of_decide_eq_true hx) h3)) (decide_eq_true h3) (decide_eq_false (Nat.lt_irrefl _)) h1
     omega
   ·rw[Jba l t k9];exact k9
theorem JjK (l:List (Str×Ty))(t:Ty){i:Nat}(h:(KO l i t).kind≠9):KO l (i+1) t=KO l i t:=by
 rw[kL,if_neg h]
structure Ends (l:List (Str×Ty)):Prop where
 nd:(l.map Prod.fst).Nodup
 may:(Jq (hasN l) (l.map Prod.snd) 1 0).1=0
 fin:∀p∈l,finS l p.2=true
theorem Ends.opens {l:List (Str×Ty)}(h:Ends l){t:Ty}(ht:t.kind=9->hasN l t.name=true):(KO l l.length t).kind≠9:=by
 obtain⟨rk,hrk⟩:=Jik h.nd h.fin;have closed:∀p∈l,p.2.kind=9->∃q∈l,q.1=p.2.name:=fun p hp k=>by
  have:=qe (kR _ _ _ _ h.may) p.2 (List.mem_map.2 ⟨p,hp,rfl⟩);generalize p.2=T at this k⊢;obtain⟨k',n,ns,ks⟩:=T;have k:k'=9:=k;rw[Qn,Bool.and_eq_true,Bool.or_eq_true]at this;rcases this.1 with h|h
  ·exact absurd k (of_decide_eq_true h)
  ·obtain⟨T,hT⟩:=JbS h;exact⟨_,hT,rfl⟩
 by_cases k9:t.kind=9
 ·obtain⟨T,hT⟩:=JbS (ht k9);exact JiA h.nd hrk closed l.length (rk t.name+1) t (fun _=>⟨_,hT,rfl,Nat.lt_succ_self _⟩) (List.length_filter_le _ _)
 ·rw[Jba l t k9];exact k9
mutual
theorem Jlj {l:List (Str×Ty)}(h:Ends l):∀(t:Ty) (d m:Nat),(mayS (hasN l) t d m).1=0->qN l t=Yt l t
 | .mk k n ns ks,d,m,e=>by
   have hni:=Jci _ _ _ _ e;have hok:=Jez _ _ _ _ e;rw[jM]at e;by_cases c1:400<m+1
   ·rw[if_pos c1]at e;cases e
   rw[if_neg c1]at e;by_cases c2:12<d
   ·rw[if_pos c2]at e;cases e
   rw[if_neg c2]at e;by_cases c3:ownS (hasN l) (.mk k n ns ks)≠0
   ·rw[if_pos c3]at e;exact absurd e c3
   rw[if_neg c3]at e;have c3:ownS (hasN l) (.mk k n ns ks)=0:=by simpa using c3
   rw[Jia,Jit,JiB h ks (d+1) (m+1) e];by_cases k6:k=6
   ·have hk1:ks.length=1:=by
     unfold ownS at c3
     split at c3
     ·cases c3
     split at c3
     ·cases c3
     rename_i c
     have:ks.length=KX (.mk k n ns ks):=Classical.byContradiction fun h=>c (.inl h);rw[this];unfold KX;exact if_pos (.inr (.inr k6))
    rw[if_pos ⟨k6,hk1⟩,if_pos k6];obtain⟨c,rfl⟩:∃c,ks=[c]:=by
     match ks,hk1 with
     |[c],_=>exact⟨c,rfl⟩
    rw[Qn,Bool.and_eq_true]at hni;have hc:=qe hni.2 c (by simp);have:(KO l l.length c).kind≠9:=h.opens fun k9=>by
     obtain⟨k',n',ns',ks'⟩:=c;have k9:k'=9:=k9;rw[Qn,Bool.and_eq_true,Bool.or_eq_true]at hc;rcases hc.1 with h|h
     ·exact absurd k9 (of_decide_eq_true h)
     ·exact h
    rw[List.headD_cons,JjK l c this]
   ·rw[if_neg (fun h=>k6 h.1),if_neg k6]
theorem JiB {l:List (Str×Ty)}(h:Ends l):∀(ts:List Ty) (d m:Nat),(Jq (hasN l) ts d m).1=0->Y4 l ts=qj l ts
 |[],d,m,e=>by rw[Y4,qj]
 | t::r,d,m,e=>by
   rw[JT]at e;by_cases c:(mayS (hasN l) t d m).1=0
   ·rw[if_neg (fun h=>h c)]at e;rw[Y4,qj,Jlj h t d m c,JiB h r d _ e]
   ·rw[if_pos c]at e;exact absurd e c
end
theorem JiC (has:Str->Bool):∀(p:Option Str) (fs:List Sg) (met:Nat),(KN has p fs met).1=0->∀f∈fs,∃m,(Jq has (f.params++[f.result]) 1 m).1=0
 |_,[],_,_,f,hf=>by cases hf
 | p,g::r,met,h,f,hf=>by
   rw[Y0]at h
   split at h
   ·cases h
   split at h
   ·cases h
   split at h
   ·cases h
   split at h
   ·rename_i c;exact absurd h c
   rename_i c
   rcases List.mem_cons.1 hf with rfl|hf
   ·exact⟨met,by simpa using c⟩
   ·exact JiC has _ r _ h f hf
theorem Jpy {l:List (Str×Ty)}{q:(Str×Ty)->Bool}:(l.filter q).length=l.length<->l.any (fun p=> !q p)=false:=by
 induction l with
 |nil=>exact⟨fun _=>rfl,fun _=>rfl⟩
 | cons a r ih=>
   have:=List.length_filter_le q r
   cases c:q a with
   |true=>simp only[List.filter,c,List.length_cons,List.any_cons,Bool.not_true,Bool.false_or];rw[<-ih];omega
   |false=>simp only[List.filter,c,List.length_cons,List.any_cons,Bool.not_false,Bool.true_or];constructor<;>intro h<;>first|omega|cases h
theorem Jpz {l:List (Str×Ty)}(hl:(Jq (hasN l) (l.map Prod.snd) 1 0).1=0):(finR l (l.length+1) []).length=l.length<->l.any (fun p=> !finS l p.2)=false:=by
 rw[<-Jpy];have e:(finR l (l.length+1) []).length=(l.filter fun p=>finS l p.2).length:=by
  rw[Qk];unfold qU;rw[List.length_map];congr 1;refine List.filter_congr fun p hp=> ?_;obtain⟨m',e⟩:=kB _ _ _ _ hl p.2 (List.mem_map.2 ⟨p,hp,rfl⟩);rw[Jrm hl (Jiz e),Jiu]
 rw[e]
theorem Jn4 (s:Sch):refS s=Qv s:=by
 rw[Jas];unfold refS;by_cases h1:12<s.types.length\/12<s.sigs.length
 ·rw[if_pos h1,if_pos h1]
 rw[if_neg h1,if_neg h1];by_cases h2:Kd none (s.types.map Prod.fst)≠0
 ·rw[if_pos h2,if_pos h2]
 rw[if_neg h2,if_neg h2];by_cases h3:(Jq (hasN s.types) (s.types.map Prod.snd) 1 0).1≠0
 ·rw[if_pos h3,if_pos h3]
 rw[if_neg h3,if_neg h3];by_cases h4:(mayS (hasN s.types) s.main 1 (Jq (hasN s.types) (s.types.map Prod.snd) 1 0).2).1≠0
 ·rw[if_pos h4,if_pos h4]
 rw[if_neg h4,if_neg h4];by_cases h5:(KN (hasN s.types) none s.sigs (mayS (hasN s.types) s.main 1 (Jq (hasN s.types) (s.types.map Prod.snd) 1 0).2).2).1≠0
 ·rw[if_pos h5,if_pos h5]
 rw[if_neg h5,if_neg h5];have h3:(Jq (hasN s.types) (s.types.map Prod.snd) 1 0).1=0:=by simpa using h3
 have hnd:(s.types.map Prod.fst).Nodup:=qd (by simpa using h2);have hf:=Jpz h3
 cases c:s.types.any (fun p=> !finS s.types p.2)with
 | true=>
   rw[if_pos (fun h=>by rw[hf.1 h]at c;cases c),if_pos rfl]
 | false=>
   rw[if_neg (fun h=>h (hf.2 c)),if_neg (show¬(false=true) by decide)];have hE:Ends s.types:=⟨hnd,h3,fun p hp=>by
    cases e:finS s.types p.2 with
    |true=>rfl
    | false=>
      have:s.types.any (fun p=> !finS s.types p.2)=true:=List.any_eq_true.2 ⟨p,hp,by rw[e];rfl⟩;rw[this]at c;cases c⟩
   have hall:∀t∈Qj s,∃m,(mayS (hasN s.types) t 1 m).1=0:=fun t ht=>by
    unfold Qj at ht;rcases List.mem_append.1 ht with ht|ht
    ·rcases List.mem_append.1 ht with ht|ht
     ·exact kB _ _ _ _ h3 t ht
     ·rw[List.mem_singleton.1 ht];exact⟨_,by simpa using h4⟩
    ·obtain⟨ts,h1,h2⟩:=List.mem_flatten.1 ht;obtain⟨f,hf,rfl⟩:=List.mem_map.1 h1;obtain⟨m,hm⟩:=JiC _ _ _ _ (by simpa using h5) f hf;exact kB _ _ _ _ hm t h2
   rw[j8];have e:(Qj s).any (qN s.types)=(Qj s).any (Yt s.types):=by
    have key:∀l:List Ty,(∀t∈l,∃m,(mayS (hasN s.types) t 1 m).1=0)->l.any (qN s.types)=l.any (Yt s.types):=fun l=>by
     induction l with
     |nil=>intro _;rfl
     | cons a r ih=>
       intro h;obtain⟨m,hm⟩:=h a (by simp);rw[List.any_cons,List.any_cons,Jlj hE a 1 m hm,ih fun t ht=>h t (List.mem_cons_of_mem _ ht)]
    exact key _ hall
   rw[e]
end Eva
