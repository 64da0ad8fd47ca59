/- An evaluator of the model's code, proved to tell what the model does. Regions in order: -/
import Derived.Test.YtmcjecniobkggaaGreatEva4
import Derived.LoopN
import Derived.Laws.Sem
import Derived.Lib.IndexMore
set_option linter.constructorNameAsVariable false
set_option linter.unusedVariables false
set_option linter.unusedSimpArgs false
set_option linter.unusedSectionVars false
namespace Eva
open Go Go.RowKit
variable {s i x:Nat}{v:Exit->Act->World->Prop}{e o:Iop}{t:List (List Nat×List Nat)}{k:Pt}{z:St}{b:List Nat}{d:Fr->St->Option Out}{r:Self}{q:Option (List Nat)}{p:Oper}{f:List Value}{h:Fr}{g:World}{m:Array Oper}{j:Act->World->Prop}{u:V}{y:Bool}{Y:List V}{Z:Ins}
section
variable {P : Program} {γ : Locs} {ρ : Nat -> Value} {base : Bs} {st : St} {c : Pt -> Row} {w : World} {fr : Fr} {a : Act}
structure At (P:Program) (γ:Locs) (ρ:Nat->Value) (base:Bs) (n:Nat) (st:St) (c:Pt->Row) (w:World) (fr:Fr) (a:Act):Prop where
 e:FR γ ρ fr a
 d:Jdj n a
 rel:Rel γ ρ base c w
 b:Full γ c st
 wf:WF st
theorem Jbn {self:Self}(c:Yc P ρ base self)(b:Yk self false fr st Z=some (h,z))(e:WF st):Mono st z:=by
 have i:evGo self false fr st Z=some (h,z)->Mono st z:=fun a=>by
  unfold evGo at a;simp at a
  split at a
  ·rename_i v f g
   injection a with a;injection a with _ d;subst d;exact YZ c g e
  grind
 unfold Yk at b
 split at b
 ·grind
 ·split at b
  ·split at b
   ·grind
   ·injection b with b;injection b with _ d;subst d;exact Mono.B e
  ·injection b with b;injection b with _ d;subst d;exact Mono.B e
  grind
theorem Ja8 {self:Self}(a:Yc P ρ base self):∀{l:List Ins} {fr c:Fr} {st b:St},Kl self false l fr st=some (c,b)->WF st->Mono st b
 | [],fr,c,st,b,h,d=>by
   simp[Kl]at h;rw[<-h.2];exact Mono.B d
 | x::l,fr,c,st,b,h,d=>by
   simp[Kl]at h
   split at h
   ·rename_i f g i
    have e:=Jbn a i d;exact e.A (Ja8 a h e.wf)
   grind
theorem YA.B {a:St}(h:YA γ st a)(m:Mono z a):YA γ st z:=fun r b c=>h r b (by have:=m.i;omega)
theorem YA.A {γ1:Locs}{a c:St}(h:YA γ st c)(m:Mono st a)(d:∀r,γ1 r≠none->γ r≠none\/(st.b.A<=r.A/\r.A<a.b.A)):YA γ1 a c:=fun r g f=>by
 apply Xf;intro e;have j:=m.i;rcases d r e with k|k
 ·exact k (h r (by omega) f)
 ·omega
theorem Jss {self:Self}(t:Yc P ρ base self)(hρ:∀g,(ρ g).oneCell'=true){l:List Iop}(U:jw m s l false i p e=some Z)(W:YD P p=some e)
  (j:At P γ ρ base s st c w fr a)   (X:Yk self false fr st Z=some (h,z)) (Y:YA γ st z) {K:Act->World->Prop} {Q:Exit->Act->World->Prop}
  (hK:∀γ' L a' u,At P γ' ρ base s z L u h a'->Q3 γ ρ base c st z w γ' L u->K a' u):
  (if Region.wanted p (yielded m a.tmps)then p.wp P a w K Q else K (a.put p.dst undef) w):=by
 have hm:=Jbn t X j.wf;obtain⟨q1,q2,q3,q4,q5⟩:=YY U;rcases Jf2 U X j.d (fun n _=>j.e n)with⟨O,v,M,S⟩|⟨O,M,S⟩
 ·rw[O,Xd rfl];simp at M;have N:∀y γ' L u,Post γ ρ base c st z w v γ' L y u->K (a.put p.dst y) u:=fun y γ' L u q=>
   hK γ' L _ u ⟨by rw[S];exact FR.A j.e q.d j.d q3 q.f,j.d.A _ _,q.rel,q.s.D j.wf j.b,hm.wf⟩ q.s
  cases hx:e.A with
  |true=>exact Jle t W hx M j.wf (fun y _ xo T=>Jm T j.e) j.rel j.b Y N
  | false=>
    obtain⟨r,e1,e2⟩:=JcI hx M;subst e2;exact Jrq j.wf (Jal e1).1 (Jib hρ W e1 j.e j.rel j.b.A (Post.A Y)) N
 ·rw[O,Xa (by decide)];subst M;exact hK γ c _ w ⟨by rw[S];exact FR.A j.e (Ext.A _) j.d q3 ⟨[],rfl,rfl⟩,j.d.A _ _,j.rel,j.b,j.wf⟩ (Q3.A j.rel)
theorem JnJ {self:Self}(d:Yc P ρ base self)(Z:∀i,(ρ i).oneCell'=true){g:Array Oper}{e:Nat}{l:List Iop}{Q:Exit->Act->World->Prop}:
  ∀(n:List Oper) (z:List Iop) (L:List Ins) (k:Nat),QL g e l false k n z=some L->(∀(j:Nat) (o:Oper),n[j]? =some o->g[k+j]? =some o)->n.mapM (YD P)=some z->
  ∀{γ:Locs} {c:Pt->Row} {w:World} {a:Act} {fr m:Fr} {st f:St},At P γ ρ base e st c w fr a->Kl self false L fr st=some (m,f)->YA γ st f->
   (∀γ' M N t,At P γ' ρ base e f M t m N->Q3 γ ρ base c st f w γ' M t->Q .normal N t)->wpOps P g Q (List.range' k n.length) a w
 | [],z,L,k,p,O,s,γ,c,w,a,fr,m,st,f,h,q,S,T=>by
   simp at s;subst s;simp[QL]at p;subst p;simp[Kl]at q;obtain⟨e1,e2⟩:=q;subst e1;subst e2;exact T _ _ _ _ h (Q3.A h.rel)
 | o::n,z,L,k,p,O,s,γ,c,w,a,fr,m,st,f,h,q,S,T=>by
   rw[Zx]at s
   cases hc:YD P o with
   |none=>grind
   | some x=>
     cases u:n.mapM (YD P)with
     |none=>grind
     | some U=>
       simp[hc,u]at s;subst s;simp[QL]at p
       split at p
       ·rename_i y r hy hr
        injection p with p;subst p;simp[Kl]at q
        split at q
        ·rename_i ab ad v
         have W:=Jbn d v h.wf;have m2:=Ja8 d q W.wf;have ho:g[k]? =some o:=O 0 o rfl;have aa:=Jss (K:=wpOps P g Q (List.range' (k+1) n.length)) (Q:=Q) d Z hy hc h v (S.B m2) fun γ1 c1 a1 w1 X p1=>
          JnJ d Z n U r (k+1) hr (fun j o' hj=>by have:=O (j+1) o' (by grind);grind) u X q (S.A W p1.b)
           fun γ' M N t Y p2=>T γ' M N t Y (p1.B p2 W m2 h.wf)
         simp only[XJ,GS,wpOps,ho]
         grind
        grind
       grind
end
theorem JbW (S:Nat->Prop)(a:Array Nat)(b:∀k i,S k->(a.getD k 0).testBit i=true->S i):∀(l:List Edge) (s:Nat),(∀e∈l,Region.binds .any e=true->S e.on)->(∀i,s.testBit i=true->S i)->
  ∀i,(l.foldl (fun s e=>if Region.binds .any e then s|||2^e.on|||a.getD e.on 0 else s) s).testBit i=true->S i
 |[],s,_,c,i,h=>c i h
 | e::l,s,d,c,i,h=>by
   simp only[Zr]at h;refine JbW S a b l _ (fun f g=>d f (by grind)) (fun j m=> ?_) i h
   grind
theorem Jf3 (S:Nat->Prop):∀(l:List Oper) (a:Array Nat),(∀(j:Nat) (o:Oper),l[j]? =some o->S (a.size+j)->∀e∈o.after,Region.binds .any e=true->S e.on)->
  (∀k i,S k->(a.getD k 0).testBit i=true->S i)->
  ∀k i,S k->((l.foldl (fun a o=>a.push (o.after.foldl (fun s e=>if Region.binds .any e then s|||2^e.on|||a.getD e.on 0 else s) 0)) a).getD k 0).testBit i=true->S i
 |[],a,_,b=>b
 | o::l,a,f,b=>by
   simp only[Zr];refine Jf3 S l _ (fun j m p q=>f (j+1) m (by grind) (by grind)) (fun k i g c=> ?_);by_cases n:k<a.size
   ·refine b k i g ?_;rw[XR,Z6,Xa (by omega)]at c
    simp_all
   ·by_cases d:k=a.size
    ·subst d;rw[XR,Z6,Xd rfl,GR,<-GH]at c;exact JbW S a b o.after.toList 0 (fun e r=>f 0 o rfl g e (by grind)) (fun i h=>by simp at h) i c
    grind
theorem jL {S:Nat->Prop}(a:∀(k:Nat) (o:Oper),m[k]? =some o->S k->∀e∈o.after,Region.binds .any e=true->S e.on):
  ∀k i,S k->((Region.before m).getD k 0).testBit i=true->S i:=by
 unfold Region.before;rw[<-GH];exact Jf3 S m.toList #[] (fun j o b c=>a j o (by grind) (by grind)) (fun k i _ h=>by simp at h)
theorem qA {α:Type}:∀{L:List (Option (List α))} {r:List α},Jbh L=some r->∀o∈L,∃x,o=some x/\∀y∈x,y∈r
 |[],_,_,o,a=>by grind
 |none::_,_,h,_,_=>by simp[Jbh]at h
 | some x::L,r,h,o,a=>by
   simp[Jbh]at h
   split at h
   ·rename_i y b
    injection h with h;subst h;rcases Xw.1 a with e|e
    ·grind
    ·obtain⟨u,c,d⟩:=qA b o e
     grind
   grind
section
variable {ops : Array Oper} {l : List Iop}
theorem Jid (h:okWs ops l s=some b)(f:i<ops.size)(g:l[i]? =some e)(c:i≠s)(j:e.G=false)(m:ordered (Region.before ops) s i=false):
  ∃d,e.B=some d/\i<s/\e.F=false/\(∀a∈d,qu ops i a=true)/\∀a∈d,a∈b:=by
 obtain⟨x,n,o⟩:=qA h (okW1 ops l (Region.before ops) s i) (XA.2 ⟨i,Zm.2 f,rfl⟩);simp[okW1,g,j,m,GC.2 c]at n
 grind
theorem JcJ (h:Jk7 ops l=some t)(d:s<ops.size)(f:i<ops.size)(g:l[s]? =some e)(j:l[i]? =some o)(b:s≠i)
  (m:e.F=true) (n:e.A=false) (p:o.G=false) (u:ordered (Region.before ops) s i=false):
  ∃c,o.B=some c/\e.D≠[]/\(∀a∈e.D,qu ops s a=true)/\(∀a∈c,qu ops i a=true)/\(e.D,c)∈t:=by
 obtain⟨q,v,z⟩:=qA h _ (XA.2 ⟨s,Zm.2 d,rfl⟩);obtain⟨K,w,L⟩:=qA v _ (XA.2 ⟨i,Zm.2 f,rfl⟩);simp[Jrm,g,j,GC.2 b,m,n,p,u]at w
 grind
theorem Jkm (h:qu ops s i=true)(a:x<ops.size)(b:s<=x):qU ops x≠some i:=by
 simp[qu]at h
 grind
theorem kE {b:Array Nat}:ordered b s i=ordered b i s:=by
 unfold ordered
 grind
theorem JbX (h:Jbg ops l=true)(f:ops[s]? =some p)(n:l[s]? =some e){k:Nat}(g:k<ops.size)(b:k≠s)(j:qU ops k=some i)(q:i∈names ops p e):
  ordered (Region.before ops) s k=true:=by
 have r:s<ops.size:=(Xv.1 f).1;simp only[Jbg,Ze,Zm]at h;have m:=h s r;simp only[f,n,Xj,Ze,Zm]at m;have c:=m.2 k g;have a:ops[k]? =some ops[k]:=X3 g;simp only[qU,a,HE]at j;simp only[GC.2 b,a,j,ZF]at c;have t:(names ops p e).contains i=true:=by grind
 rw[t]at c;simpa[ordered]using c
def Closed (ops:Array Oper)(S:Nat->Prop):Prop:=∀(k:Nat) (o:Oper),ops[k]? =some o->S k->∀e∈o.after,Region.binds .any e=true->S e.on
theorem Jbo {S:Nat->Prop}(d:Closed ops S)(c:Closed ops fun a=>S a\/a=s)(f:¬S s)(g:i≠s)(b:ordered (Region.before ops) s i=true):S i<->i<s:=by
 unfold ordered at b;constructor
 ·intro h;apply Xf;intro l;rw[HF (by omega),Zd (by omega)]at b;exact f (jL d i s h b)
 ·intro h;rw[Nat.max_eq_left (by omega),Nat.min_eq_right (by omega)]at b;rcases jL c s i (.inr rfl) b with e|e
  ·exact e
  omega
theorem JfO (h:e.B=some b)(c:e.G=false):∀s∈e.D,s∈b:=by
 intro s a
 cases e<;>simp[Iop.B]at h<;>simp[Iop.D]at a<;>first
  |grind
  |grind
  |grind
theorem Jie (h:e.G=true):e.B=some []:=by
 cases e<;>first|rfl|cases h
theorem Jdk (h:e.F=true):e.G=false:=by
 cases e<;>first|rfl|cases h
theorem YH (h:e.A=true):e.G=false/\e.B=none:=by
 cases e<;>first|exact⟨rfl,rfl⟩|cases h
end
section
variable {P : Program} {γ : Locs} {ρ : Nat -> Value} {base : Bs} {st : St} {c : Pt -> Row} {w : World} {fr : Fr} {a : Act}
theorem trace {self:Self}{c:Bool}:∀{d:List Ins} {fr a:Fr} {st b:St},Kl self c d fr st=some (a,b)->
  ∃F:Nat->Fr×St,F 0=(fr,st)/\F d.length=(a,b)/\∀i x,d[i]? =some x->Yk self c (F i).1 (F i).2 x=some (F (i+1))
 | [],fr,a,st,b,h=>by
   simp[Kl]at h;exact⟨fun _=>(fr,st),rfl,by grind,fun i x j=>by grind⟩
 | x::d,fr,a,st,b,h=>by
   simp[Kl]at h
   split at h
   ·rename_i e f k
    obtain⟨F,l,g,m⟩:=trace h;refine⟨fun i=>match i with|0=>(fr,st)|i+1=>F i,rfl,g,fun i y n=> ?_⟩
    grind
   grind
theorem qB {self:Self}(d:KV self q fr st e=some (u,z)):
  ∃b c,K0 self fr {st with a:=st.t} e=some (u,b)/\z={b with a:=c}/\c<=st.a/\(b.a<st.t->c<=b.a/\∃l,q=some l/\still fr b st.t l=true):=by
 unfold KV at d
 grind
theorem Js (h:WF st)(n:Nat):WF {st with a:=n}:=⟨h.a,h.t⟩
theorem Ja9 {self:Self}(b:Yc P ρ base self)(k:KV self q fr st e=some (u,z))(g:WF st):Mono st z:=by
 obtain⟨c,s,l,n,o,w⟩:=qB k;have m:=YZ b l (Js g _);subst n;refine⟨⟨m.wf.a,m.wf.t⟩,m.t,m.i,m.d,o,fun r h p=> ?_,m.f⟩;have y:c.a<=(st.A r).A:=m.j r h p;have K:=g.t r h
 grind
theorem jU {self:Self}{fr':Fr}{st':St}(a:Yk self y fr st Z=some (fr',st')):
  ∃v,fr'=put fr Z.b v/\(st'=st\/(if y&&Z.d.A then KV self Z.c fr st Z.d else K0 self fr st Z.d)=some (v,st')):=by
 have e:evGo self y fr st Z=some (fr',st')->∃v,fr'=put fr Z.b v/\(if y&&Z.d.A then KV self Z.c fr st Z.d else K0 self fr st Z.d)=some (v,st'):=fun h=>by
  unfold evGo at h
  grind
 unfold Yk at a
 grind
structure Canon (P:Program) (γ₀:Locs) (ρ:Nat->Value) (base:Bs) (c₀:Pt->Row) (ops:Array Oper) (ntmps:Nat) (l:List Iop) (slf:Self) (F:Nat->Fr×St):Prop where
 a:Yc P ρ base slf
 u:∀i,(ρ i).oneCell'=true
 q:∀(i:Nat) (o:Oper),ops[i]? =some o->∃x y,l[i]? =some x/\YD P o=some x/\jw ops ntmps l true i o x=some y/\Yk slf true (F i).1 (F i).2 y=some (F (i+1))
 n:WF (F 0).2
 b:Jbg ops l=true
 g:∃r,Jk7 ops l=some r/\JP (F ops.size).1 r=true
 c:YA γ₀ (F 0).2 (F ops.size).2
 m:Full γ₀ c₀ (F 0).2
def born (F:Nat->Fr×St)(j:Nat)(r:Pt):Prop:=(F j).2.b.A<=r.A/\r.A<(F (j+1)).2.b.A
def tch (F:Nat->Fr×St)(j:Nat)(r:Pt):Prop:=(F (j+1)).2.A r≠(F j).2.A r
section
variable {γ₀ : Locs} {c₀ : Pt -> Row} {ops : Array Oper} {ntmps : Nat} {l : List Iop} {self : Self} {F : Nat -> Fr × St}
theorem Canon.J (h:Canon P γ₀ ρ base c₀ ops ntmps l self F)(d:i<ops.size):∃o x y,ops[i]? =some o/\l[i]? =some x/\YD P o=some x/\jw ops ntmps l true i o x=some y/\Yk self true (F i).1 (F i).2 y=some (F (i+1)):=by
 obtain⟨x,y,e⟩:=h.q i ops[i] (X3 d)
 grind
theorem Canon.H (h:Canon P γ₀ ρ base c₀ ops ntmps l self F)(f:i<ops.size)(e:WF (F i).2):Mono (F i).2 (F (i+1)).2:=by
 obtain⟨o,x,y,k,p,r,s,j⟩:=h.J f;obtain⟨v,t,d⟩:=jU (fr':=(F (i+1)).1) (st':=(F (i+1)).2) j;rcases d with d|d
 ·rw[d];exact Mono.B e
 ·split at d
  ·exact Ja9 h.a d e
  ·exact YZ h.a d e
theorem Canon.N (h:Canon P γ₀ ρ base c₀ ops ntmps l self F):∀i,i<=ops.size->WF (F i).2
 |0,_=>h.n
 |i+1,d=>(h.H (by omega) (h.N i (by omega))).wf
theorem Canon.O (h:Canon P γ₀ ρ base c₀ ops ntmps l self F){i:Nat}:∀d,i+d<=ops.size->Mono (F i).2 (F (i+d)).2
 |0,e=>Mono.B (h.N i e)
 |d+1,e=>(h.O d (by omega)).A (h.H (i:=i+d) (by omega) (h.N _ (by omega)))
theorem Canon.D (h:Canon P γ₀ ρ base c₀ ops ntmps l self F){j:Nat}(d:i<=j)(e:j<=ops.size):Mono (F i).2 (F j).2:=by
 have:=h.O (i:=i) (j-i) (by omega)
 grind
theorem Canon.U (h:Canon P γ₀ ρ base c₀ ops ntmps l self F)(j:i<ops.size)(f:qU ops i≠some s):(F (i+1)).1 s=(F i).1 s:=by
 obtain⟨o,x,y,k,w,z,p,r⟩:=h.J j;obtain⟨v,t,_⟩:=jU (fr':=(F (i+1)).1) (st':=(F (i+1)).2) r;rw[t,(YY p).1];simp[qU,k]at f
 cases S:o.dst with
 |none=>rfl
 | some d=>
   have:s≠d:=fun e=>f (by grind);simp[Eva.put,this]
theorem Canon.T (h:Canon P γ₀ ρ base c₀ ops ntmps l self F){i:Nat}{s:Nat}:∀d,i+d<=ops.size->(∀k,i<=k->k<i+d->qU ops k≠some s)->(F (i+d)).1 s=(F i).1 s
 |0,_,_=>rfl
 |d+1,j,e=>by rw[<-h.T d (by omega) fun k f o=>e k f (by omega)];exact h.U (i:=i+d) (by omega) (e (i+d) (by omega) (by omega))
theorem Canon.I (h:Canon P γ₀ ρ base c₀ ops ntmps l self F){j:Nat}(d:i<=j)(o:j<=ops.size)(e:∀k,i<=k->k<j->qU ops k≠some s):(F j).1 s=(F i).1 s:=by
 have:=h.T (i:=i) (s:=s) (j-i) (by omega) fun k f p=>e k f (by omega)
 grind
theorem Canon.A (h:Canon P γ₀ ρ base c₀ ops ntmps l self F){j:Nat}(d:i<=j)(e:j<=ops.size)(f:qu ops i s=true):(F j).1 s=(F i).1 s:=
 h.I d e fun k o p=>Jkm f (by omega) o
theorem Jf4 {r:Pt}{i:Nat}:∀d,(∀k,i<=k->k<i+d->¬tch F k r)->(F (i+d)).2.A r=(F i).2.A r
 |0,_=>rfl
 | d+1,a=>by
   rw[<-Jf4 d fun k b c=>a k b (by omega)];exact Xf fun e=>a (i+d) (by omega) (by omega) e
theorem Jbp {r:Pt}{j:Nat}(a:i<=j)(b:∀k,i<=k->k<j->¬tch F k r):(F j).2.A r=(F i).2.A r:=by
 have:=Jf4 (F:=F) (r:=r) (i:=i) (j-i) fun k c d=>b k c (by omega)
 grind
theorem Canon.L (h:Canon P γ₀ ρ base c₀ ops ntmps l self F)(t:s<ops.size)(f:i<ops.size)(d:born F s k)(e:born F i k):s=i:=by
 have o:∀{s i:Nat},s<i->i<ops.size->born F s k->born F i k->False:=fun{s i} p f d e=>by
  have:=(h.D (i:=s+1) (j:=i) (by omega) (by omega)).i;have:=d.2;have:=e.1;omega
 grind
theorem Canon.M (h:Canon P γ₀ ρ base c₀ ops ntmps l self F)(e:i<ops.size)(d:born F i k):(F 0).2.b.A<=k.A/\k.A<(F ops.size).2.b.A:=by
 have:=(h.D (i:=0) (j:=i) (by omega) (by omega)).i;have:=(h.D (i:=i+1) (j:=ops.size) (by omega) (by omega)).i;have:=d.1;have:=d.2;omega
theorem Canon.B (h:Canon P γ₀ ρ base c₀ ops ntmps l self F)(o:s<ops.size)(d:born F s k)(f:i<=s):(F i).2.A k= .none:=by
 apply Xf;intro e;have:=(h.N i (by omega)).a k e;have:=(h.D (i:=i) (j:=s) f (by omega)).i;have:=d.1;omega
theorem Canon.G (h:Canon P γ₀ ρ base c₀ ops ntmps l self F){x:Iop}(Z:ops[s]? =some p)(hx:l[s]? =some x)(z:tch F s k):
  born F s k\/((F s).2.A k≠ .none/\
   ((x.A=false/\x.F=true/\(∀i∈x.D,rowOf ((F s).1 i)=some k)/\∃v e,evOp (F s).1 (F s).2 x=some (v,e)/\(F (s+1)).2=(F s).2.I e)\/
    (x.A=true/\∃l',okWs ops l s=some l'/\still (F s).1 (F (s+1)).2 (F s).2.t l'=true))):=by
 have hj:s<ops.size:=(Xv.1 Z).1;obtain⟨x',y,h1,h2,h3,h5⟩:=h.q s p Z;rw[hx]at h1;injection h1 with h1;subst h1;obtain⟨q1,q2,q3,q4,q5⟩:=YY h3;obtain⟨v,h6,W⟩:=jU (fr':=(F (s+1)).1) (st':=(F (s+1)).2) h5;have hw:=h.N s (by omega);have hm:=h.H hj hw;have X:=hm.d k z;have ad:=h.N (s+1) (by omega);by_cases Y:(F s).2.A k= .none
 ·exact .inl ⟨hm.f k Y X.2,ad.a k X.2⟩
 ·right;refine⟨Y, ?_⟩;rcases W with W|W
  ·exact absurd (by rw[W]) z
  ·rw[q2,q4]at W
   cases hc:x.A with
   | true=>
     right;refine⟨rfl, ?_⟩;simp[hc]at W;obtain⟨aa,lo,g1,g2,g3,g4⟩:=qB W;have m2:=YZ h.a g1 (Js hw _);have ae:(F (s+1)).2.A k=aa.A k:=by rw[g2];rfl
     have Z:=m2.j k Y (by intro e;exact z (by rw[ae,e];rfl));have ag:=hw.t k Y;have Z:aa.a<=((F s).2.A k).A:=Z;obtain⟨_,l',g5,g6⟩:=g4 (by omega);refine⟨l',g5, ?_⟩;rw[g2];exact g6
   | false=>
     left;simp[hc]at W;obtain⟨e,e1,e2⟩:=JcI hc W;have ab:=Jal e1;have af:e.F=some k:=by
      unfold tch at z;rw[e2,St.J]at z
      cases e with
      |a=>exact absurd rfl z
      | b f=>
        simp[Eff.D]at z;by_cases S:k=(F s).2.b
        ·exfalso;subst S;exact absurd (hw.a _ Y) (by omega)
        ·rw[Ju _ _ S]at z;grind
      | d w t f=>
        simp[Eff.D]at z;by_cases S:k=w
        ·subst S;rfl
        ·rw[Ju _ _ S]at z;grind
      | e w t f=>
        simp[Eff.D]at z;by_cases S:k=(F s).2.b
        ·exfalso;subst S;exact absurd (hw.a _ Y) (by omega)
        ·rw[Ju _ _ S]at z;by_cases S:k=w
         ·subst S;rfl
         ·rw[Ju _ _ S]at z;grind
     obtain⟨k1,k2⟩:=ab.2 k af
     grind
end
end
theorem Jem (a:JP h t=true){c:List Nat}(d:(b,c)∈t)(e:s∈b)(f:i∈c){q:Pt}(g:rowOf (h s)=some k)(j:rowOf (h i)=some q):k≠q:=by
 unfold JP at a
 grind
section
variable {P : Program} {γ : Locs} {ρ : Nat -> Value} {base : Bs} {c : Pt -> Row} {w : World} {a : Act}
variable {γ₀ : Locs} {c₀ : Pt -> Row} {w₀ : World} {ops : Array Oper} {ntmps : Nat} {l : List Iop} {self : Self} {F : Nat -> Fr × St}
def Over (ops:Array Oper)(l:List Iop)(F:Nat->Fr×St)(j:Nat)(x:Iop)(r:Pt):Prop:=
 (x.A=false/\x.F=true/\(∀s∈x.D,rowOf ((F j).1 s)=some r)/\∃v e,evOp (F j).1 (F j).2 x=some (v,e)/\(F (j+1)).2=(F j).2.I e)\/
 (x.A=true/\∃l',okWs ops l j=some l'/\still (F j).1 (F (j+1)).2 (F j).2.t l'=true)
theorem Canon.K (h:Canon P γ₀ ρ base c₀ ops ntmps l self F)(v:s≠i)(hi:s<ops.size)(hj:i<ops.size)(hx:l[s]? =some e)(hy:l[i]? =some o)
  (ho:ordered (Region.before ops) s i=false) (S:e.A=false) (cx:Over ops l F s e k) (z:Over ops l F i o k):False:=by
 obtain⟨ad,hp,W⟩:=h.g;rcases cx with⟨_,wx,sx,_⟩|⟨d,_⟩
 ·have fy:o.G=false:=by
   rcases z with⟨_,X,_⟩|⟨d,_⟩
   ·exact Jdk X
   ·exact(YH d).1
  obtain⟨ys,Y,hn,hs,Z,hm⟩:=JcJ hp hi hj hx hy v wx S fy ho;rcases z with⟨z,X,sy,_⟩|⟨d,_⟩
  ·obtain⟨ae,_,aa,_⟩:=JcJ hp hj hi hy hx (Ne.symm v) X z (Jdk wx) (by rw[kE];exact ho);obtain⟨f,p⟩:=Z5 _ hn;obtain⟨t,ab⟩:=Z5 _ aa;have w:=JfO Y fy t ab;have e1:=h.A (i:=s) (j:=ops.size) (by omega) (Xb _) (hs f p);have e2:=h.A (i:=i) (j:=ops.size) (by omega) (Xb _) (Z t w);exact Jem W hm p w (by rw[e1];exact sx f p) (by grind) rfl
  ·rw[(YH d).2]at Y;cases Y
 grind
theorem Canon.Q (h:Canon P γ₀ ρ base c₀ ops ntmps l self F)(f:s≠i)(W:s<ops.size)(t:i<ops.size)(X:l[s]? =some e)(v:l[i]? =some o)
  (w:ordered (Region.before ops) s i=false) (z:Over ops l F s e k) (Y:Over ops l F i o k):False:=by
 cases S:e.A with
 |false=>exact h.K f W t X v w S z Y
 | true=>
   cases p:o.A with
   |false=>exact h.K (Ne.symm f) t W v X (by rw[kE];exact w) p Y z
   | true=>
     rcases z with⟨d,_⟩|⟨_,l',d,_⟩
     ·grind
     ·obtain⟨ys,Z,_⟩:=Jid d t v (Ne.symm f) (YH p).1 w;rw[(YH p).2]at Z;cases Z
structure Inv (γ₀:Locs) (ρ:Nat->Value) (base:Bs) (c₀:Pt->Row) (w₀:World) (ops:Array Oper) (ntmps:Nat) (F:Nat->Fr×St) (S:Nat->Prop) (γ:Locs) (c:Pt->Row) (a:Act) (w:World):Prop where
 f:Closed ops S
 rel:Rel γ ρ base c w
 G:Jdj ntmps a
 O:Ext γ₀ γ
 below:Below base.n w₀ w
 D:∀t m,m<=ops.size->(∀k,k<ops.size->qU ops k=some t->(S k<->k<m))->R γ ρ ((F m).1 t) (a.tmps.getD t undef)
 M:∀r m,m<=ops.size->(∀k,k<ops.size->tch F k r->(S k<->k<m))->(∃k,k<ops.size/\S k/\tch F k r)->c r=(F m).2.A r
 u:∀r,(∀k,k<ops.size->S k->¬tch F k r)->c r=c₀ r
 J:∀k r,k<ops.size->S k->tch F k r->γ r≠none
 H:∀r,γ r≠none->γ₀ r≠none\/∃k,k<ops.size/\S k/\born F k r
variable {S : Nat -> Prop}
theorem Inv.A (h:Canon P γ₀ ρ base c₀ ops ntmps l self F)(d:Inv γ₀ ρ base c₀ w₀ ops ntmps F S γ c a w){r:Pt}{m:Nat}(n:m<=ops.size)(b:∀k,k<ops.size->tch F k r->(S k<->k<m))(o:γ r≠none)(e:(F m).2.A r≠ .none):
  c r=(F m).2.A r:=by
 by_cases g:∃k,k<ops.size/\S k/\tch F k r
 ·exact d.M r m n b g
 ·have p:(F m).2.A r=(F 0).2.A r:=Jbp (XC _) fun k _ i j=>g ⟨k,by omega,(b k (by omega) j).2 i,j⟩;rw[p]at e⊢;rw[d.u r fun k q i s=>g ⟨k,q,i,s⟩];rcases d.H r o with k|⟨k,t,x,v⟩
  ·exact h.m r k e
  ·exact absurd (h.B t v (XC _)) e
theorem Inv.B (h:Canon P γ₀ ρ base c₀ ops ntmps l self F)(i:Inv γ₀ ρ base c₀ w₀ ops ntmps F S γ c a w)(m:γ k≠none)(d:s<ops.size)(e:born F s k):S s:=by
 rcases i.H k m with g|⟨b,n,p,o⟩
 ·have:=h.M d e;exact absurd (h.c k this.1 this.2) g
 ·have:=h.L d n e o
  grind
theorem Inv.W (h:Canon P γ₀ ρ base c₀ ops ntmps l self F)(m:Inv γ₀ ρ base c₀ w₀ ops ntmps F S γ c a w){j:Nat}(s:i<j)(e:j<ops.size)(n:tch F i k)(d:tch F j k)(o:S j):S i:=by
 cases g:ordered (Region.before ops) i j with
 | true=>
   unfold ordered at g;rw[HF (by omega),Zd (by omega)]at g;exact jL m.f j i o g
 | false=>
   obtain⟨K,Y,_,t,p,_⟩:=h.J (i:=i) (by omega);obtain⟨Z,xj,_,v,q,_⟩:=h.J e;rcases h.G t p n with b|⟨x,y⟩
   ·exact m.B h (m.J j k e o d) (by omega) b
   ·rcases h.G v q d with b|⟨n2,z⟩
    ·exact absurd (h.B e b (by omega)) x
    ·exact(h.Q (by omega) (by omega) e p q g y z).elim
theorem Inv.I (h:Canon P γ₀ ρ base c₀ ops ntmps l self F)(hi:Inv γ₀ ρ base c₀ w₀ ops ntmps F S γ c a w){j:Nat}(hk:s<ops.size)(K:j<ops.size)(hx:l[s]? =some e)(hy:l[j]? =some o)(q:j≠s)
  (hS:¬S s) (aa:Closed ops fun i=>S i\/i=s) (n:e.G=false) (hg:γ k≠none) (hr:(F s).2.A k≠ .none) (hl:∀z,e.B=some z->∃m∈z,rowOf ((F s).1 m)=some k) (ht:tch F j k):
  S j<->j<s:=by
 cases ho:ordered (Region.before ops) s j with
 |true=>exact Jbo hi.f aa hS q ho
 | false=>
   obtain⟨oj,yj,_,j1,Y,_⟩:=h.J K;rw[hy]at Y;injection Y with Y;subst Y;rcases h.G j1 hy ht with b|⟨n1,c1⟩
   ·have h1:j<s:=by
     apply Xf;intro hn;exact hr (h.B K b (by omega))
    exact⟨fun _=>h1,fun _=>hi.B h hg K b⟩
   ·obtain⟨ae,hp,ab⟩:=h.g;rcases c1 with⟨cy,wy,sy,_⟩|⟨cy,l',e1,Z⟩
    ·obtain⟨z,ha,hn,hs,ad,hm⟩:=JcJ hp K hk hy hx q wy cy n (by rw[kE];exact ho)
     ·exfalso;obtain⟨m,v⟩:=Z5 _ hn;obtain⟨t,p,Q⟩:=hl z ha;have e1:=h.A (i:=j) (j:=ops.size) (by omega) (Xb _) (hs m v);have Z:=h.A (i:=s) (j:=ops.size) (by omega) (Xb _) (ad t p);exact Jem ab hm v p (by rw[e1];exact sy m v) (by grind) rfl
    ·exfalso;obtain⟨z,g1,g2,g3,g4,g5⟩:=Jid e1 hk hx (Ne.symm q) n (by rw[kE];exact ho);obtain⟨t,p,Q⟩:=hl z g1;have e3:=h.A (i:=s) (j:=j) (by omega) (by omega) (g4 t p);unfold still at Z;rw[Ze]at Z;have e4:=Z t (g5 t p);rw[e3,Q]at e4;have e4:((F (j+1)).2.A k).A<(F j).2.t:=by grind
     have e5:=((h.H K (h.N j (by omega))).d k ht).1;omega
theorem Jkn {l:List Nat}(a:rowOf (only l h s)=some k):rowOf (h s)=some k:=by
 unfold only at a
 split at a
 ·exact a
 ·cases a
theorem JnK (a:∀r,(∀b,e.B=some b->∃s∈b,rowOf (h s)=some r)->γ r≠none->z.A r≠ .none->c r=z.A r):Jah γ c z h e:=by
 unfold Jah
 split
 ·rename_i i
  exact fun r d f=>a r (fun b g=>by grind) d f
 grind
theorem Inv.X (h:Canon P γ₀ ρ base c₀ ops ntmps l self F)(t:Inv γ₀ ρ base c₀ w₀ ops ntmps F S γ c a w)(ho:ops[s]? =some p)(hx:l[s]? =some e)(hc:YD P p=some e)(hS:¬S s)(y:Closed ops fun i=>S i\/i=s)
  (hn:∀d∈e.H,R γ ρ ((F s).1 d) (a.tmps.getD d undef)) {v:V} {g:Eff} (he:evOp (F s).1 (F s).2 e=some (v,g)) (z:g.A=true->γ (F s).2.b=none):
  OpOK P γ ρ base (F s).2 c w v g (execOp a.eval p):=by
 have hk:s<ops.size:=(Xv.1 ho).1;have K:FR γ ρ (only e.H (F s).1) a:=by
  intro d;unfold only
  split
  ·grind
  ·trivial
 refine Jib h.u hc (by rw[Jm1];exact he) K t.rel (JnK fun r h1 h2 h3=> ?_) z;have r1:∀q,e.B=some q->∃d∈q,rowOf ((F s).1 d)=some r:=fun q Q=>by
  obtain⟨d,Y,hr⟩:=h1 q Q;exact⟨d,Y,Jkn hr⟩
 have n:e.G=false:=by
  cases hf:e.G with
  |false=>rfl
  | true=>
    obtain⟨d,Y,_⟩:=r1 [] (Jie hf)
    cases Y
 refine t.A h (m:=s) (by omega) (fun j j1 j2=> ?_) h2 h3;by_cases g:j=s
 ·grind
 ·obtain⟨_,yj,_,_,Z,_⟩:=h.J j1;exact t.I h hk j1 hx Z g hS y n h2 h3 r1 j2
end
section
variable {P : Program} {γ : Locs} {ρ : Nat -> Value} {base : Bs} {c : Pt -> Row} {w : World} {a : Act}
variable {γ₀ : Locs} {c₀ : Pt -> Row} {w₀ : World} {ops : Array Oper} {ntmps : Nat} {l : List Iop} {self : Self} {F : Nat -> Fr × St} {S : Nat -> Prop}
theorem Inv.L (h:Canon P γ₀ ρ base c₀ ops ntmps l self F)(z:Inv γ₀ ρ base c₀ w₀ ops ntmps F S γ c a w){k:Nat}{o:Oper}(ho:ops[k]? =some o)(hx:l[k]? =some e)(hd:∀d,o.dst=some d->d<ntmps)(hS:¬S k)(ab:Closed ops fun i=>S i\/i=k)
  {v:V} {y:Value} {γ':Locs} {c':Pt->Row}  (af:(F (k+1)).1=put (F k).1 o.dst v) (p:Post γ ρ base c (F k).2 (F (k+1)).2 w v γ' c' y g):
  Inv γ₀ ρ base c₀ w₀ ops ntmps F (fun i=>S i\/i=k) γ' c' (a.put o.dst y) g:=by
 have hk:k<ops.size:=(Xv.1 ho).1;refine⟨ab,p.rel,z.G.A _ _,z.O.D p.d,z.below.trans p.below,fun t m hm K=> ?_,fun r m hm K ag=> ?_,fun r ad=> ?_,fun j r hj hs Q=> ?_,fun r hr=> ?_⟩
 ·by_cases n:o.dst=some t
  ·have ah:qU ops k=some t:=by simp[qU,ho,n]
   have ai:k<m:=(K k hk ah).1 (.inr rfl);have Y:(F m).1 t=(F (k+1)).1 t:=h.I (by omega) hm fun j Y h2 Z=>by
    have aa:S j:=((K j (by omega) Z).2 h2).resolve_right (by omega);have aj:=JbX h.b ho hx (k:=j) (by omega) (by omega) Z (by simp[names,n]);have:=(Jbo z.f ab hS (by omega) aj).1 aa;omega
   rw[Y,af,n,Jic z.G (hd t n)];simpa[Eva.put]using p.f
  ·have Y:(a.put o.dst y).tmps.getD t undef=a.tmps.getD t undef:=by
    cases ak:o.dst with
    |none=>rfl
    |some d=>exact JnI (fun e'=>n (by grind)) y
   rw[Y];exact(z.D t m hm fun j hj Z=>by
    have al:j≠k:=fun e'=>n (by subst e';simpa[qU,ho]using Z)
    grind).A p.d
 ·by_cases Q:tch F k r
  ·have ai:k<m:=(K k hk Q).1 (.inr rfl);rw[p.b r Q];exact(Jbp (i:=k+1) (j:=m) (by omega) fun j Y h2 ae=>by
    have aa:S j:=((K j (by omega) ae).2 h2).resolve_right (by omega);exact hS (z.W h (i:=k) (j:=j) (by omega) (by omega) Q ae aa)).symm
  ·rw[p.a r (Xf fun n=>Q n)];obtain⟨j,j1,j2,j3⟩:=ag;refine z.M r m hm (fun i Y h2=> ?_) ⟨j,j1,j2.resolve_right (fun n=>Q (n▸j3)),j3⟩
   grind
 ·have Q:¬tch F k r:=ad k hk (.inr rfl);rw[p.a r (Xf fun n=>Q n)];exact z.u r fun j Y h2=>ad j Y (.inl h2)
 ·rcases hs with hs|rfl
  ·have Y:=z.J j r hj hs Q
   cases hg:γ r with
   |none=>grind
   |some q=>rw[p.d r q hg];simp
  ·have Y:=p.b r Q;have h2:=((h.H hj (h.N _ (by omega))).d r Q).2;obtain⟨q,hq,_⟩:=p.rel.f r (by grind)
   grind
 ·rcases p.g r hr with s|s
  ·rcases z.H r s with q|⟨j,j1,j2,j3⟩
   ·grind
   grind
  ·exact .inr ⟨k,hk, .inr rfl,s⟩
theorem Inv.T (h:Canon P γ₀ ρ base c₀ ops ntmps l self F)(Z:Inv γ₀ ρ base c₀ w₀ ops ntmps F S γ c a w){k:Nat}{o:Oper}(ho:ops[k]? =some o)(hS:¬S k)(aa:Closed ops fun i=>S i\/i=k){K:Act->World->Prop}{Q:Exit->Act->World->Prop}
  (hK:∀γ' c' a' w',Inv γ₀ ρ base c₀ w₀ ops ntmps F (fun i=>S i\/i=k) γ' c' a' w'->K a' w'):
  (if Region.wanted o (yielded ops a.tmps)then o.wp P a w K Q else K (a.put o.dst undef) w):=by
 obtain⟨x,y,hx,hc,ab,al⟩:=h.q k o ho;have hk:k<ops.size:=(Xv.1 ho).1;have af:∀s∈names ops o x,R γ ρ ((F k).1 s) (a.tmps.getD s undef):=fun s hs=>Z.D s k (by omega) fun j hj am=>by
  by_cases e:j=k
  ·grind
  ·exact Jbo Z.f aa hS e (JbX h.b ho hx hj e am hs)
 have ao:∀s∈x.H,R γ ρ ((F k).1 s) (a.tmps.getD s undef):=fun s hs=>af s (by unfold names;grind);have ap:∀s∈JaH ops o,R γ ρ ((F k).1 s) (a.tmps.getD s undef):=fun s hs=>af s (by unfold names;grind);obtain⟨q1,q2,q3,q4,q5⟩:=YY ab;have hw:=h.N k (by omega);have n:YA γ (F k).2 (F (k+1)).2:=fun r h1 h2=>Xf fun hg=>hS (Z.B h hg hk ⟨h1,h2⟩);have ag:Yk self true (F k).1 (F k).2 y=some ((F (k+1)).1,(F (k+1)).2):=al;rcases Jf2 ab ag Z.G ap with⟨h1,v,h2,h3⟩|⟨h1,h2,h3⟩
 ·rw[h1,Xd rfl];have ah:∀y γ' c' w',Post γ ρ base c (F k).2 (F (k+1)).2 w v γ' c' y w'->K (a.put o.dst y) w':=fun y γ' c' w' p=>hK _ _ _ _ (Z.L h ho hx q3 hS aa h3 p)
  cases Y:x.A with
  | true=>
    simp[Y]at h2;obtain⟨aq,lo,g1,g2,g3,g4⟩:=qB h2;have ae:Full γ c {(F k).2 with a:=(F k).2.t}:=fun r e1 e2=>Z.A h (m:=k) (by omega) (fun j j1 j2=>by
     by_cases e:j=k
     ·grind
     ·obtain⟨_,yj,_,_,ar,_⟩:=h.J j1;exact Z.I h hk j1 hx ar e hS aa (YH Y).1 e1 e2 (fun ys ai=>by rw[(YH Y).2]at ai;cases ai) j2) e1 e2
    have au:FR γ ρ (only x.H (F k).1) a:=by
     intro s;unfold only
     split
     ·grind
     ·trivial
    have aj:∀z∈x.J,∀xo,opd xo=some z->R γ ρ (z.A (F k).1) (a.eval xo):=fun z hz xo av=>by
     have:=Jm av au
     rwa [Jlc fun s hs=>by unfold Iop.H;grind]at this
    have ad:YA γ {(F k).2 with a:=(F k).2.t} aq:=fun r e1 e2=>n r e1 (by grind);exact Jle h.a hc Y g1 (Js hw _) aj Z.rel ae ad fun y γ' c' w' p=>ah y γ' c' w' (by rw[g2];exact⟨p.f,p.rel,p.d,p.g,p.a,p.b,p.below⟩)
  | false=>
    simp[Y]at h2;obtain⟨e,e1,e2⟩:=JcI Y h2;have ak:=n;rw[e2]at ak;exact Jrq hw (Jal e1).1 (Z.X h ho hx hc hS aa ao e1 (Post.A ak)) fun y γ' c' w' p=>ah y γ' c' w' (by grind)
 ·rw[h1,Xa (by decide)];exact hK _ _ _ _ (Z.L h ho hx q3 hS aa h3 ⟨⟨[],rfl,rfl⟩,Z.rel,Ext.A _,fun _ k=> .inl k,fun _ _=>rfl,fun r e=>absurd (by rw[h2]) e,Below.refl _ _⟩)
theorem Inv.N (h:Canon P γ₀ ρ base c₀ ops ntmps l self F)(b:Inv γ₀ ρ base c₀ w₀ ops ntmps F S γ c a w)(o:∀i,i<ops.size->S i):
  At P γ ρ base ntmps (F ops.size).2 c w (F ops.size).1 a/\Q3 γ₀ ρ base c₀ (F 0).2 (F ops.size).2 w₀ γ c w:=by
 have p:∀k,k<ops.size->(S k<->k<ops.size):=fun k m=>⟨fun _=>m,fun _=>o k m⟩
 refine⟨⟨fun s=>b.D s _ (Xb _) fun k m _=>p k m,b.G,b.rel,fun r z q=>b.A h (Xb _) (fun k m _=>p k m) z q,h.N _ (Xb _)⟩,b.rel,b.O,fun r Q=> ?_,fun r e=> ?_,fun r e=> ?_,b.below⟩
 ·rcases b.H r Q with g|⟨k,Y,k2,Z⟩
  ·grind
  ·exact .inr (h.M Y Z)
 ·refine b.u r fun k m _ v=> ?_;have z:=(h.H m (h.N k (by omega))).d r v;have q:=(h.D (i:=0) (j:=k) (by omega) (by omega)).t;have K:(F 0).2.t<=((F ops.size).2.A r).A/\(F ops.size).2.A r≠ .none:=by
   by_cases e':(F ops.size).2.A r=(F (k+1)).2.A r
   ·grind
   ·have h4:=(h.D (i:=k+1) (j:=ops.size) (by omega) (Xb _)).d r e';have h5:=(h.D (i:=0) (j:=k+1) (by omega) (by omega)).t
    grind
  rw[e]at K;have:=h.n.t r K.2;omega
 ·have x:∃k,k<ops.size/\S k/\tch F k r:=Xf fun y=>e (Jbp (XC _) fun k _ q v=>y ⟨k,q,o k q,v⟩);exact b.M r _ (Xb _) (fun k m _=>p k m) x
def QS (listed:Array Bool):Nat->Prop:=fun i=>listed.getD i false=true
theorem Jif {a:Array Bool}(b:s<a.size):QS (a.setIfInBounds s true)=fun j=>QS a j\/j=s:=by
 funext j;apply propext;unfold QS;by_cases e:j=s
 ·simp_all
 ·simp[XR,Gj (Ne.symm e),e]
theorem Jig (h:Jbg ops l=true)(c:ops[s]? =some p){e:Edge}(d:e∈p.after)(j:Region.binds .any e=true):e.on<s:=by
 have f:s<ops.size:=(Xv.1 c).1;simp[Jbg]at h;have b:=h s f;simp[c]at b
 split at b
 ·rename_i o2 k a g
  injection a with a;subst a;simp only[Xj]at b;have m:=Array.all_eq_true_iff_forall_mem.1 b.1.1 e d
  grind
 grind
theorem Inv.U (h:Canon P γ₀ ρ base c₀ ops ntmps l self F)
  (hQ:∀γ' Z a' x,At P γ' ρ base ntmps (F ops.size).2 Z x (F ops.size).1 a'->Q3 γ₀ ρ base c₀ (F 0).2 (F ops.size).2 w₀ γ' Z x->v .normal a' x):
  ∀(g:Nat) {d:Array Bool} {γ:Locs} {c:Pt->Row} {a:Act} {w:World},d.size=ops.size->d.toList.count false<=g->Inv γ₀ ρ base c₀ w₀ ops ntmps F (QS d) γ c a w->wpAny P .any ops v g d a w:=by
 have ab:∀{d:Array Bool},d.size=ops.size->Region.ready .any ops d=[]->∀n i,i<n->i<ops.size->QS d i:=by
  intro d t q n
  induction n with
  |zero=>simp
  | succ n ih=>
    intro i ah p;by_cases e:i<n
    ·grind
    ·have e:i=n:=by omega
     subst e;apply Xf;intro ad;have m:i∈Region.ready .any ops d:=by
      rw[mem_ready];refine⟨?_,ops[i],X3 p,fun e he hb=> ?_⟩
      ·unfold QS at ad
       grind
      ·have:=Jig h.b (X3 p) he hb;exact ih e.on this (by omega)
     grind
 have y:∀{d:Array Bool} {γ:Locs} {c:Pt->Row} {a:Act} {w:World},d.size=ops.size->Inv γ₀ ρ base c₀ w₀ ops ntmps F (QS d) γ c a w->Region.ready .any ops d=[]->v .normal a w:=fun t p q=>by
  have:=p.N h fun i r=>ab t q ops.size i r r
  grind
 intro g
 induction g with
 | zero=>
   intro d γ c a w t hc p;have q:Region.ready .any ops d=[]:=by
    apply List.eq_nil_iff_forall_not_mem.2;intro i m;obtain⟨z,o,S,_⟩:=mem_ready.1 m;have p:i<ops.size:=(Xv.1 S).1;rw[XR,X3 (by omega)]at z;have z:d[i]=false:=by grind
    have:0<d.toList.count false:=List.count_pos_iff.2 (by grind);omega
   exact⟨q,y t p q⟩
 | succ g ih=>
   intro d γ c a w t hc p;refine⟨fun q=>y t p q,fun i m=> ?_⟩;obtain⟨z,o,S,h3⟩:=mem_ready.1 m;have r:i<ops.size:=(Xv.1 S).1;rw[XR,X3 (by omega)]at z;have z:d[i]'(by omega)=false:=by grind
   have hS:¬QS d i:=by
    unfold QS
    simp_all
   have ae:Closed ops fun j=>QS d j\/j=i:=by
    intro k ok Y s e he hb;rcases s with s|rfl
    ·exact .inl (p.f k ok Y s e he hb)
    ·rw[S]at Y;injection Y with Y;subst Y;exact .inl (h3 e he hb)
   have aa:(d.setIfInBounds i true).toList.count false<=g:=by grind
   have ag:=p.T h S hS ae (K:=wpAny P .any ops v g (d.setIfInBounds i true)) (Q:=v) fun γ' Z a' x af=>by
    have ai:Inv γ₀ ρ base c₀ w₀ ops ntmps F (QS (d.setIfInBounds i true)) γ' Z a' x:=by
     rw[Jif (by omega)];exact af
    grind
   unfold wpOp
   grind
theorem JbY :∀{b:List Oper} {c:List Iop} {a:List Ins} {k:Nat} {d:Bool},QL ops ntmps l d k b c=some a->a.length=b.length/\∀i o,b[i]? =some o->∃x y,c[i]? =some x/\a[i]? =some y/\jw ops ntmps l d (k+i) o x=some y
 |[],[],a,k,d,h=>by simp[QL]at h;grind
 |[],_::_,_,_,_,h=>by simp[QL]at h
 |_::_,[],_,_,_,h=>by simp[QL]at h
 | o::b,x::c,a,k,d,h=>by
   simp[QL]at h
   split at h
   ·rename_i y r g e
    injection h with h;subst h;obtain⟨f,j⟩:=JbY e;refine⟨by simp[f],fun i m n=> ?_⟩
    cases i with
    |zero=>grind
    | succ i=>
      grind
   grind
theorem Jih {α β:Type}{f:α->Option β}:∀{b:List α} {c:List β},b.mapM f=some c->∀(i:Nat) (o:α),b[i]? =some o->∃x,c[i]? =some x/\f o=some x
 |[],_,_,i,o,e=>by grind
 | a::b,c,h,i,o,e=>by
   rw[Zx]at h
   cases g:f a with
   |none=>grind
   | some v=>
     cases d:b.mapM f with
     |none=>grind
     | some j=>
       simp[g,d]at h;subst h
       cases i with
       |zero=>grind
       |succ i=>simpa using Jih d i o (by grind)
theorem Jst (q:Yc P ρ base self)(hρ:∀i,(ρ i).oneCell'=true)(M:P.follows .mixedOrders=true){id:Nat}{N:List Ins}
  (hl:ops.toList.mapM (YD P)=some l) (u:QL ops ntmps l true 0 ops.toList l=some N) (hd:Jbg ops l=true) (hp:Jk7 ops l=some t) {n:St} {s:Fr}
  (f:At P γ ρ base ntmps z c w h a) (he:Kl self true N h z=some (s,n)) (aa:JP s t=true) (hf:YA γ z n) 
  (hQ:∀γ' O S K,At P γ' ρ base ntmps n O K s S->Q3 γ ρ base c z n w γ' O K->v .normal S K):(Code.region id ops true).wp P v a w:=by
 obtain⟨F,T,f2,f3⟩:=trace he;obtain⟨g1,g2⟩:=JbY u;have hn:N.length=ops.size:=by omega
 rw[hn]at f2;have p:Canon P γ ρ base c ops ntmps l self F:=by
  refine⟨q,hρ,fun i o ho=> ?_,by rw[T];exact f.wf,hd,⟨t,hp,by grind⟩,by grind,by rw[T];exact f.b⟩;obtain⟨x,y,a1,a2,a3⟩:=g2 i o (by grind);obtain⟨x',b1,b2⟩:=Jih hl i o (by grind)
  grind
 refine wp_region_any M (Inv.U p (w₀:=w) (fun γ' O S K h1 Z=> ?_) ops.size (γ:=γ) (c:=c) (by simp) (by simp) ?_)
 ·grind
 ·have L:∀i,¬QS (Array.replicate ops.size false) i:=fun i u=>by
   unfold QS at u;rw[XR,GQ]at u
   grind
  refine⟨fun k o _ W=>absurd W (L k),f.rel.A rfl,f.d,Ext.A _, ?_,fun g m M X=> ?_,fun r m _ _ ⟨k,_,k2,_⟩=>absurd k2 (L k),fun _ _=>rfl,fun k r _ W _=>absurd W (L k),fun r hr=> .inl hr⟩
  ·exact⟨rfl,rfl,rfl,Xb _,fun _ _=>rfl⟩
  ·rw[p.I (i:=0) (j:=m) (XC _) M fun k _ Z Y=>L k ((X k (by omega) Y).2 Z),T];exact f.e g
end
def Out.A :Out->St
 | .a _ st=>st
 | .b _ _ st=>st
 | .c _ st=>st
def Out.D :Out->Fr
 | .a fr _=>fr
 | .b _ fr _=>fr
 | .c fr _=>fr
def Out.B :Out->Exit
 | .a _ _=> .normal
 | .b i _ _=> .exit i
 | .c _ _=> .ret
section
variable {P : Program} {γ : Locs} {ρ : Nat -> Value} {base : Bs} {st : St} {c : Pt -> Row} {w : World} {fr : Fr} {a : Act} {self : Self} {n : Nat}
theorem Jii (a:Yc P ρ base self)(d:Yk self y fr st Z=some (h,z))(c:WF st):Mono st z:=by
 obtain⟨v,_,b⟩:=jU d;rcases b with b|b
 ·rw[b];exact Mono.B c
 ·split at b
  ·exact Ja9 a b c
  ·exact YZ a b c
theorem jc {d:Bool}(a:Yc P ρ base self):∀{l:List Ins} {fr c:Fr} {st b:St},Kl self d l fr st=some (c,b)->WF st->Mono st b
 | [],fr,c,st,b,h,e=>by
   simp[Kl]at h;rw[<-h.2];exact Mono.B e
 | x::l,fr,c,st,b,h,e=>by
   simp[Kl]at h
   split at h
   ·rename_i g i j
    have f:=Jii a j e;exact f.A (jc a h f.wf)
   grind
theorem Jbq {b:Fr->St->Option Out}{c:List Nat}(d:∀fr st a,b fr st=some a->WF st->Mono st a.A):∀(k:Nat) {fr:Fr} {st:St} {a:Out},qT b c k fr st=some a->WF st->Mono st a.A
 |0,_,_,_,h,_=>by cases h
 | k+1,fr,st,a,h,f=>by
   simp[qT]at h
   split at h
   ·rename_i g i j
    have e:=d _ _ _ j f;exact e.A (Jbq d k h e.wf)
   grind
theorem jV (o:Yc P ρ base self)(M:Nat):∀(w:C) {fr:Fr} {st:St} {a:Out},evD self M w fr st=some a->WF st->Mono st a.A:=by
 intro w
 induction w with
 |d=>intro fr st a h c;simp[evD]at h;subst h;exact Mono.B c
 | k l=>
   intro fr st a h c;simp only[evD]at h;obtain⟨⟨q,r⟩,p,K⟩:=JJ h;subst K;exact jc o p c
 | n l N=>
   intro fr st a h c;simp[evD]at h
   split at h
   ·rename_i q r p
    split at h
    ·injection h with h;subst h;exact jc o p c
    grind
   grind
 | j x y t s=>
   intro fr st a h c;simp[evD]at h
   split at h
   ·rename_i q r p
    have u:=t p c;exact u.A (s h u.wf)
   grind
 | h v x y t s=>
   intro fr st a h c;simp[evD]at h
   split at h
   ·rename_i q r p
    have u:=t p c;exact u.A (s h u.wf)
   grind
 | f x y z s O=>
   intro fr st a h c;simp[evD]at h
   grind
 | e id b L=>
   intro fr st a h c;simp[evD]at h
   split at h
   ·rename_i i q r p
    split at h
    ·injection h with h;subst h;have m:=L p c;exact m
    grind
   grind
 | g v b L=>
   intro fr st a h c;simp[evD]at h;exact Jbq (fun _ _ _ p K=>L p K) M h c
 |i id=>intro fr st a h c;simp[evD]at h;subst h;exact Mono.B c
 |m=>intro fr st a h c;simp[evD]at h;subst h;exact Mono.B c
theorem At.A {f:List Nat}(h:At P γ ρ base n st c w fr a):At P γ ρ base n st c w (restrict f fr) a:=
 ⟨fun s=>by
  unfold Eva.restrict
  split
  ·exact h.e s
  ·trivial,h.d,h.rel,h.b,h.wf⟩
def Jen (P:Program)(ρ:Nat->Value)(base:Bs)(n:Nat)(code:Code)(ev:Fr->St->Option Out):Prop:=
 ∀{γ:Locs} {c:Pt->Row} {w:World} {a:Act} {fr:Fr} {st:St} {out:Out} {Q:Exit->Act->World->Prop},At P γ ρ base n st c w fr a->ev fr st=some out->YA γ st out.A->
  (∀γ' c' a' w',At P γ' ρ base n out.A c' w' out.D a'->Q3 γ ρ base c st out.A w γ' c' w'->Q out.B a' w')->code.wp P Q a w
theorem Jlf {f:Code}{r:Fr->St->Option Out}(s:∀fr st d,r fr st=some d->WF st->Mono st d.A)(h:Jen P ρ base n f r)(g:List Nat):∀(k:Nat) {γ:Locs} {c:Pt->Row} {w:World} {a:Act} {fr:Fr} {st:St} {d:Out} {Q:Exit->Act->World->Prop},
  At P γ ρ base n st c w fr a->qT r g k fr st=some d->YA γ st d.A->(∀γ' p q j,At P γ' ρ base n d.A p j d.D q->Q3 γ ρ base c st d.A w γ' p j->Q d.B q j)->Code.rounds P f Q k a w
 |0,_,_,_,_,_,_,_,_,_,l,_,_=>by cases l
 | k+1,γ,c,w,a,fr,st,d,Q,e,l,t,z=>by
   rw[rounds_succ];simp[qT]at l
   split at l
   ·rename_i m o K
    have u:=s _ _ _ K e.wf;have L:=Jbq s k l u.wf;refine h e K (t.B L) fun γ1 T U w1 v M=> ?_;exact Jlf s h g k v l (t.A u M.b) fun γ' p q j x N=>z γ' p q j x (M.B N u L e.wf)
   ·rename_i O
    refine h e l t fun γ' p q j y S=> ?_;have:=z γ' p q j y S
    cases d with
    |a m o=>grind
    |b i m o=>exact this
    |c m o=>exact this
def keep :Option (List Nat)->Fr->Fr
 |none,fr=>fr
 |some l,fr=>restrict l fr
theorem JnL {x y:Code}{o:Fr->St->Option Out}{live:Option (List Nat)}(K:Jen P ρ base n x d)(S:Jen P ρ base n y o)(T:∀fr st e,d fr st=some e->WF st->Mono st e.A)(U:∀fr st e,o fr st=some e->WF st->Mono st e.A):
  Jen P ρ base n (.seq x y) fun fr st=>match d fr st with
   |some (.a fr st)=>o (keep live fr) st
   |r=>r:=by
 intro γ c w a fr st e Q f j p L;refine wp_seq ?_;simp at j
 split at j
 ·rename_i g h M
  have q:=T _ _ _ M f.wf;have N:=U _ _ _ j q.wf;refine K f M (p.B N) fun γ1 W X w1 k O=> ?_;have m:At P γ1 ρ base n h W w1 (keep live g) X:=by
   cases live with
   |none=>exact k
   |some l=>exact k.A
  exact S m j (p.A q O.b) fun γ' s t u v Y=>L γ' s t u v (O.B Y q N f.wf)
 ·rename_i Z
  refine K f j p fun γ' s t u z p'=> ?_;have:=L γ' s t u z p'
  cases e with
  |a g h=>grind
  |b i g h=>exact this
  |c g h=>exact this
theorem Jqk (k:Yc P ρ base self)(hρ:∀i,(ρ i).oneCell'=true)(hm:P.follows .mixedOrders=true)(X:Nat):∀(v:Code) {K m:List (List Nat)} {z:C},Yh P n v K=some (z,m)->Jen P ρ base n v (evD self X z):=by
 intro v
 induction v with
 | skip=>
   intro K m z d γ c w a fr st out Q f h u s;simp[Yh]at d;rw[<-d.1]at h;simp[evD]at h;subst h;exact wp_skip (s _ _ _ _ f (Q3.A f.rel))
 | region id Z ab=>
   intro K m z d γ c w a fr st out Q f h u s;simp only[Yh]at d;obtain⟨ah,q,p⟩:=JJ d;injection p with p _;subst p;unfold Jd9 at q
   split at q
   ·rename_i l hl
    split at q
    ·cases q
    ·rename_i hd
     split at q
     ·rename_i is ad
      cases ab with
      | false=>
        simp at q;subst q;simp only[evD]at h;obtain⟨⟨L,M⟩,e1,e2⟩:=JJ h;subst e2;refine wp_region ?_;rw[List.range_eq_range',show Z.size=Z.toList.length by simp];exact JnJ k hρ Z.toList l is 0 ad (fun j o hj=>by grind) hl f e1 u fun γ' S N O r T=>s γ' S N O r T
      | true=>
        simp only[ZT]at q;obtain⟨ai,hp,p⟩:=JJ q;subst p;simp[evD]at h
        split at h
        ·rename_i L M e1
         split at h
         ·rename_i ag
          injection h with h;subst h;exact Jst k hρ hm hl ad (by grind) hp f e1 ag u fun γ' S N O r T=>s γ' S N O r T
         grind
        grind
     grind
   grind
 | seq x y U W=>
   intro K m z d;simp[Yh]at d
   split at d
   ·split at d
    ·cases d
    ·rename_i Y ae
     split at d
     ·rename_i x' aa hx
      split at d
      ·rename_i y' af hy
       injection d with d;injection d with d _;subst d;exact JnL (live:=none) (U hx) (W hy) (fun _ _ _ q p=>jV k X x' q p) (fun _ _ _ q p=>jV k X y' q p)
      grind
     grind
   ·split at d
    ·rename_i x' aa hx
     split at d
     ·rename_i y' af hy
      injection d with d;injection d with d _;subst d;exact JnL (live:=none) (U hx) (W hy) (fun _ _ _ q p=>jV k X x' q p) (fun _ _ _ q p=>jV k X y' q p)
     grind
    grind
 | cond t x y U W=>
   intro K m z d γ c w a fr st out Q f h u s;simp[Yh]at d
   split at d
   ·rename_i t' ht
    split at d
    ·rename_i x' aa hx
     split at d
     ·rename_i y' af hy
      injection d with d;injection d with d _;subst d;have hr:=Jm ht f.e;simp[evD]at h
      split at h
      ·rename_i b hb
       rw[hb]at hr;have hr:a.eval t= .bool b:=hr;refine wp_cond hr ?_
       cases b with
       |true=>exact U hx f h u s
       |false=>exact W hy f h u s
      grind
     grind
    grind
   grind
 | block id b ih=>
   intro K m z d γ c w a fr st out Q f h u s;simp only[Yh]at d;obtain⟨⟨b',ae⟩,hb,p⟩:=JJ d;injection p with p _;subst p;refine wp_block ?_;simp[evD]at h
   split at h
   ·rename_i i L M q
    split at h
    ·rename_i hi
     injection h with h;subst h;refine ih hb f q u fun γ' S N O r T=> ?_;have:=s γ' S N O r T;show Exit.inBlock id Q (.exit i) N O;simp[Exit.inBlock,hi];exact this
    ·rename_i hi
     injection h with h;subst h;refine ih hb f q u fun γ' S N O r T=> ?_;have:=s γ' S N O r T;show Exit.inBlock id Q (.exit i) N O;simp[Exit.inBlock,hi];exact this
   ·rename_i aj
    refine ih hb f h u fun γ' S N O r T=> ?_;have:=s γ' S N O r T
    cases out with
    |a L M=>exact this
    |b i L M=>grind
    |c L M=>exact this
 | loop b ih=>
   intro K m z d γ c w a fr st out Q f h u s;simp[Yh]at d
   split at d
   ·cases d
   ·rename_i Y ae
    obtain⟨⟨b',aa⟩,hb,p⟩:=JJ d;injection p with p _;subst p;simp[evD]at h;exact wp_loop_rounds X (Jlf (fun _ _ _ q p=>jV k X b' q p) (ih hb) Y X f h u s)
 | exit id=>
   intro K m z d γ c w a fr st out Q f h u s;simp[Yh]at d;rw[<-d.1]at h;simp[evD]at h;subst h;exact wp_exit (s _ _ _ _ f (Q3.A f.rel))
 | ret=>
   intro K m z d γ c w a fr st out Q f h u s;simp[Yh]at d;rw[<-d.1]at h;simp[evD]at h;subst h;exact wp_ret (s _ _ _ _ f (Q3.A f.rel))
 | rangeFunc g ps x y=>
   intro K m z d γ c w a fr st out Q f h u s;simp[Yh]at d;rw[<-d.1]at h;simp only[evD,Opd.A]at h
   cases h
 |_=>intro K m z d;simp[Yh]at d
end
def KQ (P:Program)(ρ:Nat->Value)(base:Bs)(f:Nat)(b:Self->List V->St->Option (V×St)):Prop:=
 ∀ self, Yc P ρ base self -> ∀ args st v st', b self args st = some (v, st') -> WF st -> Mono st st' /\ (∃ fn, P.funcs[f]? = some fn /\ fn.body.isSome = true /\ fn.name ≠ "runtime.NumGoroutine") /\
  ∀γ c w xs,RL γ ρ args xs->Rel γ ρ base c w->Full γ c st->YA γ st st'->
   Calls P f xs.toArray w fun e w'=>∃y γ' c',e= .returned y/\Post γ ρ base c st st' w v γ' c' y w'
theorem Jko {P:Program}{ρ:Nat->Value}{a:Bs}{T:Table}(h:∀f b,T f=some b->KQ P ρ a f b):∀n,Yc P ρ a (run T n)
 |0=>fun f args e v c d _=>by cases d
 | n+1=>fun f args e v c d g=>by
   simp[run]at d
   split at d
   ·rename_i b i
    exact h f b i (run T n) (Jko h n) args e v c d g
   grind
section
variable {P : Program} {γ : Locs} {ρ : Nat -> Value} {base : Bs} {st : St} {c : Pt -> Row} {w : World} {fr : Fr} {a : Act} {self : Self} {n : Nat}
theorem Jsu (h:At P γ ρ base n st c w fr a){r:ResultVar}{s:RS}(f:jx P r=some s)(g:jR fr st s=some u):
  ∃y,((match r with
   | .tmp t=>pure (a.tmps.getD t undef)
   | .cell p t=>do loadVar t (<-asAddr (a.tmps.getD p undef))):Sem Value).run P w= .ok y w/\R γ ρ u y:=by
 cases r with
 | tmp t=>
   simp[jx]at f;subst f;simp[jR]at g;subst g;exact⟨_,rfl,h.e t⟩
 | cell p t=>
   simp[jx]at f
   split at f
   ·rename_i T i L
    injection f with f;subst f;simp only[jR]at g;obtain⟨l,j,M⟩:=JJ g;subst M;obtain⟨N,k,m,o,q⟩:=YX (P:=P) h.rel (h.e p) (fun r _ x z=>h.b r x z) j;refine⟨.agg k.toArray, ?_,⟨k,rfl,o⟩⟩;simp[m,asAddr,qV i L q]
   ·rename_i i
    injection f with f;subst f;simp[jR]at g
    split at g
    ·rename_i d j
     injection g with g;subst g;obtain⟨N,k,m,o,q⟩:=YX (P:=P) h.rel (h.e p) (fun r _ x z=>h.b r x z) j;obtain⟨y,O,Q,S,K⟩:=o;simp[RL]at K;subst K;subst Q;refine⟨y, ?_,S⟩;simp[m,asAddr,qW i (Jh2 q)]
    grind
   grind
theorem Jlg (h:At P γ ρ base n st c w fr a):∀{i:List ResultVar} {j:List RS} {k:List V},i.mapM (jx P)=some j->j.mapM (jR fr st)=some k->
  ∃e,(i.mapM fun r=>((match r with
   | .tmp t=>pure (a.tmps.getD t undef)
   | .cell p t=>do loadVar t (<-asAddr (a.tmps.getD p undef))):Sem Value)).run P w= .ok e w/\RL γ ρ k e
 | [],j,k,b,d=>by
   simp at b;subst b;simp at d;subst d;exact⟨[],by simp,rfl⟩
 | r::i,j,k,b,d=>by
   rw[Zx]at b
   cases m:jx P r with
   |none=>grind
   | some s=>
     cases f:i.mapM (jx P)with
     |none=>grind
     | some l=>
       simp[m,f]at b;subst b;rw[Zx]at d
       cases o:jR fr st s with
       |none=>grind
       | some v=>
         cases g:l.mapM (jR fr st)with
         |none=>grind
         | some q=>
           simp[o,g]at d;subst d;obtain⟨y,z,u⟩:=Jsu h m o;obtain⟨e,K,x⟩:=Jlg h f g;refine⟨y::e, ?_,y,e,rfl,u,x⟩
           simp_all
theorem Jkp (h:At P γ ρ base n st c w fr a){f:Func}{m:List RS}(q:f.results.toList.mapM (jx P)=some m)(g:QA m fr st=some u):∃y,(results f a.tmps).run P w= .ok y w/\R γ ρ u y:=by
 unfold QA at g;have i:∀j,m.mapM (jR fr st)=some j->∃d,(results f a.tmps).run P w= .ok (if h:d.toArray.size=1 then d.toArray[0]else .tuple d.toArray) w/\RL γ ρ j d:=fun j o=>by
  obtain⟨d,l,k⟩:=Jlg h q o;refine⟨d, ?_,k⟩;unfold results;rw[Sem.run_bind,GK];simp only[map_eq_pure_bind,Sem.run_bind];erw [l];rfl
 split at g
 ·rename_i b p
  injection g with g;subst g;obtain⟨d,l,y,r,k,x,s⟩:=i _ p;simp[RL]at s
  grind
 ·rename_i j z p
  injection g with g;subst g;obtain⟨d,l,k⟩:=i _ p;have K:=k.A;refine⟨.tuple d.toArray, ?_,⟨d,rfl,k⟩⟩;rw[l];have:¬d.toArray.size=1:=fun e=>by
   have:j.length=1:=by grind
   obtain⟨b,t⟩:=Hc.1 this
   grind
  grind
 grind
theorem Jql {args:List V}(h:RL γ ρ args f):FR γ ρ (qr args) {tmps:=f.toArray++Array.replicate s undef,defers:=[]}:=by
 intro i;unfold qr;have d:=h.A
 cases b:args[i]? with
 | some v=>
   obtain⟨x,a,e⟩:=h.H b;have:(f.toArray++Array.replicate s undef).getD i undef=x:=by
    have c:i<f.length:=(Xz.1 a).1;rw[XR,Array.getElem?_append_left (by omega)];simp[a]
   grind
 | none=>
   have c:f.length<=i:=by grind
   have:(f.toArray++Array.replicate s undef).getD i undef=undef:=by
    rw[XR,Array.getElem?_append_right (by omega),GQ]
    grind
   simp[this];exact⟨[],rfl,rfl⟩
theorem Jtp (hρ : ∀ i, (ρ i).oneCell' = true) (hm : P.follows .mixedOrders = true) {f : Nat} {fn : Func} {hs : List (List Nat)} {cf : Fn} (h1 : P.funcs[f]? = some fn) (h2 : Jhh P fn hs = some cf) (h3 : fn.name ≠ "runtime.NumGoroutine") (lf : Nat) :
  KQ P ρ base f (evFn lf cf):=by
 intro self hself args st v st' he hw;unfold Jhh at h2
 split at h2
 ·rename_i code rs hbody hrs
  split at h2
  ·rename_i hle
   split at h2
   ·rename_i cc hs' hcc
    injection h2 with h2;subst h2;have key:∃out,evD self lf cc (qr args) st=some out/\(out.B= .normal\/out.B= .ret)/\QA rs out.D out.A=some v/\st'=out.A:=by
     unfold evFn at he;simp at he
     split at he
     ·rename_i fr1 st1 h5
      obtain⟨v',h6,h7⟩:=JJ he;injection h7 with h7 h8;exact⟨_,h5, .inl rfl,by rw[h7]at h6;exact h6,h8.symm⟩
     ·rename_i fr1 st1 h5
      obtain⟨v',h6,h7⟩:=JJ he;injection h7 with h7 h8;exact⟨_,h5, .inr rfl,by rw[h7]at h6;exact h6,h8.symm⟩
     grind
    obtain⟨out,k1,k2,k3,k4⟩:=key;subst k4;refine⟨jV hself lf cc k1 hw,⟨fn,h1,by grind,h3⟩,fun γ c w xs hx hrel hfull hfresh=> ?_⟩;refine calls_of_wp h1 hbody ?_;refine Jqk hself hρ hm lf code hcc (out:=out) ⟨Jql hx,⟨?_,rfl⟩,hrel,hfull,hw⟩ k1 hfresh fun γ' c' a' w' at' p'=> ?_
    ·grind
    ·obtain⟨y,e1,e2⟩:=Jkp at' hrs k3;have fin:a'.defers=[]/\∃v,(results fn a'.tmps).run P w'= .ok v w'/\∃y γ'' c'',Ending.returned v= .returned y/\Post γ ρ base c st out.A w ‹V› γ'' c'' y w':=
      ⟨at'.d.b,y,e1,y,γ',c',rfl,e2,p'.rel,p'.f,p'.b,p'.a,p'.d,p'.below⟩
     rcases k2 with k2|k2<;>rw[k2]<;>exact fin
   grind
  grind
 grind
end
section
variable {P : Program} {γ : Locs} {ρ : Nat -> Value} {base : Bs} {c : Pt -> Row} {w : World}
theorem Qr.below {l:Loc}{a:Row}(c:g.heap[l.b]? =w.heap[l.b]?)(k:Qr γ ρ l a w):Qr γ ρ l a g:=k.A (Ext.A _) c
theorem Rel.below (h:Rel γ ρ base c w){g:World}(e:Below w.heap.size w g):Rel γ ρ base c g:=by
 have i:=e.size;refine⟨by have:=h.y;omega,fun b k=> ?_,fun r l k=> ?_,fun r k=> ?_,h.z,h.B,h.H⟩
 ·rw[<-h.j b k];exact e.block b (by have:=h.y;omega)
 ·have:=h.d r l k;grind
 ·obtain⟨l,a,b⟩:=h.f r k;exact⟨l,a,b.below (e.block l.b (h.d r l a).2)⟩
theorem Jlh {f : Nat} {fn : Func} (h1 : P.funcs[f]? = some fn) (h2 : fn.body.isSome = true) (h3 : fn.name ≠ "runtime.NumGoroutine") {g : List V -> Option V}
  (hc:∀args v,g args=some v->∀γ c w xs,RL γ ρ args xs->Rel γ ρ base c w->Calls P f xs.toArray w fun e w'=>∃y,e= .returned y/\R γ ρ v y/\Below w.heap.size w w'):
  KQ P ρ base f fun _ args st=>match g args with
   |some v=>some (v,st)
   |none=>none:=by
 intro self _ args st v st' he hw;have he:(match g args with
  |some v=>some (v,st)
  |none=>none)=some (v,st'):=he
 split at he
 ·rename_i u hg
  injection he with he;injection he with e1 e2;subst e1;subst e2;refine⟨Mono.B hw,⟨fn,h1,h2,h3⟩,fun γ c w xs hx hrel _ _=> ?_⟩;refine(hc args u hg γ c w xs hx hrel).mono fun e w' ⟨y,e1,e2,e3⟩=> ?_;exact⟨y,γ,c,e1,e2,hrel.below e3,Ext.A _,fun _ k=> .inl k,fun _ _=>rfl,fun _ k=>absurd rfl k,e3.mono hrel.y⟩
 grind
theorem JnM {T:Table}{w:World}(h:∀i b,T i=some b->KQ P ρ ⟨w.heap.size,w⟩ i b){args:List V}(g:run T s i args St.H=some (u,z))(j:RL (fun _=>none) ρ args f):
  Calls P i f.toArray w fun e c=>∃y γ',e= .returned y/\R γ' ρ u y/\Below w.heap.size w c:=by
 have a:∀r,St.H.A r= .none:=fun r=>by simp[St.A,St.H]
 obtain⟨_,_,l⟩:=Jko h s i args St.H u z g ⟨fun r e=>absurd (a r) e,fun r e=>absurd (a r) e⟩;refine(l (fun _=>none) (fun _=> .none) w f j ⟨Xb _,fun _ _=>rfl,fun _ _ k=>(by cases k),fun _ k=>absurd rfl k,fun _ _ k=>(by cases k),fun _ _ _ _ _ k=>(by cases k),fun _ _ k=>(by cases k)⟩ (fun r _ k=>absurd (a r) k) fun _ _ _=>rfl).mono fun e c ⟨y,γ',o,m,d⟩=> ?_;exact⟨y,γ',m,d.f,d.below⟩
def Pt.G :Nat->Pt
 |0=> .h
 |n+1=>(Pt.G n).F
theorem Pt.B :∀n,(Pt.G n).A=n
 |0=>rfl
 |n+1=>by rw[Pt.G,Pt.D,Pt.B n]
def rosR :List (List V)->St
 |[]=>St.H
 |l::r=>(rosR r).B fun _=> .f l
theorem JbZ :∀L,(rosR L).b=Pt.G L.length
 |[]=>rfl
 |_::r=>by show((rosR r).b).F=_;rw[JbZ r];rfl
theorem JnN :∀L,(rosR L).t=L.length
 |[]=>rfl
 |_::r=>by show(rosR r).t+1=_;rw[JnN r];rfl
theorem jW :∀(L:List (List V)) (r:Pt),(rosR L).A r=if r.A<L.length then .f (L.getD (L.length-1-r.A) [])else .none
 |[],r=>by simp[rosR,St.A,St.H]
 | l::L,r=>by
   show((rosR L).B fun _=> .f l).A r=_;rw[St.F];by_cases e:r=(rosR L).b
   ·subst e;rw[JG,JbZ,Pt.B];simp
   ·have a:r.A≠L.length:=fun h=>e (by rw[JbZ];exact Pt.H (by rw[Pt.B,h]));rw[Ju _ _ e,jW L r]
    grind
theorem Jli (L:List (List V)):WF (rosR L):=by
 refine⟨fun r h=> ?_,fun r h=> ?_⟩
 ·rw[jW]at h;rw[JbZ,Pt.B]
  grind
 ·rw[jW]at h⊢;rw[JnN]
  split at h
  ·rename_i a;rw[Xd a];show 0<L.length;omega
  grind
def rosG (n:Nat)(locs:Nat->Loc):Locs:=fun r=>if r.A<n then some (locs r.A)else none
theorem Jht {T:Table}{w:World}(h:∀i b,T i=some b->KQ P ρ ⟨w.heap.size,w⟩ i b){L:List (List V)}{c:Nat->Loc}
  (x:∀a,a<L.length->Qr (rosG L.length c) ρ (c a) (.f (L.getD (L.length-1-a) [])) w/\(c a).b<w.heap.size)
   {args:List V}   (K:run T s i args (rosR L)=some (u,z))  (M:RL (rosG L.length c) ρ args f):
  Calls P i f.toArray w fun e m=>∃y γ',e= .returned y/\R γ' ρ u y/\Below w.heap.size w m:=by
 have j:∀r l,rosG L.length c r=some l->r.A<L.length/\l=c r.A:=fun r l k=>by
  unfold rosG at k
  grind
 have d:∀r,r.A<L.length->(rosR L).A r= .f (L.getD (L.length-1-r.A) []):=fun r k=>by rw[jW,Xd k]
 obtain⟨_,_,N⟩:=Jko h s i args (rosR L) u z K (Jli L);refine(N (rosG L.length c) (rosR L).A w f M ⟨Xb _,fun _ _=>rfl,fun r l k=> ?_,fun r k=> ?_,fun r l k o=> ?_,fun r q O S _ g _ p _=> ?_,fun r l k _=> ?_⟩ (fun r _ _=>rfl) fun r g _=> ?_).mono fun e m ⟨y,γ',U,Q,t⟩=> ?_
 ·obtain⟨g,rfl⟩:=j r l k;exact⟨fun e=>(by rw[d r g]at e;cases e),(x _ g).2⟩
 ·rw[jW]at k
  split at k
  ·rename_i g
   refine⟨c r.A,by unfold rosG;grind, ?_⟩
   grind
  grind
 ·grind
 ·obtain⟨o,_⟩:=j r O g;rw[d r o]at p;exact p.elim
 ·grind
 ·rw[JbZ,Pt.B]at g;unfold rosG
  grind
 ·exact⟨y,γ',Q,t.f,t.below⟩
end
def Jf5 (m n' v':Nat):Nat->Nat->Nat->Option Nat
 |0,_,_=>none
 |fuel+1,i,v=>if v%m=v' then some i else Jf5 m n' v' fuel (i+1) (v/256)
def Jeo (n v n' v':Nat):Option Nat:=if n'<=n then Jf5 (2^(8*n')) n' v' (n+1-n') 0 v else none
theorem Jep {a b:Nat}{s sub:List UInt8}(d:sub.length=a)(f:snum sub=b):∀(fuel i:Nat),i+fuel+a<=s.length+1->
  (∀k,Jf5 (2^(8*a)) a b fuel i (snum (s.drop i))=some k->i<=k/\k+a<=s.length/\Lib.occAt s sub k=true/\∀j,i<=j->j<k->Lib.occAt s sub j=false)/\
  (Jf5 (2^(8*a)) a b fuel i (snum (s.drop i))=none->∀j,i<=j->j<i+fuel->Lib.occAt s sub j=false)
 |0,i,_=>⟨fun k h=>by simp[Jf5]at h,fun _ j o p=>by omega⟩
 | fuel+1,i,g=>by
   have e:(snum (s.drop i)%2^(8*a)=b)<->Lib.occAt s sub i=true:=by
    rw[two8,JfV,Lib.occAt_iff_take s sub i (by omega),d];constructor
    ·intro h;have l:((s.drop i).take a).length=sub.length:=by grind
     have:=kY l (by omega)
     grind
    grind
   have c:snum (s.drop i)/256=snum (s.drop (i+1)):=by
    have:=JaI (s.drop i) 1
    simp_all
   obtain⟨m,n⟩:=Jep (s:=s) (sub:=sub) d f fuel (i+1) (by omega);simp[Jf5]
   grind
theorem Jdl (s c:List UInt8):Lib.index s c=match Jeo s.length (snum s) c.length (snum c)with
  |some i=>(i:Int)
  |none=> -1:=by
 unfold Jeo;by_cases f:c.length<=s.length
 ·rw[Xd f];obtain⟨m,o⟩:=Jep (s:=s) (sub:=c) rfl rfl (s.length+1-c.length) 0 (by omega);rw[XQ]at m o
  split
  ·rename_i k n
   obtain⟨a,b,d,e⟩:=m k n;exact Lib.index_first (by omega) d fun j g=>e j (XC _) g
  ·rename_i n
   refine Lib.index_none fun j g=> ?_;by_cases p:j<s.length+1-c.length
   ·grind
   ·cases l:Lib.occAt s c j with
    |false=>rfl
    | true=>
      rcases Lib.occAt_room l with h|h
      ·omega
      grind
 ·rw[Xa f];refine Lib.index_none fun j g=> ?_
  cases l:Lib.occAt s c j with
  |false=>rfl
  | true=>
    rcases Lib.occAt_room l with h|h
    ·omega
    grind
def kN :List V->Option V
 |[.t n v, .t n' v']=>if n<4294967281 then some (.h (Jeo n v n' v').isSome)else none
 |_=>none
theorem JnO {γ:Locs}{ρ:Nat->Value}{b:Nat}(h:RL γ ρ [.t s i, .t x b] f):
  ∃a t:ByteArray,f=[.string a, .string t]/\a.data.toList.length=s/\snum a.data.toList=i/\t.data.toList.length=x/\snum t.data.toList=b:=by
 obtain⟨y,e,g,⟨a,j,k,l⟩,m,c,o,⟨t,p,q,r⟩,d⟩:=h;simp[RL]at d
 grind
section
variable {P : Program} {ρ : Nat -> Value} {base : Bs}
theorem Jij {f : Nat} {fn : Func} (h1 : P.funcs[f]? = some fn) (h2 : fn.body.isSome = true) (h3 : fn.name ≠ "runtime.NumGoroutine") {g : Nat} {m : Int} (hg : g < base.n) (hm : base.w.cell? ⟨g, 0, none⟩ = some (.int .i64 m))
  (hc:∀(s sub:ByteArray) (m:Int) (w:World),s.size<4294967281->w.cell? ⟨g,0,none⟩=some (.int .i64 m)->Calls P f #[.string s, .string sub] w fun e w'=>e= .returned (.bool (Lib.contains s.data.toList sub.data.toList))/\w'=w):
  KQ P ρ base f fun _ args st=>match kN args with
   |some v=>some (v,st)
   |none=>none:=
 Jlh h1 h2 h3 fun args v hv γ c w xs hx hrel=>by
  unfold kN at hv
  split at hv
  ·rename_i n a n' a'
   split at hv
   ·rename_i hn
    obtain⟨s,t,e1,e2,e3,e4,e5⟩:=JnO hx;subst e1;have hcell:w.cell? ⟨g,0,none⟩=some (.int .i64 m):=by
     rw[<-hm];exact World.cell?_of_block (w:=base.w) (hrel.j g hg)
    refine(hc s t m w (by simp_all) hcell).mono fun e w' ⟨k1,k2⟩=> ?_;refine⟨_,k1, ?_,by rw[k2];exact Below.refl _ _⟩;injection hv with hv;subst hv;unfold Lib.contains;rw[Jdl,e2,e3,e4,e5];show Value.bool _=Value.bool _
    cases hi:Jeo n a n' a' with
    |some i=>simp
    |none=>simp
   grind
  grind
end
end Eva
