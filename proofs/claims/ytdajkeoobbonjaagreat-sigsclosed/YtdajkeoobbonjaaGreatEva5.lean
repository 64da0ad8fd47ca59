/- An evaluator of the model's code, proved to tell what the model does. Regions in order: -/
import Derived.Test.YtdajkeoobbonjaaGreatEva4
import Derived.LoopN
import Derived.Laws.Sem
import Derived.Lib.IndexMore
set_option linter.constructorNameAsVariable false
set_option linter.unusedVariables false
set_option linter.unusedSimpArgs false
set_option linter.unusedSectionVars false
namespace Eva
open Go Go.RowKit
variable {s i Z:Nat}{v u:Iop}{e:Exit->Act->World->Prop}{t o:St}{k:Pt}{z:List (List Nat×List Nat)}{b:V}{d:List Nat}{r:Fr}{q:Fr->St->Option Out}{p:Self}{f:Option (List Nat)}{h:Array Oper}{g:Oper}{m:List Value}{j:World}{x:Act->World->Prop}{y:Bool}
section
variable {P : Program} {γ : Locs} {ρ : Nat -> Value} {base : Bs} {st : St} {c : Pt -> Row} {w : World} {fr : Fr} {a : Act}
structure At (P:Program) (γ:Locs) (ρ:Nat->Value) (base:Bs) (n:Nat) (st:St) (c:Pt->Row) (w:World) (fr:Fr) (a:Act):Prop where
 e:FR γ ρ fr a
 d:JdH n a
 rel:Rel γ ρ base c w
 b:Full γ c st
 wf:WF st
theorem JbE {self:Self}(b:Ye P ρ base self){x:Ins}(a:Yq self false fr st x=some (r,t))(d:WF st):Mono st t:=by
 have g:evGo self false fr st x=some (r,t)->Mono st t:=fun h=>by
  unfold evGo at h;simp at h
  split at h
  ·rename_i v e f
   injection h with h;injection h with _ c;subst c;exact Y3 b f d
  grind
 unfold Yq at a
 split at a
 ·grind
 ·split at a
  ·split at a
   ·grind
   ·injection a with a;injection a with _ c;subst c;exact Mono.B d
  ·injection a with a;injection a with _ c;subst c;exact Mono.B d
  grind
theorem Jbn {self:Self}(a:Ye P ρ base self):∀{l:List Ins} {fr c:Fr} {st b:St},Kj self false l fr st=some (c,b)->WF st->Mono st b
 | [],fr,c,st,b,h,d=>by
   simp[Kj]at h;rw[<-h.2];exact Mono.B d
 | x::l,fr,c,st,b,h,d=>by
   simp[Kj]at h
   split at h
   ·rename_i f g i
    have e:=JbE a i d;exact e.A (Jbn a h e.wf)
   grind
theorem YF.B (h:YF γ st o)(m:Mono t o):YF γ st t:=fun r a b=>h r a (by have:=m.i;omega)
theorem YF.A {γ1:Locs}{a c:St}(h:YF γ st c)(m:Mono st a)(d:∀r,γ1 r≠none->γ r≠none\/(st.b.A<=r.A/\r.A<a.b.A)):YF γ1 a c:=fun r g f=>by
 apply Xd;intro e;have j:=m.i;rcases d r e with k|k
 ·exact k (h r (by omega) f)
 ·omega
theorem Jtb {self:Self}(u:Ye P ρ base self)(hρ:∀j,(ρ j).oneCell'=true){l:List Iop}{L:Ins}(U:jz h s l false i g v=some L)(W:YI P g=some v)
  (m:At P γ ρ base s st c w fr a)   (X:Yq self false fr st L=some (r,t)) (Y:YF γ st t) {K:Act->World->Prop} {Q:Exit->Act->World->Prop}
  (Z:∀γ' J a' z,At P γ' ρ base s t J z r a'->Q0 γ ρ base c st t w γ' J z->K a' z):
  (if Region.wanted g (yielded h a.tmps)then g.wp P a w K Q else K (a.put g.dst undef) w):=by
 have hm:=JbE u X m.wf;obtain⟨q1,q2,q3,q4,q5⟩:=Yl U;rcases Jgn U X m.d (fun n _=>m.e n)with⟨O,q,M,S⟩|⟨O,M,S⟩
 ·rw[O,Xe rfl];simp at M;have N:∀y γ' J z,Post γ ρ base c st t w q γ' J y z->K (a.put g.dst y) z:=fun y γ' J z p=>
   Z γ' J _ z ⟨by rw[S];exact FR.A m.e p.d m.d q3 p.f,m.d.A _ _,p.rel,p.s.D m.wf m.b,hm.wf⟩ p.s
  cases hx:v.A with
  |true=>exact JlM u W hx M m.wf (fun y _ xo T=>Jk T m.e) m.rel m.b Y N
  | false=>
    obtain⟨e,e1,e2⟩:=Ja0 hx M;subst e2;exact Jr7 m.wf (Jaw e1).1 (JeF hρ W e1 m.e m.rel m.b.A (Post.A Y)) N
 ·rw[O,Xa (by decide)];subst M;exact Z γ c _ w ⟨by rw[S];exact FR.A m.e (Ext.A _) m.d q3 ⟨[],rfl,rfl⟩,m.d.A _ _,m.rel,m.b,m.wf⟩ (Q0.A m.rel)
theorem Jod {self:Self}(d:Ye P ρ base self)(Y:∀i,(ρ i).oneCell'=true){g:Array Oper}{e:Nat}{l:List Iop}{Q:Exit->Act->World->Prop}:
  ∀(n:List Oper) (z:List Iop) (J:List Ins) (k:Nat),QL g e l false k n z=some J->(∀(j:Nat) (o:Oper),n[j]? =some o->g[k+j]? =some o)->n.mapM (YI P)=some z->
  ∀{γ:Locs} {c:Pt->Row} {w:World} {a:Act} {fr m:Fr} {st f:St},At P γ ρ base e st c w fr a->Kj self false J fr st=some (m,f)->YF γ st f->
   (∀γ' L M t,At P γ' ρ base e f L t m M->Q0 γ ρ base c st f w γ' L t->Q .normal M t)->wpOps P g Q (List.range' k n.length) a w
 | [],z,J,k,p,N,s,γ,c,w,a,fr,m,st,f,h,q,O,S=>by
   simp at s;subst s;simp[QL]at p;subst p;simp[Kj]at q;obtain⟨e1,e2⟩:=q;subst e1;subst e2;exact S _ _ _ _ h (Q0.A h.rel)
 | o::n,z,J,k,p,N,s,γ,c,w,a,fr,m,st,f,h,q,O,S=>by
   rw[Zt]at s
   cases Z:YI P o with
   |none=>grind
   | some x=>
     cases u:n.mapM (YI P)with
     |none=>grind
     | some T=>
       simp[Z,u]at s;subst s;simp[QL]at p
       split at p
       ·rename_i y r hy hr
        injection p with p;subst p;simp[Kj]at q
        split at q
        ·rename_i ab ad v
         have U:=JbE d v h.wf;have m2:=Jbn d q U.wf;have ho:g[k]? =some o:=N 0 o rfl;have aa:=Jtb (K:=wpOps P g Q (List.range' (k+1) n.length)) (Q:=Q) d Y hy Z h v (O.B m2) fun γ1 c1 a1 w1 W p1=>
          Jod d Y n T r (k+1) hr (fun j o' hj=>by have:=N (j+1) o' (by grind);grind) u W q (O.A U p1.b)
           fun γ' L M t X p2=>S γ' L M t X (p1.B p2 U m2 h.wf)
         simp only[XF,GY,wpOps,ho]
         grind
        grind
       grind
end
theorem Jcd (S:Nat->Prop)(a:Array Nat)(b:∀k i,S k->(a.getD k 0).testBit i=true->S i):∀(l:List Edge) (s:Nat),(∀e∈l,Region.binds .any e=true->S e.on)->(∀i,s.testBit i=true->S i)->
  ∀i,(l.foldl (fun s e=>if Region.binds .any e then s|||2^e.on|||a.getD e.on 0 else s) s).testBit i=true->S i
 |[],s,_,c,i,h=>c i h
 | e::l,s,d,c,i,h=>by
   simp only[Zz]at h;refine Jcd S a b l _ (fun f g=>d f (by grind)) (fun j m=> ?_) i h
   grind
theorem Jgo (S:Nat->Prop):∀(l:List Oper) (a:Array Nat),(∀(j:Nat) (o:Oper),l[j]? =some o->S (a.size+j)->∀e∈o.after,Region.binds .any e=true->S e.on)->
  (∀k i,S k->(a.getD k 0).testBit i=true->S i)->
  ∀k i,S k->((l.foldl (fun a o=>a.push (o.after.foldl (fun s e=>if Region.binds .any e then s|||2^e.on|||a.getD e.on 0 else s) 0)) a).getD k 0).testBit i=true->S i
 |[],a,_,b=>b
 | o::l,a,f,b=>by
   simp only[Zz];refine Jgo S l _ (fun j m p q=>f (j+1) m (by grind) (by grind)) (fun k i g c=> ?_);by_cases n:k<a.size
   ·refine b k i g ?_;rw[XR,Gf,Xa (by omega)]at c
    simp_all
   ·by_cases d:k=a.size
    ·subst d;rw[XR,Gf,Xe rfl,GX,<-GL]at c;exact Jcd S a b o.after.toList 0 (fun e r=>f 0 o rfl g e (by grind)) (fun i h=>by simp at h) i c
    grind
theorem jQ {S:Nat->Prop}(b:∀(k:Nat) (o:Oper),h[k]? =some o->S k->∀e∈o.after,Region.binds .any e=true->S e.on):
  ∀k i,S k->((Region.before h).getD k 0).testBit i=true->S i:=by
 unfold Region.before;rw[<-GL];exact Jgo S h.toList #[] (fun j o c d=>b j o (by grind) (by grind)) (fun k i _ a=>by simp at a)
theorem qL {α:Type}:∀{L:List (Option (List α))} {r:List α},Jbw L=some r->∀o∈L,∃x,o=some x/\∀y∈x,y∈r
 |[],_,_,o,a=>by grind
 |none::_,_,h,_,_=>by simp[Jbw]at h
 | some x::L,r,h,o,a=>by
   simp[Jbw]at h
   split at h
   ·rename_i y b
    injection h with h;subst h;rcases Xq.1 a with e|e
    ·grind
    ·obtain⟨u,c,d⟩:=qL b o e
     grind
   grind
section
variable {ops : Array Oper} {l : List Iop}
theorem JiG (h:okWs ops l s=some d)(f:i<ops.size)(g:l[i]? =some v)(b:i≠s)(j:v.H=false)(m:ordered (Region.before ops) s i=false):
  ∃c,v.B=some c/\i<s/\v.G=false/\(∀a∈c,YJ ops i a=true)/\∀a∈c,a∈d:=by
 obtain⟨x,n,o⟩:=qL h (okW1 ops l (Region.before ops) s i) (Xz.2 ⟨i,Zh.2 f,rfl⟩);simp[okW1,g,j,m,GH.2 b]at n
 grind
theorem Jc8 (h:JlE ops l=some z)(d:s<ops.size)(f:i<ops.size)(g:l[s]? =some v)(j:l[i]? =some u)(b:s≠i)
  (m:v.G=true) (n:v.A=false) (o:u.H=false) (p:ordered (Region.before ops) s i=false):
  (Jbx ops s i u v=true)\/∃c,u.B=some c/\v.D≠[]/\(∀a∈v.D,YJ ops s a=true)/\(∀a∈c,YJ ops i a=true)/\(v.D,c)∈z:=by
 obtain⟨q,t,J⟩:=qL h _ (Xz.2 ⟨s,Zh.2 d,rfl⟩);obtain⟨K,w,L⟩:=qL t _ (Xz.2 ⟨i,Zh.2 f,rfl⟩);simp[Jr3,g,j,GH.2 b,m,n,o,p]at w
 grind
theorem JkT (h:YJ ops s i=true)(a:Z<ops.size)(b:s<=Z):Jae ops Z≠some i:=by
 simp[YJ]at h
 grind
theorem kJ {b:Array Nat}:ordered b s i=ordered b i s:=by
 unfold ordered
 grind
theorem Jce (h:Jbv ops l=true)(e:ops[s]? =some g)(n:l[s]? =some v){k:Nat}(f:k<ops.size)(b:k≠s)(j:Jae ops k=some i)(p:i∈names ops g v):
  ordered (Region.before ops) s k=true:=by
 have q:s<ops.size:=(Xy.1 e).1;simp only[Jbv,Ze,Zh]at h;have m:=h s q;simp only[e,n,Xk,Ze,Zh]at m;have c:=m.2 k f;have a:ops[k]? =some ops[k]:=X5 f;simp only[Jae,a,HR]at j;simp only[GH.2 b,a,j,ZQ]at c;have r:(names ops g v).contains i=true:=by grind
 rw[r]at c;simpa[ordered]using c
def Closed (ops:Array Oper)(S:Nat->Prop):Prop:=∀(k:Nat) (o:Oper),ops[k]? =some o->S k->∀e∈o.after,Region.binds .any e=true->S e.on
theorem JbF {S:Nat->Prop}(d:Closed ops S)(c:Closed ops fun a=>S a\/a=s)(f:¬S s)(g:i≠s)(b:ordered (Region.before ops) s i=true):S i<->i<s:=by
 unfold ordered at b;constructor
 ·intro h;apply Xd;intro l;rw[HS (by omega),Zd (by omega)]at b;exact f (jQ d i s h b)
 ·intro h;rw[Nat.max_eq_left (by omega),Nat.min_eq_right (by omega)]at b;rcases jQ c s i (.inr rfl) b with e|e
  ·exact e
  omega
theorem Jf9 (h:v.B=some d)(b:v.H=false):∀s∈v.D,s∈d:=by
 intro s a
 cases v<;>simp[Iop.B]at h<;>simp[Iop.D]at a<;>first
  |grind
  |grind
  |grind
theorem JiH (h:v.H=true):v.B=some []:=by
 cases v<;>first|rfl|cases h
theorem JdI (h:v.G=true):v.H=false:=by
 cases v<;>first|rfl|cases h
theorem YN (h:v.A=true):v.H=false/\v.B=none:=by
 cases v<;>first|exact⟨rfl,rfl⟩|cases h
end
section
variable {P : Program} {γ : Locs} {ρ : Nat -> Value} {base : Bs} {st : St} {c : Pt -> Row} {w : World} {fr : Fr} {a : Act}
theorem trace {self:Self}{c:Bool}:∀{d:List Ins} {fr a:Fr} {st b:St},Kj self c d fr st=some (a,b)->
  ∃F:Nat->Fr×St,F 0=(fr,st)/\F d.length=(a,b)/\∀i x,d[i]? =some x->Yq self c (F i).1 (F i).2 x=some (F (i+1))
 | [],fr,a,st,b,h=>by
   simp[Kj]at h;exact⟨fun _=>(fr,st),rfl,by grind,fun i x j=>by grind⟩
 | x::d,fr,a,st,b,h=>by
   simp[Kj]at h
   split at h
   ·rename_i e f k
    obtain⟨F,l,g,m⟩:=trace h;refine⟨fun i=>match i with|0=>(fr,st)|i+1=>F i,rfl,g,fun i y n=> ?_⟩
    grind
   grind
theorem qM {self:Self}(e:KQ self f fr st v=some (b,t)):
  ∃c d,KW self fr {st with a:=st.t} v=some (b,c)/\t={c with a:=d}/\d<=st.a/\(c.a<st.t->d<=c.a/\∃l,f=some l/\still fr c st.t l=true):=by
 unfold KQ at e
 grind
theorem Jq (h:WF st)(n:Nat):WF {st with a:=n}:=⟨h.a,h.t⟩
theorem Jbo {self:Self}(c:Ye P ρ base self)(k:KQ self f fr st v=some (b,t))(g:WF st):Mono st t:=by
 obtain⟨e,q,l,n,o,s⟩:=qM k;have m:=Y3 c l (Jq g _);subst n;refine⟨⟨m.wf.a,m.wf.t⟩,m.t,m.i,m.d,o,fun r h p=> ?_,m.f⟩;have u:e.a<=(st.A r).A:=m.j r h p;have w:=g.t r h
 grind
theorem kV {self:Self}{x:Ins}{fr':Fr}{st':St}(a:Yq self y fr st x=some (fr',st')):
  ∃v,fr'=put fr x.b v/\(st'=st\/(if y&&x.d.A then KQ self x.c fr st x.d else KW self fr st x.d)=some (v,st')):=by
 have e:evGo self y fr st x=some (fr',st')->∃v,fr'=put fr x.b v/\(if y&&x.d.A then KQ self x.c fr st x.d else KW self fr st x.d)=some (v,st'):=fun h=>by
  unfold evGo at h
  grind
 unfold Yq at a
 grind
structure Canon (P:Program) (γ₀:Locs) (ρ:Nat->Value) (base:Bs) (c₀:Pt->Row) (ops:Array Oper) (ntmps:Nat) (l:List Iop) (slf:Self) (F:Nat->Fr×St):Prop where
 a:Ye P ρ base slf
 q:∀i,(ρ i).oneCell'=true
 w:∀(i:Nat) (o:Oper),ops[i]? =some o->∃x y,l[i]? =some x/\YI P o=some x/\jz ops ntmps l true i o x=some y/\Yq slf true (F i).1 (F i).2 y=some (F (i+1))
 u:WF (F 0).2
 b:Jbv ops l=true
 g:∃r,JlE ops l=some r/\JM (F ops.size).1 r=true
 c:YF γ₀ (F 0).2 (F ops.size).2
 n:Full γ₀ c₀ (F 0).2
def born (F:Nat->Fr×St)(j:Nat)(r:Pt):Prop:=(F j).2.b.A<=r.A/\r.A<(F (j+1)).2.b.A
def tch (F:Nat->Fr×St)(j:Nat)(r:Pt):Prop:=(F (j+1)).2.A r≠(F j).2.A r
section
variable {γ₀ : Locs} {c₀ : Pt -> Row} {ops : Array Oper} {ntmps : Nat} {l : List Iop} {self : Self} {F : Nat -> Fr × St}
theorem Canon.I (h:Canon P γ₀ ρ base c₀ ops ntmps l self F)(d:i<ops.size):∃o x y,ops[i]? =some o/\l[i]? =some x/\YI P o=some x/\jz ops ntmps l true i o x=some y/\Yq self true (F i).1 (F i).2 y=some (F (i+1)):=by
 obtain⟨x,y,e⟩:=h.w i ops[i] (X5 d)
 grind
theorem Canon.H (h:Canon P γ₀ ρ base c₀ ops ntmps l self F)(f:i<ops.size)(e:WF (F i).2):Mono (F i).2 (F (i+1)).2:=by
 obtain⟨o,x,y,k,m,p,r,j⟩:=h.I f;obtain⟨v,s,d⟩:=kV (fr':=(F (i+1)).1) (st':=(F (i+1)).2) j;rcases d with d|d
 ·rw[d];exact Mono.B e
 ·split at d
  ·exact Jbo h.a d e
  ·exact Y3 h.a d e
theorem Canon.O (h:Canon P γ₀ ρ base c₀ ops ntmps l self F):∀i,i<=ops.size->WF (F i).2
 |0,_=>h.u
 |i+1,d=>(h.H (by omega) (h.O i (by omega))).wf
theorem Canon.Q (h:Canon P γ₀ ρ base c₀ ops ntmps l self F){i:Nat}:∀d,i+d<=ops.size->Mono (F i).2 (F (i+d)).2
 |0,e=>Mono.B (h.O i e)
 |d+1,e=>(h.Q d (by omega)).A (h.H (i:=i+d) (by omega) (h.O _ (by omega)))
theorem Canon.D (h:Canon P γ₀ ρ base c₀ ops ntmps l self F){j:Nat}(d:i<=j)(e:j<=ops.size):Mono (F i).2 (F j).2:=by
 have:=h.Q (i:=i) (j-i) (by omega)
 grind
theorem Canon.W (h:Canon P γ₀ ρ base c₀ ops ntmps l self F)(j:i<ops.size)(f:Jae ops i≠some s):(F (i+1)).1 s=(F i).1 s:=by
 obtain⟨o,x,y,k,t,z,m,p⟩:=h.I j;obtain⟨v,r,_⟩:=kV (fr':=(F (i+1)).1) (st':=(F (i+1)).2) p;rw[r,(Yl m).1];simp[Jae,k]at f
 cases S:o.dst with
 |none=>rfl
 | some d=>
   have:s≠d:=fun e=>f (by grind);simp[Eva.put,this]
theorem Canon.U (h:Canon P γ₀ ρ base c₀ ops ntmps l self F){i:Nat}{s:Nat}:∀d,i+d<=ops.size->(∀k,i<=k->k<i+d->Jae ops k≠some s)->(F (i+d)).1 s=(F i).1 s
 |0,_,_=>rfl
 |d+1,j,e=>by rw[<-h.U d (by omega) fun k f m=>e k f (by omega)];exact h.W (i:=i+d) (by omega) (e (i+d) (by omega) (by omega))
theorem Canon.J (h:Canon P γ₀ ρ base c₀ ops ntmps l self F){j:Nat}(d:i<=j)(m:j<=ops.size)(e:∀k,i<=k->k<j->Jae ops k≠some s):(F j).1 s=(F i).1 s:=by
 have:=h.U (i:=i) (s:=s) (j-i) (by omega) fun k f o=>e k f (by omega)
 grind
theorem Canon.A (h:Canon P γ₀ ρ base c₀ ops ntmps l self F){j:Nat}(d:i<=j)(e:j<=ops.size)(f:YJ ops i s=true):(F j).1 s=(F i).1 s:=
 h.J d e fun k m o=>JkT f (by omega) m
theorem Jgp {r:Pt}{i:Nat}:∀d,(∀k,i<=k->k<i+d->¬tch F k r)->(F (i+d)).2.A r=(F i).2.A r
 |0,_=>rfl
 | d+1,a=>by
   rw[<-Jgp d fun k b c=>a k b (by omega)];exact Xd fun e=>a (i+d) (by omega) (by omega) e
theorem JbG {r:Pt}{j:Nat}(a:i<=j)(b:∀k,i<=k->k<j->¬tch F k r):(F j).2.A r=(F i).2.A r:=by
 have:=Jgp (F:=F) (r:=r) (i:=i) (j-i) fun k c d=>b k c (by omega)
 grind
theorem Canon.M (h:Canon P γ₀ ρ base c₀ ops ntmps l self F)(p:i<ops.size)(f:s<ops.size)(d:born F i k)(e:born F s k):i=s:=by
 have m:∀{i s:Nat},i<s->s<ops.size->born F i k->born F s k->False:=fun{i s} o f d e=>by
  have:=(h.D (i:=i+1) (j:=s) (by omega) (by omega)).i;have:=d.2;have:=e.1;omega
 grind
theorem Canon.N (h:Canon P γ₀ ρ base c₀ ops ntmps l self F)(e:s<ops.size)(d:born F s k):(F 0).2.b.A<=k.A/\k.A<(F ops.size).2.b.A:=by
 have:=(h.D (i:=0) (j:=s) (by omega) (by omega)).i;have:=(h.D (i:=s+1) (j:=ops.size) (by omega) (by omega)).i;have:=d.1;have:=d.2;omega
theorem Canon.B (h:Canon P γ₀ ρ base c₀ ops ntmps l self F)(m:s<ops.size)(d:born F s k)(f:i<=s):(F i).2.A k= .none:=by
 apply Xd;intro e;have:=(h.O i (by omega)).a k e;have:=(h.D (i:=i) (j:=s) f (by omega)).i;have:=d.1;omega
theorem Canon.G (h:Canon P γ₀ ρ base c₀ ops ntmps l self F){j:Nat}{o:Oper}{x:Iop}(X:ops[j]? =some o)(hx:l[j]? =some x){r:Pt}(i:tch F j r):
  born F j r\/((F j).2.A r≠ .none/\
   ((x.A=false/\x.G=true/\(∀s∈x.D,rowOf ((F j).1 s)=some r)/\∃v e,evOp (F j).1 (F j).2 x=some (v,e)/\(F (j+1)).2=(F j).2.J e)\/
    (x.A=true/\∃l',okWs ops l j=some l'/\still (F j).1 (F (j+1)).2 (F j).2.t l'=true))):=by
 have hj:j<ops.size:=(Xy.1 X).1;obtain⟨x',y,h1,h2,h3,h5⟩:=h.w j o X;rw[hx]at h1;injection h1 with h1;subst h1;obtain⟨q1,q2,q3,q4,q5⟩:=Yl h3;obtain⟨v,h6,m⟩:=kV (fr':=(F (j+1)).1) (st':=(F (j+1)).2) h5;have Y:=h.O j (by omega);have hm:=h.H hj Y;have z:=hm.d r i;have ab:=h.O (j+1) (by omega);by_cases S:(F j).2.A r= .none
 ·exact .inl ⟨hm.f r S z.2,ab.a r z.2⟩
 ·right;refine⟨S, ?_⟩;rcases m with m|m
  ·exact absurd (by rw[m]) i
  ·rw[q2,q4]at m
   cases hc:x.A with
   | true=>
     right;refine⟨rfl, ?_⟩;simp[hc]at m;obtain⟨Z,lo,g1,g2,g3,g4⟩:=qM m;have m2:=Y3 h.a g1 (Jq Y _);have ad:(F (j+1)).2.A r=Z.A r:=by rw[g2];rfl
     have X:=m2.j r S (by intro e;exact i (by rw[ad,e];rfl));have af:=Y.t r S;have X:Z.a<=((F j).2.A r).A:=X;obtain⟨_,l',g5,g6⟩:=g4 (by omega);refine⟨l',g5, ?_⟩;rw[g2];exact g6
   | false=>
     left;simp[hc]at m;obtain⟨e,e1,e2⟩:=Ja0 hc m;have aa:=Jaw e1;have ae:e.F=some r:=by
      unfold tch at i;rw[e2,St.I]at i
      cases e with
      |a=>exact absurd rfl i
      | b f=>
        simp[Eff.D]at i;by_cases k:r=(F j).2.b
        ·exfalso;subst k;exact absurd (Y.a _ S) (by omega)
        ·rw[Jy _ _ k]at i;grind
      | d p t f=>
        simp[Eff.D]at i;by_cases k:r=p
        ·subst k;rfl
        ·rw[Jy _ _ k]at i;grind
      | e p t f=>
        simp[Eff.D]at i;by_cases k:r=(F j).2.b
        ·exfalso;subst k;exact absurd (Y.a _ S) (by omega)
        ·rw[Jy _ _ k]at i;by_cases k:r=p
         ·subst k;rfl
         ·rw[Jy _ _ k]at i;grind
     obtain⟨k1,k2⟩:=aa.2 r ae
     grind
end
end
theorem Jgq {c:V}(h:JhK b c=true):b=c:=by
 unfold JhK at h
 grind
theorem Jgr :∀{a b:List V},Jc3 a b=true->a=b
 |[],[],_=>rfl
 | x::a,y::b,h=>by
   simp[Jc3]at h;rw[Jgq h.1,Jgr h.2]
 |[],_::_,h=>by simp[Jc3]at h
 |_::_,[],h=>by simp[Jc3]at h
theorem Joe {c:V}(h:JnW b c=true):b=c:=by
 unfold JnW at h
 split at h
 ·rw[Jgr h]
 ·exact Jgq h
theorem JlN {x y:Opd}(h:x.D y=true):∃i,x= .s i/\y= .s i:=by
 unfold Opd.D at h
 grind
theorem Jax (a:Jbx h s i v u=true):∃d z m c,v= .lookup d z false (.s m) (.s c)/\u= .ment d z (.s m) (.s c)/\YJ h (min s i) m=true/\YJ h (min s i) c=true:=by
 unfold Jbx twin at a
 split at a
 ·rename_i w J K L M N O P
  simp[Zg]at a;obtain⟨⟨⟨⟨g,l⟩,n⟩,o⟩,f⟩:=a;obtain⟨b,p,q⟩:=JlN n;obtain⟨j,r,t⟩:=JlN o;have:=Joe l;subst g;subst this;subst p;subst q;subst r;subst t;exact⟨_,_,b,j,rfl,rfl,f b (by simp[Iop.F,Iop.I,Opd.B]),f j (by simp[Iop.F,Iop.I,Opd.B])⟩
 grind
theorem JeI (h:JM r z=true){a:List Nat}(b:(d,a)∈z)(c:s∈d)(e:i∈a){q:Pt}(f:rowOf (r s)=some k)(g:rowOf (r i)=some q):k≠q:=by
 unfold JM at h
 grind
theorem Jcf {e:EK}{k:V}(d:e.D k=true):∀{a:List (V×V)} {i j:Nat} {v:V},KJ e k a i=some (some (j,v))->i<=j/\KJ e k (a.modify (j-i) fun p=>(k,p.2)) i=some (some (j,v))
 |[],i,j,v,h=>by simp[KJ]at h
 | (x,u)::a,i,j,v,h=>by
   have b:e.B k k=some true:=by
    unfold EK.D at d
    grind
   simp[KJ]at h
   split at h
   ·injection h with h;injection h with h;injection h with f c;subst f;subst c;simp[KJ,b]
   ·rename_i g
    obtain⟨f,c⟩:=Jcf d h;refine⟨by omega, ?_⟩;rw[show j-i=(j-(i+1))+1 by omega,List.modify_succ_cons];simp[KJ,g];exact c
   grind
theorem JeJ {e:EK}{k z:V}(c:e.D k=true):∀{a:List (V×V)} {i:Nat},KJ e k a i=some none->KJ e k (a++[(k,z)]) i=some (some (i+a.length,z))
 | [],i,h=>by
   have b:e.B k k=some true:=by
    unfold EK.D at c
    grind
   simp[KJ,b]
 | (x,u)::a,i,h=>by
   simp[KJ]at h
   split at h
   ·cases h
   ·rename_i d
    have:=JeJ (z:=z) c h;simp[KJ,d]
    grind
   grind
theorem Jnv {g:Fr}{e:EK}{v:V}{m k:Opd}{l:Eff}(h:evOp r t (.ment e b m k)=some (v,l))(s:m.A g=m.A r)(u:k.A g=k.A r):
  evOp g (t.J l) (.lookup e b false m k)=evOp g t (.lookup e b false m k):=by
 simp[evOp]at h;simp only[evOp,s,u]
 split at h
 ·rename_i a n
  split at h
  ·rename_i c y j
   split at h
   ·cases h
   ·rename_i q
    have f:e.D (k.A r)=true:=by grind
    split at h
    ·rename_i i w d
     injection h with h;injection h with x p;subst p;obtain⟨_,o⟩:=Jcf f d;rw[ZN]at o;simp only[n,jO,St.I,Eff.D,JC,j,o,d]
    ·rename_i d
     injection h with h;injection h with x p;subst p;have o:=JeJ (z:=b) f d;simp only[n,jO,St.I,Eff.D,JC,j,o,d];simp
    grind
  grind
 grind
theorem Jof {e:EK}{m a:Opd}(c:rowOf (m.A r)=some k)(h:o.A k=t.A k):evOp r o (.lookup e b y m a)=evOp r t (.lookup e b y m a):=by
 have:jO o (m.A r)=jO t (m.A r):=by
  unfold jO
  split
  ·rfl
  ·rename_i q d
   rw[d]at c;injection c with c;grind
  ·rfl
 simp[evOp,this]
section
variable {P : Program} {γ : Locs} {ρ : Nat -> Value} {base : Bs} {c : Pt -> Row} {w : World} {a : Act}
variable {γ₀ : Locs} {c₀ : Pt -> Row} {w₀ : World} {ops : Array Oper} {ntmps : Nat} {l : List Iop} {self : Self} {F : Nat -> Fr × St}
def Over (ops:Array Oper)(l:List Iop)(F:Nat->Fr×St)(j:Nat)(x:Iop)(r:Pt):Prop:=
 (x.A=false/\x.G=true/\(∀s∈x.D,rowOf ((F j).1 s)=some r)/\∃v e,evOp (F j).1 (F j).2 x=some (v,e)/\(F (j+1)).2=(F j).2.J e)\/
 (x.A=true/\∃l',okWs ops l j=some l'/\still (F j).1 (F (j+1)).2 (F j).2.t l'=true)
theorem Canon.L (h:Canon P γ₀ ρ base c₀ ops ntmps l self F){y:Iop}(m:s≠i)(hi:s<ops.size)(hj:i<ops.size)(hx:l[s]? =some v)(hy:l[i]? =some y)
  (ho:ordered (Region.before ops) s i=false) (X:v.A=false) (cx:Over ops l F s v k) (o:Over ops l F i y k):False:=by
 obtain⟨ae,hp,Y⟩:=h.g;rcases cx with⟨_,Z,sx,_⟩|⟨e,_⟩
 ·have fy:y.H=false:=by
   rcases o with⟨_,p,_⟩|⟨e,_⟩
   ·exact JdI p
   ·exact(YN e).1
  rcases Jc8 hp hi hj hx hy m Z X fy ho with ht|⟨ys,ha,hn,hs,aa,hm⟩
  ·obtain⟨_,_,_,_,z,_⟩:=Jax ht;subst z;rcases o with⟨_,p,_⟩|⟨e,_⟩
   ·cases p
   ·cases e
  ·rcases o with⟨o,p,sy,_⟩|⟨e,_⟩
   ·rcases Jc8 hp hj hi hy hx (Ne.symm m) p o (JdI Z) (by rw[kJ];exact ho)with ht|⟨af,_,ab,_⟩
    ·obtain⟨_,_,_,_,z,_⟩:=Jax ht;subst z
     cases Z
    ·obtain⟨d,f⟩:=Ge _ hn;obtain⟨t,ad⟩:=Ge _ ab;have S:=Jf9 ha fy t ad;have z:=h.A (i:=s) (j:=ops.size) (by omega) (Xb _) (hs d f);have e2:=h.A (i:=i) (j:=ops.size) (by omega) (Xb _) (aa t S);exact JeI Y hm f S (by rw[z];exact sx d f) (by grind) rfl
   ·rw[(YN e).2]at ha;cases ha
 grind
theorem Canon.T (h:Canon P γ₀ ρ base c₀ ops ntmps l self F){y:Iop}(d:s≠i)(S:s<ops.size)(m:i<ops.size)(X:l[s]? =some v)(o:l[i]? =some y)
  (p:ordered (Region.before ops) s i=false) (t:Over ops l F s v k) (Y:Over ops l F i y k):False:=by
 cases z:v.A with
 |false=>exact h.L d S m X o p z t Y
 | true=>
   cases f:y.A with
   |false=>exact h.L (Ne.symm d) m S o X (by rw[kJ];exact p) f Y t
   | true=>
     rcases t with⟨e,_⟩|⟨_,l',e,_⟩
     ·grind
     ·obtain⟨ys,Z,_⟩:=JiG e m o (Ne.symm d) (YN f).1 p;rw[(YN f).2]at Z;cases Z
structure Inv (γ₀:Locs) (ρ:Nat->Value) (base:Bs) (c₀:Pt->Row) (w₀:World) (ops:Array Oper) (ntmps:Nat) (F:Nat->Fr×St) (S:Nat->Prop) (γ:Locs) (c:Pt->Row) (a:Act) (w:World):Prop where
 f:Closed ops S
 rel:Rel γ ρ base c w
 G:JdH ntmps a
 T:Ext γ₀ γ
 below:Below base.n w₀ w
 D:∀t m,m<=ops.size->(∀k,k<ops.size->Jae ops k=some t->(S k<->k<m))->R γ ρ ((F m).1 t) (a.tmps.getD t undef)
 N:∀r m,m<=ops.size->(∀k,k<ops.size->tch F k r->(S k<->k<m))->(∃k,k<ops.size/\S k/\tch F k r)->c r=(F m).2.A r
 u:∀r,(∀k,k<ops.size->S k->¬tch F k r)->c r=c₀ r
 J:∀k r,k<ops.size->S k->tch F k r->γ r≠none
 H:∀r,γ r≠none->γ₀ r≠none\/∃k,k<ops.size/\S k/\born F k r
variable {S : Nat -> Prop}
theorem Inv.A (h:Canon P γ₀ ρ base c₀ ops ntmps l self F)(d:Inv γ₀ ρ base c₀ w₀ ops ntmps F S γ c a w){r:Pt}{m:Nat}(o:m<=ops.size)(b:∀k,k<ops.size->tch F k r->(S k<->k<m))(p:γ r≠none)(e:(F m).2.A r≠ .none):
  c r=(F m).2.A r:=by
 by_cases g:∃k,k<ops.size/\S k/\tch F k r
 ·exact d.N r m o b g
 ·have q:(F m).2.A r=(F 0).2.A r:=JbG (XC _) fun k _ i j=>g ⟨k,by omega,(b k (by omega) j).2 i,j⟩;rw[q]at e⊢;rw[d.u r fun k s i t=>g ⟨k,s,i,t⟩];rcases d.H r p with k|⟨k,v,y,x⟩
  ·exact h.n r k e
  ·exact absurd (h.B v x (XC _)) e
theorem Inv.B (h:Canon P γ₀ ρ base c₀ ops ntmps l self F)(i:Inv γ₀ ρ base c₀ w₀ ops ntmps F S γ c a w)(m:γ k≠none)(d:s<ops.size)(e:born F s k):S s:=by
 rcases i.H k m with g|⟨b,n,p,o⟩
 ·have:=h.N d e;exact absurd (h.c k this.1 this.2) g
 ·have:=h.M d n e o
  grind
theorem Inv.U (h:Canon P γ₀ ρ base c₀ ops ntmps l self F)(m:Inv γ₀ ρ base c₀ w₀ ops ntmps F S γ c a w){j:Nat}(s:i<j)(e:j<ops.size)(n:tch F i k)(d:tch F j k)(o:S j):S i:=by
 cases g:ordered (Region.before ops) i j with
 | true=>
   unfold ordered at g;rw[HS (by omega),Zd (by omega)]at g;exact jQ m.f j i o g
 | false=>
   obtain⟨K,Q,_,t,p,_⟩:=h.I (i:=i) (by omega);obtain⟨Z,xj,_,v,q,_⟩:=h.I e;rcases h.G t p n with b|⟨x,y⟩
   ·exact m.B h (m.J j k e o d) (by omega) b
   ·rcases h.G v q d with b|⟨n2,z⟩
    ·exact absurd (h.B e b (by omega)) x
    ·exact(h.T (by omega) (by omega) e p q g y z).elim
theorem Inv.I (h:Canon P γ₀ ρ base c₀ ops ntmps l self F)(hi:Inv γ₀ ρ base c₀ w₀ ops ntmps F S γ c a w){k j:Nat}{x y:Iop}{r:Pt}(hk:k<ops.size)(q:j<ops.size)(hx:l[k]? =some x)(Q:l[j]? =some y)(n:j≠k)
  (hS:¬S k) (Z:Closed ops fun i=>S i\/i=k) (e:x.H=false) (hg:γ r≠none) (hr:(F k).2.A r≠ .none) (hl:∀p,x.B=some p->∃s∈p,rowOf ((F k).1 s)=some r) (ht:tch F j r):
  (S j<->j<k)\/Jbx ops j k x y=true:=by
 cases ho:ordered (Region.before ops) k j with
 |true=>exact .inl (JbF hi.f Z hS n ho)
 | false=>
   obtain⟨oj,yj,_,j1,z,_⟩:=h.I q;rw[Q]at z;injection z with z;subst z;rcases h.G j1 Q ht with b|⟨n1,c1⟩
   ·left;have h1:j<k:=by
     apply Xd;intro hn;exact hr (h.B q b (by omega))
    exact⟨fun _=>h1,fun _=>hi.B h hg q b⟩
   ·obtain⟨ad,hp,aa⟩:=h.g;rcases c1 with⟨cy,wy,sy,_⟩|⟨cy,l',e1,K⟩
    ·rcases Jc8 hp q hk Q hx n wy cy e (by rw[kJ];exact ho)with ht|⟨p,ha,hn,hs,ab,hm⟩
     ·grind
     ·exfalso;obtain⟨s,o⟩:=Ge _ hn;obtain⟨t,m,v⟩:=hl p ha;have e1:=h.A (i:=j) (j:=ops.size) (by omega) (Xb _) (hs s o);have K:=h.A (i:=k) (j:=ops.size) (by omega) (Xb _) (ab t m);exact JeI aa hm o m (by rw[e1];exact sy s o) (by grind) rfl
    ·exfalso;obtain⟨p,g1,g2,g3,g4,g5⟩:=JiG e1 hk hx (Ne.symm n) e (by rw[kJ];exact ho);obtain⟨t,m,v⟩:=hl p g1;have e3:=h.A (i:=k) (j:=j) (by omega) (by omega) (g4 t m);unfold still at K;rw[Ze]at K;have e4:=K t (g5 t m);rw[e3,v]at e4;have e4:((F (j+1)).2.A r).A<(F j).2.t:=by grind
     have e5:=((h.H q (h.O j (by omega))).d r ht).1;omega
theorem Inv.M (h:Canon P γ₀ ρ base c₀ ops ntmps l self F)(g:Inv γ₀ ρ base c₀ w₀ ops ntmps F S γ c a w)(r:Pt):∀n,n<=ops.size->∃m,m<=n/\∀j,j<n->tch F j r->(S j<->j<m)
 |0,_=>⟨0,Xb _,fun j d=>absurd d (XH _)⟩
 | n+1,o=>by
   obtain⟨m,p,q⟩:=g.M h r n (by omega);by_cases i:tch F n r
   ·by_cases k:S n
    ·refine⟨n+1,Xb _,fun j d b=>⟨fun _=>d,fun _=> ?_⟩⟩;by_cases e:j=n
     ·grind
     ·exact g.U h (by omega) (by omega) b i k
    ·refine⟨m,by omega,fun j d b=> ?_⟩
     grind
   ·refine⟨m,by omega,fun j d b=> ?_⟩
    grind
theorem Canon.K (h:Canon P γ₀ ρ base c₀ ops ntmps l self F){y:Iop}(Y:s<ops.size)(Z:i<=ops.size)(hy:l[s]? =some y)(ht:Jbx ops s i v y=true):evOp (F i).1 (F (s+1)).2 v=evOp (F i).1 (F s).2 v:=by
 obtain⟨oi,y',yi,i1,r,i3,i4,i5⟩:=h.I Y;rw[hy]at r;injection r with r;subst r;obtain⟨e,z,m,kk,t,S,s1,s2⟩:=Jax ht;subst t;subst S;have p:∀d,YJ ops (min s i) d=true->(F i).1 d=(F s).1 d:=fun d X=>by
  have a1:=h.A (i:=min s i) (j:=i) (by omega) Z X;have a2:=h.A (i:=min s i) (j:=s) (by omega) (by omega) X
  grind
 obtain⟨f,_,o⟩:=kV (fr':=(F (s+1)).1) (st':=(F (s+1)).2) i5;obtain⟨_,q2,_⟩:=Yl i4;rcases o with o|o
 ·rw[o]
 ·rw[q2]at o;simp[Iop.A]at o;obtain⟨e,t,S⟩:=Ja0 rfl o;rw[S];exact Jnv t (p m s1) (p kk s2)
theorem JbH {x:Iop}{fr:Fr}{i:Nat}:∀d,(∀j,i<=j->j<i+d->evOp fr (F (j+1)).2 x=evOp fr (F j).2 x)->evOp fr (F (i+d)).2 x=evOp fr (F i).2 x
 |0,_=>rfl
 |d+1,a=>by rw[<-JbH d fun j b c=>a j b (by omega)];grind
theorem JeK {l:List Nat}(h:rowOf (only l r s)=some k):rowOf (r s)=some k:=by
 unfold only at h
 split at h
 ·exact h
 ·cases h
theorem OpOK.G {st:St}{s:Sem Next}(h:OpOK P γ ρ base st c w b .a s):OpOK P γ ρ base t c w b .a s:=by
 obtain⟨x,d,γ',f,g,i,j,k,l⟩:=h;exact⟨x,d,γ',f,g,i,j,fun r m=>(k r m).imp id (fun e=>by have:=e.2;cases this),l⟩
theorem JiI (h:∀a,(∀b,v.B=some b->∃s∈b,rowOf (r s)=some a)->γ a≠none->t.A a≠ .none->c a=t.A a):Jah γ c t r v:=by
 unfold Jah
 split
 ·rename_i g
  exact fun a d e=>h a (fun b f=>by grind) d e
 grind
theorem Inv.Y (h:Canon P γ₀ ρ base c₀ ops ntmps l self F)(hi:Inv γ₀ ρ base c₀ w₀ ops ntmps F S γ c a w)(ho:ops[s]? =some g)(hx:l[s]? =some v)(hc:YI P g=some v)(hS:¬S s)(aj:Closed ops fun i=>S i\/i=s)
  (hn:∀d∈v.F,R γ ρ ((F s).1 d) (a.tmps.getD d undef))  {e:Eff} (he:evOp (F s).1 (F s).2 v=some (b,e)) (ak:e.A=true->γ (F s).2.b=none):
  OpOK P γ ρ base (F s).2 c w b e (execOp a.eval g):=by
 have hk:s<ops.size:=(Xy.1 ho).1;have af:FR γ ρ (only v.F (F s).1) a:=by
  intro d;unfold only
  split
  ·grind
  ·trivial
 by_cases hA:Jah γ c (F s).2 (only v.F (F s).1) v
 ·exact JeF h.q hc (by rw[Jgm];exact he) af hi.rel hA ak
 ·
  have ag:∃r,(∀ys,v.B=some ys->∃d∈ys,rowOf ((F s).1 d)=some r)/\γ r≠none/\(F s).2.A r≠ .none/\c r≠(F s).2.A r:=by
   apply Xd;intro n;refine hA (JiI fun r t Q Z=>Xd fun h4=>n ⟨r,fun ys al=> ?_,Q,Z,h4⟩);obtain⟨d,hs,hr⟩:=t ys al;exact⟨d,hs,JeK hr⟩
  obtain⟨r,r1,r2,r3,r4⟩:=ag;have aa:v.H=false:=by
   cases hf:v.H with
   |false=>rfl
   | true=>
     obtain⟨d,hs,_⟩:=r1 [] (JiH hf)
     cases hs
  obtain⟨m,m1,m2⟩:=hi.M h r ops.size (Xb _);have hj:∃j,j<ops.size/\tch F j r/\¬(S j<->j<s):=by
   apply Xd;intro n;refine r4 (hi.A h (m:=s) (by omega) (fun j t Q=>Xd fun Z=>n ⟨j,t,Q,Z⟩) r2 r3)
  have p:∀j y,j<ops.size->l[j]? =some y->tch F j r->¬(S j<->j<s)->Jbx ops j s v y=true:=fun j y t hy Q Z=>by
   have am:j≠s:=fun e=>Z (by grind);exact(hi.I h hk t hx hy am hS aj aa r2 r3 r1 Q).resolve_left Z
  obtain⟨j,j1,j2,j3⟩:=hj;obtain⟨_,yj,_,_,ao,_⟩:=h.I j1;obtain⟨ek,z,ms,ks,e1,e2,_⟩:=Jax (p j yj j1 ao j2 j3);obtain⟨d,hs,ah⟩:=r1 _ (by rw[e1];rfl);have hs:d=ms:=by simpa[Opd.B]using hs
  subst hs;have step:∀i,min m s<=i->i<max m s->evOp (F s).1 (F (i+1)).2 v=evOp (F s).1 (F i).2 v:=fun i t Q=>by
   by_cases ht:tch F i r
   ·have ab:i<ops.size:=by omega
    obtain⟨_,yi,_,_,ai,_⟩:=h.I ab;refine h.K ab (by omega) ai (p i yi ab ai ht fun ar=> ?_)
    grind
   ·rw[e1];exact Jof (m:= .s d) ah (Xd fun e=>ht e)
  have ad:evOp (F s).1 (F m).2 v=evOp (F s).1 (F s).2 v:=by
   rcases Nat.le_total m s with ap|ap
   ·have:=JbH (F:=F) (x:=v) (fr:=(F s).1) (i:=m) (s-m) fun j t Q=>step j (by omega) (by omega)
    grind
   ·have:=JbH (F:=F) (x:=v) (fr:=(F s).1) (i:=s) (m-s) fun j t Q=>step j (by omega) (by omega)
    grind
  have n:e= .a:=by
   rw[e1]at he;simp[evOp]at he
   grind
  subst n;refine OpOK.G (st:=(F m).2) (JeF h.q hc (by rw[Jgm,ad];exact he) af hi.rel (JiI fun q t Q Z=> ?_) (fun e=>by cases e));obtain⟨s',ae,aq⟩:=t _ (by rw[e1];rfl);have ae:s'=d:=by simpa[Opd.B]using ae
  subst ae;have:=JeK aq;rw[ah]at this;injection this with this;subst this;exact hi.A h m1 m2 Q Z
end
section
variable {P : Program} {γ : Locs} {ρ : Nat -> Value} {base : Bs} {c : Pt -> Row} {w : World} {a : Act}
variable {γ₀ : Locs} {c₀ : Pt -> Row} {w₀ : World} {ops : Array Oper} {ntmps : Nat} {l : List Iop} {self : Self} {F : Nat -> Fr × St} {S : Nat -> Prop}
theorem Inv.L (h:Canon P γ₀ ρ base c₀ ops ntmps l self F)(z:Inv γ₀ ρ base c₀ w₀ ops ntmps F S γ c a w){k:Nat}(ho:ops[k]? =some g)(hx:l[k]? =some v)(hd:∀d,g.dst=some d->d<ntmps)(hS:¬S k)(ad:Closed ops fun i=>S i\/i=k)
   {y:Value} {γ':Locs} {c':Pt->Row}  (ag:(F (k+1)).1=put (F k).1 g.dst b) (p:Post γ ρ base c (F k).2 (F (k+1)).2 w b γ' c' y j):
  Inv γ₀ ρ base c₀ w₀ ops ntmps F (fun i=>S i\/i=k) γ' c' (a.put g.dst y) j:=by
 have hk:k<ops.size:=(Xy.1 ho).1;refine⟨ad,p.rel,z.G.A _ _,z.T.D p.d,z.below.trans p.below,fun t m hm K=> ?_,fun r m hm K ah=> ?_,fun r ae=> ?_,fun n r hj hs Q=> ?_,fun r hr=> ?_⟩
 ·by_cases e:g.dst=some t
  ·have ai:Jae ops k=some t:=by simp[Jae,ho,e]
   have aj:k<m:=(K k hk ai).1 (.inr rfl);have Z:(F m).1 t=(F (k+1)).1 t:=h.J (by omega) hm fun n Z h2 aa=>by
    have ab:S n:=((K n (by omega) aa).2 h2).resolve_right (by omega);have ak:=Jce h.b ho hx (k:=n) (by omega) (by omega) aa (by simp[names,e]);have:=(JbF z.f ad hS (by omega) ak).1 ab;omega
   rw[Z,ag,e,JiF z.G (hd t e)];simpa[Eva.put]using p.f
  ·have Z:(a.put g.dst y).tmps.getD t undef=a.tmps.getD t undef:=by
    cases al:g.dst with
    |none=>rfl
    |some d=>exact Joc (fun e'=>e (by grind)) y
   rw[Z];exact(z.D t m hm fun n hj aa=>by
    have am:n≠k:=fun e'=>e (by subst e';simpa[Jae,ho]using aa)
    grind).A p.d
 ·by_cases Q:tch F k r
  ·have aj:k<m:=(K k hk Q).1 (.inr rfl);rw[p.b r Q];exact(JbG (i:=k+1) (j:=m) (by omega) fun n Z h2 af=>by
    have ab:S n:=((K n (by omega) af).2 h2).resolve_right (by omega);exact hS (z.U h (i:=k) (j:=n) (by omega) (by omega) Q af ab)).symm
  ·rw[p.a r (Xd fun e=>Q e)];obtain⟨n,j1,j2,j3⟩:=ah;refine z.N r m hm (fun i Z h2=> ?_) ⟨n,j1,j2.resolve_right (fun e=>Q (e▸j3)),j3⟩
   grind
 ·have Q:¬tch F k r:=ae k hk (.inr rfl);rw[p.a r (Xd fun e=>Q e)];exact z.u r fun n Z h2=>ae n Z (.inl h2)
 ·rcases hs with hs|rfl
  ·have Z:=z.J n r hj hs Q
   cases hg:γ r with
   |none=>grind
   |some q=>rw[p.d r q hg];simp
  ·have Z:=p.b r Q;have h2:=((h.H hj (h.O _ (by omega))).d r Q).2;obtain⟨q,hq,_⟩:=p.rel.f r (by grind)
   grind
 ·rcases p.g r hr with s|s
  ·rcases z.H r s with q|⟨n,j1,j2,j3⟩
   ·grind
   grind
  ·exact .inr ⟨k,hk, .inr rfl,s⟩
theorem Inv.W (h:Canon P γ₀ ρ base c₀ ops ntmps l self F)(hi:Inv γ₀ ρ base c₀ w₀ ops ntmps F S γ c a w){o:Oper}(ho:ops[s]? =some o)(hS:¬S s)(aa:Closed ops fun i=>S i\/i=s){K:Act->World->Prop}{Q:Exit->Act->World->Prop}
  (hK:∀γ' c' a' w',Inv γ₀ ρ base c₀ w₀ ops ntmps F (fun i=>S i\/i=s) γ' c' a' w'->K a' w'):
  (if Region.wanted o (yielded ops a.tmps)then o.wp P a w K Q else K (a.put o.dst undef) w):=by
 obtain⟨x,y,hx,hc,ab,al⟩:=h.w s o ho;have hk:s<ops.size:=(Xy.1 ho).1;have af:∀n∈names ops o x,R γ ρ ((F s).1 n) (a.tmps.getD n undef):=fun n hs=>hi.D n s (by omega) fun j hj am=>by
  by_cases e:j=s
  ·grind
  ·exact JbF hi.f aa hS e (Jce h.b ho hx hj e am hs)
 have ao:∀n∈x.F,R γ ρ ((F s).1 n) (a.tmps.getD n undef):=fun n hs=>af n (by unfold names;grind);have ap:∀n∈JaW ops o,R γ ρ ((F s).1 n) (a.tmps.getD n undef):=fun n hs=>af n (by unfold names;grind);obtain⟨q1,q2,q3,q4,q5⟩:=Yl ab;have hw:=h.O s (by omega);have Z:YF γ (F s).2 (F (s+1)).2:=fun r h1 h2=>Xd fun hg=>hS (hi.B h hg hk ⟨h1,h2⟩);have ag:Yq self true (F s).1 (F s).2 y=some ((F (s+1)).1,(F (s+1)).2):=al;rcases Jgn ab ag hi.G ap with⟨h1,v,h2,h3⟩|⟨h1,h2,h3⟩
 ·rw[h1,Xe rfl];have ah:∀y γ' c' w',Post γ ρ base c (F s).2 (F (s+1)).2 w v γ' c' y w'->K (a.put o.dst y) w':=fun y γ' c' w' p=>hK _ _ _ _ (hi.L h ho hx q3 hS aa h3 p)
  cases q:x.A with
  | true=>
    simp[q]at h2;obtain⟨aq,lo,g1,g2,g3,g4⟩:=qM h2;have ae:Full γ c {(F s).2 with a:=(F s).2.t}:=fun r e1 e2=>hi.A h (m:=s) (by omega) (fun j j1 j2=>by
     by_cases e:j=s
     ·grind
     ·obtain⟨_,yj,_,_,ar,_⟩:=h.I j1;refine(hi.I h hk j1 hx ar e hS aa (YN q).1 e1 e2 (fun ys ai=>by rw[(YN q).2]at ai;cases ai) j2).resolve_right fun ht=> ?_;obtain⟨_,_,_,_,e3,_⟩:=Jax ht;subst e3
      cases q) e1 e2
    have au:FR γ ρ (only x.F (F s).1) a:=by
     intro n;unfold only
     split
     ·grind
     ·trivial
    have aj:∀z∈x.I,∀xo,opd xo=some z->R γ ρ (z.A (F s).1) (a.eval xo):=fun z hz xo av=>by
     have:=Jk av au
     rwa [JlK fun n hs=>by unfold Iop.F;grind]at this
    have ad:YF γ {(F s).2 with a:=(F s).2.t} aq:=fun r e1 e2=>Z r e1 (by grind);exact JlM h.a hc q g1 (Jq hw _) aj hi.rel ae ad fun y γ' c' w' p=>ah y γ' c' w' (by rw[g2];exact⟨p.f,p.rel,p.d,p.g,p.a,p.b,p.below⟩)
  | false=>
    simp[q]at h2;obtain⟨e,e1,e2⟩:=Ja0 q h2;have ak:=Z;rw[e2]at ak;exact Jr7 hw (Jaw e1).1 (hi.Y h ho hx hc hS aa ao e1 (Post.A ak)) fun y γ' c' w' p=>ah y γ' c' w' (by grind)
 ·rw[h1,Xa (by decide)];exact hK _ _ _ _ (hi.L h ho hx q3 hS aa h3 ⟨⟨[],rfl,rfl⟩,hi.rel,Ext.A _,fun _ s=> .inl s,fun _ _=>rfl,fun r e=>absurd (by rw[h2]) e,Below.refl _ _⟩)
theorem Inv.O (h:Canon P γ₀ ρ base c₀ ops ntmps l self F)(b:Inv γ₀ ρ base c₀ w₀ ops ntmps F S γ c a w)(n:∀i,i<ops.size->S i):
  At P γ ρ base ntmps (F ops.size).2 c w (F ops.size).1 a/\Q0 γ₀ ρ base c₀ (F 0).2 (F ops.size).2 w₀ γ c w:=by
 have o:∀k,k<ops.size->(S k<->k<ops.size):=fun k m=>⟨fun _=>m,fun _=>n k m⟩
 refine⟨⟨fun s=>b.D s _ (Xb _) fun k m _=>o k m,b.G,b.rel,fun r y p=>b.A h (Xb _) (fun k m _=>o k m) y p,h.O _ (Xb _)⟩,b.rel,b.T,fun r K=> ?_,fun r e=> ?_,fun r e=> ?_,b.below⟩
 ·rcases b.H r K with g|⟨k,Q,k2,Z⟩
  ·grind
  ·exact .inr (h.N Q Z)
 ·refine b.u r fun k m _ q=> ?_;have y:=(h.H m (h.O k (by omega))).d r q;have p:=(h.D (i:=0) (j:=k) (by omega) (by omega)).t;have z:(F 0).2.t<=((F ops.size).2.A r).A/\(F ops.size).2.A r≠ .none:=by
   by_cases e':(F ops.size).2.A r=(F (k+1)).2.A r
   ·grind
   ·have h4:=(h.D (i:=k+1) (j:=ops.size) (by omega) (Xb _)).d r e';have h5:=(h.D (i:=0) (j:=k+1) (by omega) (by omega)).t
    grind
  rw[e]at z;have:=h.u.t r z.2;omega
 ·have v:∃k,k<ops.size/\S k/\tch F k r:=Xd fun x=>e (JbG (XC _) fun k _ p q=>x ⟨k,p,n k p,q⟩);exact b.N r _ (Xb _) (fun k m _=>o k m) v
def QR (listed:Array Bool):Nat->Prop:=fun i=>listed.getD i false=true
theorem JiJ {a:Array Bool}(b:s<a.size):QR (a.setIfInBounds s true)=fun j=>QR a j\/j=s:=by
 funext j;apply propext;unfold QR;by_cases e:j=s
 ·simp_all
 ·simp[XR,Gq (Ne.symm e),e]
theorem JiK (h:Jbv ops l=true)(c:ops[s]? =some g){e:Edge}(d:e∈g.after)(k:Region.binds .any e=true):e.on<s:=by
 have f:s<ops.size:=(Xy.1 c).1;simp[Jbv]at h;have b:=h s f;simp[c]at b
 split at b
 ·rename_i m n a j
  injection a with a;subst a;simp only[Xk]at b;have p:=Array.all_eq_true_iff_forall_mem.1 b.1.1 e d
  grind
 grind
theorem Inv.X (h:Canon P γ₀ ρ base c₀ ops ntmps l self F)
  (hQ:∀γ' c' a' x,At P γ' ρ base ntmps (F ops.size).2 c' x (F ops.size).1 a'->Q0 γ₀ ρ base c₀ (F 0).2 (F ops.size).2 w₀ γ' c' x->e .normal a' x):
  ∀(m:Nat) {g:Array Bool} {γ:Locs} {c:Pt->Row} {a:Act} {w:World},g.size=ops.size->g.toList.count false<=m->Inv γ₀ ρ base c₀ w₀ ops ntmps F (QR g) γ c a w->wpAny P .any ops e m g a w:=by
 have ab:∀{g:Array Bool},g.size=ops.size->Region.ready .any ops g=[]->∀n i,i<n->i<ops.size->QR g i:=by
  intro g v r n
  induction n with
  |zero=>simp
  | succ n ih=>
    intro i ah q;by_cases d:i<n
    ·grind
    ·have d:i=n:=by omega
     subst d;apply Xd;intro ad;have p:i∈Region.ready .any ops g:=by
      rw[mem_ready];refine⟨?_,ops[i],X5 q,fun d he hb=> ?_⟩
      ·unfold QR at ad
       grind
      ·have:=JiK h.b (X5 q) he hb;exact ih d.on this (by omega)
     grind
 have y:∀{g:Array Bool} {γ:Locs} {c:Pt->Row} {a:Act} {w:World},g.size=ops.size->Inv γ₀ ρ base c₀ w₀ ops ntmps F (QR g) γ c a w->Region.ready .any ops g=[]->e .normal a w:=fun v q r=>by
  have:=q.O h fun i s=>ab v r ops.size i s s
  grind
 intro m
 induction m with
 | zero=>
   intro g γ c a w v hc q;have r:Region.ready .any ops g=[]:=by
    apply List.eq_nil_iff_forall_not_mem.2;intro i p;obtain⟨z,o,S,_⟩:=mem_ready.1 p;have q:i<ops.size:=(Xy.1 S).1;rw[XR,X5 (by omega)]at z;have z:g[i]=false:=by grind
    have:0<g.toList.count false:=List.count_pos_iff.2 (by grind);omega
   exact⟨r,y v q r⟩
 | succ m ih=>
   intro g γ c a w v hc q;refine⟨fun r=>y v q r,fun i p=> ?_⟩;obtain⟨z,o,S,h3⟩:=mem_ready.1 p;have s:i<ops.size:=(Xy.1 S).1;rw[XR,X5 (by omega)]at z;have z:g[i]'(by omega)=false:=by grind
   have hS:¬QR g i:=by
    unfold QR
    simp_all
   have ae:Closed ops fun j=>QR g j\/j=i:=by
    intro k ok Z t d he hb;rcases t with t|rfl
    ·exact .inl (q.f k ok Z t d he hb)
    ·rw[S]at Z;injection Z with Z;subst Z;exact .inl (h3 d he hb)
   have aa:(g.setIfInBounds i true).toList.count false<=m:=by grind
   have ag:=q.W h S hS ae (K:=wpAny P .any ops e m (g.setIfInBounds i true)) (Q:=e) fun γ' c' a' x af=>by
    have ai:Inv γ₀ ρ base c₀ w₀ ops ntmps F (QR (g.setIfInBounds i true)) γ' c' a' x:=by
     rw[JiJ (by omega)];exact af
    grind
   unfold wpOp
   grind
theorem Jcg :∀{b:List Oper} {c:List Iop} {a:List Ins} {k:Nat} {d:Bool},QL ops ntmps l d k b c=some a->a.length=b.length/\∀i o,b[i]? =some o->∃x y,c[i]? =some x/\a[i]? =some y/\jz ops ntmps l d (k+i) o x=some y
 |[],[],a,k,d,h=>by simp[QL]at h;grind
 |[],_::_,_,_,_,h=>by simp[QL]at h
 |_::_,[],_,_,_,h=>by simp[QL]at h
 | o::b,x::c,a,k,d,h=>by
   simp[QL]at h
   split at h
   ·rename_i y r g e
    injection h with h;subst h;obtain⟨f,j⟩:=Jcg e;refine⟨by simp[f],fun i m n=> ?_⟩
    cases i with
    |zero=>grind
    | succ i=>
      grind
   grind
theorem JiL {α β:Type}{f:α->Option β}:∀{b:List α} {c:List β},b.mapM f=some c->∀(i:Nat) (o:α),b[i]? =some o->∃x,c[i]? =some x/\f o=some x
 |[],_,_,i,o,e=>by grind
 | a::b,c,h,i,o,e=>by
   rw[Zt]at h
   cases g:f a with
   |none=>grind
   | some v=>
     cases d:b.mapM f with
     |none=>grind
     | some j=>
       simp[g,d]at h;subst h
       cases i with
       |zero=>grind
       |succ i=>simpa using JiL d i o (by grind)
theorem Jtc (q:Ye P ρ base self)(Z:∀i,(ρ i).oneCell'=true)(L:P.follows .mixedOrders=true){id:Nat}{M:List Ins}
  (hl:ops.toList.mapM (YI P)=some l) (u:QL ops ntmps l true 0 ops.toList l=some M) (hd:Jbv ops l=true) (hp:JlE ops l=some z)  {s:Fr}
  (h:At P γ ρ base ntmps t c w r a) (he:Kj self true M r t=some (s,o)) (aa:JM s z=true) (hf:YF γ t o) 
  (hQ:∀γ' N O v,At P γ' ρ base ntmps o N v s O->Q0 γ ρ base c t o w γ' N v->e .normal O v):(Code.region id ops true).wp P e a w:=by
 obtain⟨F,S,f2,f3⟩:=trace he;obtain⟨g1,g2⟩:=Jcg u;have hn:M.length=ops.size:=by omega
 rw[hn]at f2;have p:Canon P γ ρ base c ops ntmps l self F:=by
  refine⟨q,Z,fun i f ho=> ?_,by rw[S];exact h.wf,hd,⟨z,hp,by grind⟩,by grind,by rw[S];exact h.b⟩;obtain⟨x,y,a1,a2,a3⟩:=g2 i f (by grind);obtain⟨x',b1,b2⟩:=JiL hl i f (by grind)
  grind
 refine wp_region_any L (Inv.X p (w₀:=w) (fun γ' N O v h1 Y=> ?_) ops.size (γ:=γ) (c:=c) (by simp) (by simp) ?_)
 ·grind
 ·have K:∀i,¬QR (Array.replicate ops.size false) i:=fun i u=>by
   unfold QR at u;rw[XR,GW]at u
   grind
  refine⟨fun k f _ T=>absurd T (K k),h.rel.A rfl,h.d,Ext.A _, ?_,fun g m L U=> ?_,fun n m _ _ ⟨k,_,k2,_⟩=>absurd k2 (K k),fun _ _=>rfl,fun k n _ T _=>absurd T (K k),fun n hr=> .inl hr⟩
  ·exact⟨rfl,rfl,rfl,Xb _,fun _ _=>rfl⟩
  ·rw[p.J (i:=0) (j:=m) (XC _) L fun k _ Y W=>K k ((U k (by omega) W).2 Y),S];exact h.e g
end
def Out.A :Out->St
 | .a _ st=>st
 | .b _ _ st=>st
 | .c _ st=>st
def Out.D :Out->Fr
 | .a fr _=>fr
 | .b _ fr _=>fr
 | .c fr _=>fr
def Out.B :Out->Exit
 | .a _ _=> .normal
 | .b i _ _=> .exit i
 | .c _ _=> .ret
section
variable {P : Program} {γ : Locs} {ρ : Nat -> Value} {base : Bs} {st : St} {c : Pt -> Row} {w : World} {fr : Fr} {a : Act} {self : Self} {n : Nat}
theorem JiM (a:Ye P ρ base self){x:Ins}(d:Yq self y fr st x=some (r,t))(c:WF st):Mono st t:=by
 obtain⟨v,_,b⟩:=kV d;rcases b with b|b
 ·rw[b];exact Mono.B c
 ·split at b
  ·exact Jbo a b c
  ·exact Y3 a b c
theorem je {d:Bool}(a:Ye P ρ base self):∀{l:List Ins} {fr c:Fr} {st b:St},Kj self d l fr st=some (c,b)->WF st->Mono st b
 | [],fr,c,st,b,h,e=>by
   simp[Kj]at h;rw[<-h.2];exact Mono.B e
 | x::l,fr,c,st,b,h,e=>by
   simp[Kj]at h
   split at h
   ·rename_i g i j
    have f:=JiM a j e;exact f.A (je a h f.wf)
   grind
theorem JbI {b:Fr->St->Option Out}{c:List Nat}(d:∀fr st a,b fr st=some a->WF st->Mono st a.A):∀(k:Nat) {fr:Fr} {st:St} {a:Out},Jad b c k fr st=some a->WF st->Mono st a.A
 |0,_,_,_,h,_=>by cases h
 | k+1,fr,st,a,h,f=>by
   simp[Jad]at h
   split at h
   ·rename_i g i j
    have e:=d _ _ _ j f;exact e.A (JbI d k h e.wf)
   grind
theorem j9 (o:Ye P ρ base self)(L:Nat):∀(w:C) {fr:Fr} {st:St} {a:Out},evD self L w fr st=some a->WF st->Mono st a.A:=by
 intro w
 induction w with
 |d=>intro fr st a h c;simp[evD]at h;subst h;exact Mono.B c
 | k l=>
   intro fr st a h c;simp only[evD]at h;obtain⟨⟨q,r⟩,p,J⟩:=JH h;subst J;exact je o p c
 | n l M=>
   intro fr st a h c;simp[evD]at h
   split at h
   ·rename_i q r p
    split at h
    ·injection h with h;subst h;exact je o p c
    grind
   grind
 | j x y t s=>
   intro fr st a h c;simp[evD]at h
   split at h
   ·rename_i q r p
    have u:=t p c;exact u.A (s h u.wf)
   grind
 | h v x y t s=>
   intro fr st a h c;simp[evD]at h
   split at h
   ·rename_i q r p
    have u:=t p c;exact u.A (s h u.wf)
   grind
 | f x y z s N=>
   intro fr st a h c;simp[evD]at h
   grind
 | e id b K=>
   intro fr st a h c;simp[evD]at h
   split at h
   ·rename_i i q r p
    split at h
    ·injection h with h;subst h;have m:=K p c;exact m
    grind
   grind
 | g v b K=>
   intro fr st a h c;simp[evD]at h;exact JbI (fun _ _ _ p J=>K p J) L h c
 |i id=>intro fr st a h c;simp[evD]at h;subst h;exact Mono.B c
 |m=>intro fr st a h c;simp[evD]at h;subst h;exact Mono.B c
theorem At.A {f:List Nat}(h:At P γ ρ base n st c w fr a):At P γ ρ base n st c w (restrict f fr) a:=
 ⟨fun s=>by
  unfold Eva.restrict
  split
  ·exact h.e s
  ·trivial,h.d,h.rel,h.b,h.wf⟩
def JeL (P:Program)(ρ:Nat->Value)(base:Bs)(n:Nat)(code:Code)(ev:Fr->St->Option Out):Prop:=
 ∀{γ:Locs} {c:Pt->Row} {w:World} {a:Act} {fr:Fr} {st:St} {out:Out} {Q:Exit->Act->World->Prop},At P γ ρ base n st c w fr a->ev fr st=some out->YF γ st out.A->
  (∀γ' c' a' w',At P γ' ρ base n out.A c' w' out.D a'->Q0 γ ρ base c st out.A w γ' c' w'->Q out.B a' w')->code.wp P Q a w
theorem JlO {f:Code}{r:Fr->St->Option Out}(s:∀fr st d,r fr st=some d->WF st->Mono st d.A)(h:JeL P ρ base n f r)(g:List Nat):∀(k:Nat) {γ:Locs} {c:Pt->Row} {w:World} {a:Act} {fr:Fr} {st:St} {d:Out} {Q:Exit->Act->World->Prop},
  At P γ ρ base n st c w fr a->Jad r g k fr st=some d->YF γ st d.A->(∀γ' p q j,At P γ' ρ base n d.A p j d.D q->Q0 γ ρ base c st d.A w γ' p j->Q d.B q j)->Code.rounds P f Q k a w
 |0,_,_,_,_,_,_,_,_,_,l,_,_=>by cases l
 | k+1,γ,c,w,a,fr,st,d,Q,e,l,t,z=>by
   rw[rounds_succ];simp[Jad]at l
   split at l
   ·rename_i m o J
    have u:=s _ _ _ J e.wf;have K:=JbI s k l u.wf;refine h e J (t.B K) fun γ1 S T U v L=> ?_;exact JlO s h g k v l (t.A u L.b) fun γ' p q j x M=>z γ' p q j x (L.B M u K e.wf)
   ·rename_i N
    refine h e l t fun γ' p q j y O=> ?_;have:=z γ' p q j y O
    cases d with
    |a m o=>grind
    |b i m o=>exact this
    |c m o=>exact this
def keep :Option (List Nat)->Fr->Fr
 |none,fr=>fr
 |some l,fr=>restrict l fr
theorem Jog {x y:Code}{m:Fr->St->Option Out}{live:Option (List Nat)}(J:JeL P ρ base n x q)(O:JeL P ρ base n y m)(S:∀fr st d,q fr st=some d->WF st->Mono st d.A)(T:∀fr st d,m fr st=some d->WF st->Mono st d.A):
  JeL P ρ base n (.seq x y) fun fr st=>match q fr st with
   |some (.a fr st)=>m (keep live fr) st
   |r=>r:=by
 intro γ c w a fr st d Q e h o K;refine wp_seq ?_;simp at h
 split at h
 ·rename_i f g L
  have p:=S _ _ _ L e.wf;have M:=T _ _ _ h p.wf;refine J e L (o.B M) fun γ1 U W X j N=> ?_;have k:At P γ1 ρ base n g U X (keep live f) W:=by
   cases live with
   |none=>exact j
   |some l=>exact j.A
  exact O k h (o.A p N.b) fun γ' s t u v Y=>K γ' s t u v (N.B Y p M e.wf)
 ·rename_i Z
  refine J e h o fun γ' s t u z p'=> ?_;have:=K γ' s t u z p'
  cases d with
  |a f g=>grind
  |b i f g=>exact this
  |c f g=>exact this
theorem JqY (k:Ye P ρ base self)(hρ:∀i,(ρ i).oneCell'=true)(hm:P.follows .mixedOrders=true)(W:Nat):∀(v:Code) {J m:List (List Nat)} {z:C},Yj P n v J=some (z,m)->JeL P ρ base n v (evD self W z):=by
 intro v
 induction v with
 | skip=>
   intro J m z d γ c w a fr st out Q f h u s;simp[Yj]at d;rw[<-d.1]at h;simp[evD]at h;subst h;exact wp_skip (s _ _ _ _ f (Q0.A f.rel))
 | region id Y aa=>
   intro J m z d γ c w a fr st out Q f h u s;simp only[Yj]at d;obtain⟨ag,q,p⟩:=JH d;injection p with p _;subst p;unfold Jev at q
   split at q
   ·rename_i l hl
    split at q
    ·cases q
    ·rename_i hd
     split at q
     ·rename_i is ab
      cases aa with
      | false=>
        simp at q;subst q;simp only[evD]at h;obtain⟨⟨K,L⟩,e1,e2⟩:=JH h;subst e2;refine wp_region ?_;rw[List.range_eq_range',show Y.size=Y.toList.length by simp];exact Jod k hρ Y.toList l is 0 ab (fun j o hj=>by grind) hl f e1 u fun γ' O M N r S=>s γ' O M N r S
      | true=>
        simp only[ZS]at q;obtain⟨ah,hp,p⟩:=JH q;subst p;simp[evD]at h
        split at h
        ·rename_i K L e1
         split at h
         ·rename_i af
          injection h with h;subst h;exact Jtc k hρ hm hl ab (by grind) hp f e1 af u fun γ' O M N r S=>s γ' O M N r S
         grind
        grind
     grind
   grind
 | seq x y T U=>
   intro J m z d;simp[Yj]at d
   split at d
   ·split at d
    ·cases d
    ·rename_i X ad
     split at d
     ·rename_i x' Z hx
      split at d
      ·rename_i y' ae hy
       injection d with d;injection d with d _;subst d;exact Jog (live:=none) (T hx) (U hy) (fun _ _ _ q p=>j9 k W x' q p) (fun _ _ _ q p=>j9 k W y' q p)
      grind
     grind
   ·split at d
    ·rename_i x' Z hx
     split at d
     ·rename_i y' ae hy
      injection d with d;injection d with d _;subst d;exact Jog (live:=none) (T hx) (U hy) (fun _ _ _ q p=>j9 k W x' q p) (fun _ _ _ q p=>j9 k W y' q p)
     grind
    grind
 | cond t x y T U=>
   intro J m z d γ c w a fr st out Q f h u s;simp[Yj]at d
   split at d
   ·rename_i t' ht
    split at d
    ·rename_i x' Z hx
     split at d
     ·rename_i y' ae hy
      injection d with d;injection d with d _;subst d;have hr:=Jk ht f.e;simp[evD]at h
      split at h
      ·rename_i b hb
       rw[hb]at hr;have hr:a.eval t= .bool b:=hr;refine wp_cond hr ?_
       cases b with
       |true=>exact T hx f h u s
       |false=>exact U hy f h u s
      grind
     grind
    grind
   grind
 | block id b ih=>
   intro J m z d γ c w a fr st out Q f h u s;simp only[Yj]at d;obtain⟨⟨b',ad⟩,hb,p⟩:=JH d;injection p with p _;subst p;refine wp_block ?_;simp[evD]at h
   split at h
   ·rename_i i K L q
    split at h
    ·rename_i hi
     injection h with h;subst h;refine ih hb f q u fun γ' O M N r S=> ?_;have:=s γ' O M N r S;show Exit.inBlock id Q (.exit i) M N;simp[Exit.inBlock,hi];exact this
    ·rename_i hi
     injection h with h;subst h;refine ih hb f q u fun γ' O M N r S=> ?_;have:=s γ' O M N r S;show Exit.inBlock id Q (.exit i) M N;simp[Exit.inBlock,hi];exact this
   ·rename_i ai
    refine ih hb f h u fun γ' O M N r S=> ?_;have:=s γ' O M N r S
    cases out with
    |a K L=>exact this
    |b i K L=>grind
    |c K L=>exact this
 | loop b ih=>
   intro J m z d γ c w a fr st out Q f h u s;simp[Yj]at d
   split at d
   ·cases d
   ·rename_i X ad
    obtain⟨⟨b',Z⟩,hb,p⟩:=JH d;injection p with p _;subst p;simp[evD]at h;exact wp_loop_rounds W (JlO (fun _ _ _ q p=>j9 k W b' q p) (ih hb) X W f h u s)
 | exit id=>
   intro J m z d γ c w a fr st out Q f h u s;simp[Yj]at d;rw[<-d.1]at h;simp[evD]at h;subst h;exact wp_exit (s _ _ _ _ f (Q0.A f.rel))
 | ret=>
   intro J m z d γ c w a fr st out Q f h u s;simp[Yj]at d;rw[<-d.1]at h;simp[evD]at h;subst h;exact wp_ret (s _ _ _ _ f (Q0.A f.rel))
 | rangeFunc g ps x y=>
   intro J m z d γ c w a fr st out Q f h u s;simp[Yj]at d;rw[<-d.1]at h;simp only[evD,Opd.A]at h
   cases h
 |_=>intro J m z d;simp[Yj]at d
end
def KM (P:Program)(ρ:Nat->Value)(base:Bs)(f:Nat)(b:Self->List V->St->Option (V×St)):Prop:=
 ∀ self, Ye P ρ base self -> ∀ args st v st', b self args st = some (v, st') -> WF st -> Mono st st' /\ (∃ fn, P.funcs[f]? = some fn /\ fn.body.isSome = true /\ fn.name ≠ "runtime.NumGoroutine") /\
  ∀γ c w xs,RL γ ρ args xs->Rel γ ρ base c w->Full γ c st->YF γ st st'->
   Calls P f xs.toArray w fun e w'=>∃y γ' c',e= .returned y/\Post γ ρ base c st st' w v γ' c' y w'
theorem JkU {P:Program}{ρ:Nat->Value}{a:Bs}{T:Table}(h:∀f b,T f=some b->KM P ρ a f b):∀n,Ye P ρ a (run T n)
 |0=>fun f args e v c d _=>by cases d
 | n+1=>fun f args e v c d g=>by
   simp[run]at d
   split at d
   ·rename_i b i
    exact h f b i (run T n) (JkU h n) args e v c d g
   grind
section
variable {P : Program} {γ : Locs} {ρ : Nat -> Value} {base : Bs} {st : St} {c : Pt -> Row} {w : World} {fr : Fr} {a : Act} {self : Self} {n : Nat}
theorem Jtd (h:At P γ ρ base n st c w fr a){r:ResultVar}{s:RS}(d:jA P r=some s)(f:jx fr st s=some b):
  ∃y,((match r with
   | .tmp t=>pure (a.tmps.getD t undef)
   | .cell p t=>do loadVar t (<-asAddr (a.tmps.getD p undef))):Sem Value).run P w= .ok y w/\R γ ρ b y:=by
 cases r with
 | tmp t=>
   simp[jA]at d;subst d;simp[jx]at f;subst f;exact⟨_,rfl,h.e t⟩
 | cell p t=>
   simp[jA]at d
   split at d
   ·rename_i Q g J
    injection d with d;subst d;simp only[jx]at f;obtain⟨l,i,K⟩:=JH f;subst K;obtain⟨L,j,k,m,o⟩:=Y2 (P:=P) h.rel (h.e p) (fun r _ q x=>h.b r q x) i;refine⟨.agg j.toArray, ?_,⟨j,rfl,m⟩⟩;simp[k,asAddr,Jaf g J o]
   ·rename_i g
    injection d with d;subst d;simp[jx]at f
    split at f
    ·rename_i u i
     injection f with f;subst f;obtain⟨L,j,k,m,o⟩:=Y2 (P:=P) h.rel (h.e p) (fun r _ q x=>h.b r q x) i;obtain⟨y,M,N,O,z⟩:=m;simp[RL]at z;subst z;subst N;refine⟨y, ?_,O⟩;simp[k,asAddr,Jag g (Jiv o)]
    grind
   grind
theorem JlP (h:At P γ ρ base n st c w fr a):∀{i:List ResultVar} {j:List RS} {k:List V},i.mapM (jA P)=some j->j.mapM (jx fr st)=some k->
  ∃e,(i.mapM fun r=>((match r with
   | .tmp t=>pure (a.tmps.getD t undef)
   | .cell p t=>do loadVar t (<-asAddr (a.tmps.getD p undef))):Sem Value)).run P w= .ok e w/\RL γ ρ k e
 | [],j,k,b,d=>by
   simp at b;subst b;simp at d;subst d;exact⟨[],by simp,rfl⟩
 | r::i,j,k,b,d=>by
   rw[Zt]at b
   cases m:jA P r with
   |none=>grind
   | some s=>
     cases f:i.mapM (jA P)with
     |none=>grind
     | some l=>
       simp[m,f]at b;subst b;rw[Zt]at d
       cases o:jx fr st s with
       |none=>grind
       | some v=>
         cases g:l.mapM (jx fr st)with
         |none=>grind
         | some q=>
           simp[o,g]at d;subst d;obtain⟨y,z,u⟩:=Jtd h m o;obtain⟨e,J,x⟩:=JlP h f g;refine⟨y::e, ?_,y,e,rfl,u,x⟩
           simp_all
theorem JkV (h:At P γ ρ base n st c w fr a){f:Func}{m:List RS}(q:f.results.toList.mapM (jA P)=some m)(g:Ql m fr st=some b):∃y,(results f a.tmps).run P w= .ok y w/\R γ ρ b y:=by
 unfold Ql at g;have i:∀j,m.mapM (jx fr st)=some j->∃d,(results f a.tmps).run P w= .ok (if h:d.toArray.size=1 then d.toArray[0]else .tuple d.toArray) w/\RL γ ρ j d:=fun j o=>by
  obtain⟨d,l,k⟩:=JlP h q o;refine⟨d, ?_,k⟩;unfold results;rw[Sem.run_bind,GP];simp only[map_eq_pure_bind,Sem.run_bind];erw [l];rfl
 split at g
 ·rename_i u p
  injection g with g;subst g;obtain⟨d,l,y,r,k,x,s⟩:=i _ p;simp[RL]at s
  grind
 ·rename_i j z p
  injection g with g;subst g;obtain⟨d,l,k⟩:=i _ p;have J:=k.A;refine⟨.tuple d.toArray, ?_,⟨d,rfl,k⟩⟩;rw[l];have:¬d.toArray.size=1:=fun e=>by
   have:j.length=1:=by grind
   obtain⟨u,t⟩:=Hi.1 this
   grind
  grind
 grind
theorem JqZ {args:List V}(h:RL γ ρ args m):FR γ ρ (qG args) {tmps:=m.toArray++Array.replicate s undef,defers:=[]}:=by
 intro i;unfold qG;have d:=h.A
 cases b:args[i]? with
 | some v=>
   obtain⟨x,a,e⟩:=h.H b;have:(m.toArray++Array.replicate s undef).getD i undef=x:=by
    have c:i<m.length:=(Xx.1 a).1;rw[XR,Array.getElem?_append_left (by omega)];simp[a]
   grind
 | none=>
   have c:m.length<=i:=by grind
   have:(m.toArray++Array.replicate s undef).getD i undef=undef:=by
    rw[XR,Array.getElem?_append_right (by omega),GW]
    grind
   simp[this];exact⟨[],rfl,rfl⟩
theorem Jt7 (hρ : ∀ i, (ρ i).oneCell' = true) (hm : P.follows .mixedOrders = true) {f : Nat} {fn : Func} {hs : List (List Nat)} {cf : Fn} (h1 : P.funcs[f]? = some fn) (h2 : JhM P fn hs = some cf) (h3 : fn.name ≠ "runtime.NumGoroutine") (lf : Nat) :
  KM P ρ base f (evFn lf cf):=by
 intro self hself args st v st' he hw;unfold JhM at h2
 split at h2
 ·rename_i code rs hbody hrs
  split at h2
  ·rename_i hle
   split at h2
   ·rename_i cc hs' hcc
    injection h2 with h2;subst h2;have key:∃out,evD self lf cc (qG args) st=some out/\(out.B= .normal\/out.B= .ret)/\Ql rs out.D out.A=some v/\st'=out.A:=by
     unfold evFn at he;simp at he
     split at he
     ·rename_i fr1 st1 h5
      obtain⟨v',h6,h7⟩:=JH he;injection h7 with h7 h8;exact⟨_,h5, .inl rfl,by rw[h7]at h6;exact h6,h8.symm⟩
     ·rename_i fr1 st1 h5
      obtain⟨v',h6,h7⟩:=JH he;injection h7 with h7 h8;exact⟨_,h5, .inr rfl,by rw[h7]at h6;exact h6,h8.symm⟩
     grind
    obtain⟨out,k1,k2,k3,k4⟩:=key;subst k4;refine⟨j9 hself lf cc k1 hw,⟨fn,h1,by grind,h3⟩,fun γ c w xs hx hrel hfull hfresh=> ?_⟩;refine calls_of_wp h1 hbody ?_;refine JqY hself hρ hm lf code hcc (out:=out) ⟨JqZ hx,⟨?_,rfl⟩,hrel,hfull,hw⟩ k1 hfresh fun γ' c' a' w' at' p'=> ?_
    ·grind
    ·obtain⟨y,e1,e2⟩:=JkV at' hrs k3;have fin:a'.defers=[]/\∃v,(results fn a'.tmps).run P w'= .ok v w'/\∃y γ'' c'',Ending.returned v= .returned y/\Post γ ρ base c st out.A w ‹V› γ'' c'' y w':=
      ⟨at'.d.b,y,e1,y,γ',c',rfl,e2,p'.rel,p'.f,p'.b,p'.a,p'.d,p'.below⟩
     rcases k2 with k2|k2<;>rw[k2]<;>exact fin
   grind
  grind
 grind
end
section
variable {P : Program} {γ : Locs} {ρ : Nat -> Value} {base : Bs} {c : Pt -> Row} {w : World}
theorem Qu.below {l:Loc}{a:Row}(c:j.heap[l.b]? =w.heap[l.b]?)(k:Qu γ ρ l a w):Qu γ ρ l a j:=k.A (Ext.A _) c
theorem Rel.below (h:Rel γ ρ base c w){g:World}(e:Below w.heap.size w g):Rel γ ρ base c g:=by
 have i:=e.size;refine⟨by have:=h.y;omega,fun b k=> ?_,fun r l k=> ?_,fun r k=> ?_,h.z,h.B,h.H⟩
 ·rw[<-h.j b k];exact e.block b (by have:=h.y;omega)
 ·have:=h.d r l k;grind
 ·obtain⟨l,a,b⟩:=h.f r k;exact⟨l,a,b.below (e.block l.b (h.d r l a).2)⟩
theorem JlQ {f : Nat} {fn : Func} (h1 : P.funcs[f]? = some fn) (h2 : fn.body.isSome = true) (h3 : fn.name ≠ "runtime.NumGoroutine") {g : List V -> Option V}
  (hc:∀args v,g args=some v->∀γ c w xs,RL γ ρ args xs->Rel γ ρ base c w->Calls P f xs.toArray w fun e w'=>∃y,e= .returned y/\R γ ρ v y/\Below w.heap.size w w'):
  KM P ρ base f fun _ args st=>match g args with
   |some v=>some (v,st)
   |none=>none:=by
 intro self _ args st v st' he hw;have he:(match g args with
  |some v=>some (v,st)
  |none=>none)=some (v,st'):=he
 split at he
 ·rename_i u hg
  injection he with he;injection he with e1 e2;subst e1;subst e2;refine⟨Mono.B hw,⟨fn,h1,h2,h3⟩,fun γ c w xs hx hrel _ _=> ?_⟩;refine(hc args u hg γ c w xs hx hrel).mono fun e w' ⟨y,e1,e2,e3⟩=> ?_;exact⟨y,γ,c,e1,e2,hrel.below e3,Ext.A _,fun _ k=> .inl k,fun _ _=>rfl,fun _ k=>absurd rfl k,e3.mono hrel.y⟩
 grind
theorem Joh {T:Table}{w:World}(h:∀i a,T i=some a->KM P ρ ⟨w.heap.size,w⟩ i a){args:List V}(j:run T s i args St.H=some (b,t))(l:RL (fun _=>none) ρ args m):
  Calls P i m.toArray w fun e d=>∃y γ',e= .returned y/\R γ' ρ b y/\Below w.heap.size w d:=by
 have c:∀r,St.H.A r= .none:=fun r=>by simp[St.A,St.H]
 obtain⟨_,_,o⟩:=JkU h s i args St.H b t j ⟨fun r e=>absurd (c r) e,fun r e=>absurd (c r) e⟩;refine(o (fun _=>none) (fun _=> .none) w m l ⟨Xb _,fun _ _=>rfl,fun _ _ k=>(by cases k),fun _ k=>absurd rfl k,fun _ _ k=>(by cases k),fun _ _ _ _ _ k=>(by cases k),fun _ _ k=>(by cases k)⟩ (fun r _ k=>absurd (c r) k) fun _ _ _=>rfl).mono fun e d ⟨y,γ',q,p,g⟩=> ?_;exact⟨y,γ',p,g.f,g.below⟩
def Pt.G :Nat->Pt
 |0=> .h
 |n+1=>(Pt.G n).F
theorem Pt.B :∀n,(Pt.G n).A=n
 |0=>rfl
 |n+1=>by rw[Pt.G,Pt.D,Pt.B n]
def rosR :List (List V)->St
 |[]=>St.H
 |l::r=>(rosR r).B fun _=> .f l
theorem Jch :∀L,(rosR L).b=Pt.G L.length
 |[]=>rfl
 |_::r=>by show((rosR r).b).F=_;rw[Jch r];rfl
theorem Joi :∀L,(rosR L).t=L.length
 |[]=>rfl
 |_::r=>by show(rosR r).t+1=_;rw[Joi r];rfl
theorem qb :∀(L:List (List V)) (r:Pt),(rosR L).A r=if r.A<L.length then .f (L.getD (L.length-1-r.A) [])else .none
 |[],r=>by simp[rosR,St.A,St.H]
 | l::L,r=>by
   show((rosR L).B fun _=> .f l).A r=_;rw[St.F];by_cases e:r=(rosR L).b
   ·subst e;rw[JC,Jch,Pt.B];simp
   ·have a:r.A≠L.length:=fun h=>e (by rw[Jch];exact Pt.H (by rw[Pt.B,h]));rw[Jy _ _ e,qb L r]
    grind
theorem JlR (L:List (List V)):WF (rosR L):=by
 refine⟨fun r h=> ?_,fun r h=> ?_⟩
 ·rw[qb]at h;rw[Jch,Pt.B]
  grind
 ·rw[qb]at h⊢;rw[Joi]
  split at h
  ·rename_i a;rw[Xe a];show 0<L.length;omega
  grind
def rosG (n:Nat)(locs:Nat->Loc):Locs:=fun r=>if r.A<n then some (locs r.A)else none
theorem JhX {T:Table}{w:World}(h:∀i a,T i=some a->KM P ρ ⟨w.heap.size,w⟩ i a){L:List (List V)}{d:Nat->Loc}
  (J:∀c,c<L.length->Qu (rosG L.length d) ρ (d c) (.f (L.getD (L.length-1-c) [])) w/\(d c).b<w.heap.size)
   {args:List V}   (K:run T s i args (rosR L)=some (b,t))  (M:RL (rosG L.length d) ρ args m):
  Calls P i m.toArray w fun e p=>∃y γ',e= .returned y/\R γ' ρ b y/\Below w.heap.size w p:=by
 have o:∀r l,rosG L.length d r=some l->r.A<L.length/\l=d r.A:=fun r l k=>by
  unfold rosG at k
  grind
 have g:∀r,r.A<L.length->(rosR L).A r= .f (L.getD (L.length-1-r.A) []):=fun r k=>by rw[qb,Xe k]
 obtain⟨_,_,N⟩:=JkU h s i args (rosR L) b t K (JlR L);refine(N (rosG L.length d) (rosR L).A w m M ⟨Xb _,fun _ _=>rfl,fun r l k=> ?_,fun r k=> ?_,fun r l k u=> ?_,fun r q O S _ j _ x _=> ?_,fun r l k _=> ?_⟩ (fun r _ _=>rfl) fun r j _=> ?_).mono fun e p ⟨y,γ',U,Q,z⟩=> ?_
 ·obtain⟨j,rfl⟩:=o r l k;exact⟨fun e=>(by rw[g r j]at e;cases e),(J _ j).2⟩
 ·rw[qb]at k
  split at k
  ·rename_i j
   refine⟨d r.A,by unfold rosG;grind, ?_⟩
   grind
  grind
 ·grind
 ·obtain⟨u,_⟩:=o r O j;rw[g r u]at x;exact x.elim
 ·grind
 ·rw[Jch,Pt.B]at j;unfold rosG
  grind
 ·exact⟨y,γ',Q,z.f,z.below⟩
end
def Jgs (m n' v':Nat):Nat->Nat->Nat->Option Nat
 |0,_,_=>none
 |fuel+1,i,v=>if v%m=v' then some i else Jgs m n' v' fuel (i+1) (v/256)
def JeM (n v n' v':Nat):Option Nat:=if n'<=n then Jgs (2^(8*n')) n' v' (n+1-n') 0 v else none
theorem JeN {a b:Nat}{s sub:List UInt8}(d:sub.length=a)(f:snum sub=b):∀(fuel i:Nat),i+fuel+a<=s.length+1->
  (∀k,Jgs (2^(8*a)) a b fuel i (snum (s.drop i))=some k->i<=k/\k+a<=s.length/\Lib.occAt s sub k=true/\∀j,i<=j->j<k->Lib.occAt s sub j=false)/\
  (Jgs (2^(8*a)) a b fuel i (snum (s.drop i))=none->∀j,i<=j->j<i+fuel->Lib.occAt s sub j=false)
 |0,i,_=>⟨fun k h=>by simp[Jgs]at h,fun _ j o p=>by omega⟩
 | fuel+1,i,g=>by
   have e:(snum (s.drop i)%2^(8*a)=b)<->Lib.occAt s sub i=true:=by
    rw[two8,Jgf,Lib.occAt_iff_take s sub i (by omega),d];constructor
    ·intro h;have l:((s.drop i).take a).length=sub.length:=by grind
     have:=jb l (by omega)
     grind
    grind
   have c:snum (s.drop i)/256=snum (s.drop (i+1)):=by
    have:=JaX (s.drop i) 1
    simp_all
   obtain⟨m,n⟩:=JeN (s:=s) (sub:=sub) d f fuel (i+1) (by omega);simp[Jgs]
   grind
theorem JdJ (s c:List UInt8):Lib.index s c=match JeM s.length (snum s) c.length (snum c)with
  |some i=>(i:Int)
  |none=> -1:=by
 unfold JeM;by_cases f:c.length<=s.length
 ·rw[Xe f];obtain⟨m,o⟩:=JeN (s:=s) (sub:=c) rfl rfl (s.length+1-c.length) 0 (by omega);rw[XP]at m o
  split
  ·rename_i k n
   obtain⟨a,b,d,e⟩:=m k n;exact Lib.index_first (by omega) d fun j g=>e j (XC _) g
  ·rename_i n
   refine Lib.index_none fun j g=> ?_;by_cases p:j<s.length+1-c.length
   ·grind
   ·cases l:Lib.occAt s c j with
    |false=>rfl
    | true=>
      rcases Lib.occAt_room l with h|h
      ·omega
      grind
 ·rw[Xa f];refine Lib.index_none fun j g=> ?_
  cases l:Lib.occAt s c j with
  |false=>rfl
  | true=>
    rcases Lib.occAt_room l with h|h
    ·omega
    grind
def kW :List V->Option V
 |[.t n v, .t n' v']=>if n<4294967281 then some (.h (JeM n v n' v').isSome)else none
 |_=>none
theorem Joj {γ:Locs}{ρ:Nat->Value}{b:Nat}(h:RL γ ρ [.t s i, .t Z b] m):
  ∃a t:ByteArray,m=[.string a, .string t]/\a.data.toList.length=s/\snum a.data.toList=i/\t.data.toList.length=Z/\snum t.data.toList=b:=by
 obtain⟨y,e,f,⟨a,g,j,k⟩,l,c,o,⟨t,p,q,r⟩,d⟩:=h;simp[RL]at d
 grind
section
variable {P : Program} {ρ : Nat -> Value} {base : Bs}
theorem JiN {f : Nat} {fn : Func} (h1 : P.funcs[f]? = some fn) (h2 : fn.body.isSome = true) (h3 : fn.name ≠ "runtime.NumGoroutine") {g : Nat} {m : Int} (hg : g < base.n) (hm : base.w.cell? ⟨g, 0, none⟩ = some (.int .i64 m))
  (hc:∀(s sub:ByteArray) (m:Int) (w:World),s.size<4294967281->w.cell? ⟨g,0,none⟩=some (.int .i64 m)->Calls P f #[.string s, .string sub] w fun e w'=>e= .returned (.bool (Lib.contains s.data.toList sub.data.toList))/\w'=w):
  KM P ρ base f fun _ args st=>match kW args with
   |some v=>some (v,st)
   |none=>none:=
 JlQ h1 h2 h3 fun args v hv γ c w xs hx hrel=>by
  unfold kW at hv
  split at hv
  ·rename_i n a n' a'
   split at hv
   ·rename_i hn
    obtain⟨s,t,e1,e2,e3,e4,e5⟩:=Joj hx;subst e1;have hcell:w.cell? ⟨g,0,none⟩=some (.int .i64 m):=by
     rw[<-hm];exact World.cell?_of_block (w:=base.w) (hrel.j g hg)
    refine(hc s t m w (by simp_all) hcell).mono fun e w' ⟨k1,k2⟩=> ?_;refine⟨_,k1, ?_,by rw[k2];exact Below.refl _ _⟩;injection hv with hv;subst hv;unfold Lib.contains;rw[JdJ,e2,e3,e4,e5];show Value.bool _=Value.bool _
    cases hi:JeM n a n' a' with
    |some i=>simp
    |none=>simp
   grind
  grind
end
end Eva
