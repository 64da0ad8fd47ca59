/- An evaluator of the model's code, proved to tell what the model does. Operations, one b -/
import Derived.Test.YtmcjecniobkggaaGreatEva1
import Derived.Laws.StructEq
import GoSem.Instr.MapUpdate
import Derived.Laws.MakeOwn
set_option linter.constructorNameAsVariable false
set_option linter.unusedVariables false
set_option linter.unusedSimpArgs false
set_option linter.unusedSectionVars false
namespace Eva
open Go Go.RowKit
variable {s b:TypeId}{v n f S:Nat}{e x:Value}{t j:List V}{k i m:Option Operand}{z u:V}{d:Bool}{r:Array (Nat×Operand)}{q:List (Nat×Nat×Opd)}{p:IntKind}{l W:Option Opd}{h:List KD}{g:BinOp}{y:Array Value}{T:KD}{Q:Int}
section
variable {P : Program} {γ : Locs} {ρ : Nat -> Value} {base : Bs} {st : St} {c : Pt -> Row} {w : World} {fr : Fr} {a : Act}
theorem Jbj (n k:Nat)(z:Array Value)(c:z.size=k):((Array.range (n*k)).map fun i=>z[i%k]!).toList=(List.replicate n z.toList).flatten:=by
 induction n with
 |zero=>simp
 | succ n a=>
   rw[show List.replicate (n+1) z.toList=List.replicate n z.toList++[z.toList]from Hg,XS,<-a];simp;rw[ZS,List.range_add,ZA,List.map_map];congr 1;apply Hv;intro i;by_cases b:i<k
   ·have d:(n*k+i)%k=i:=by rw[Hw,Nat.add_mul_mod_self_right];exact Gn b
    grind
   grind
theorem JdO (K:∀i,(ρ i).oneCell'=true){b:Array Field}
  (L:P.underlying s=some (.struct b)) (M:KA P s=some t)
  (N:parts (fun i=>match b[i]? with
    |some f=>(szT P f.type).map fun n=>(f.offset,n)
    |none=>none) r.toList=some q)
  (e:(b.toList.all fun f=>(szT P f.type).isSome)=true) (p:FR γ ρ fr a) (O:YU t (evps fr q)=some j) (g:Rel γ ρ base c w):
  OpOK P γ ρ base st c w (.j j) .a (do pure (.value (<-Instr.build s (r.map fun(i,x)=>(i,a.eval x))))):=by
 obtain⟨z,u,Q⟩:=Qa (ρ:=ρ) M;have S:∀(l:List Field) (w:World),(l.all fun f=>(szT P f.type).isSome)=true->
   ((l.mapM fun(f:Field)=>(do pure (f.offset,<-Go.sizeOf f.type):Sem (Nat×Nat))).run P w)= .ok (l.map fun(f:Field)=>(f.offset,(szT P f.type).getD 0)) w:=by
  intro l
  induction l with
  |nil=>simp
  | cons f l T=>
    intro w h;simp only[ZE,Xj]at h;obtain⟨n,o⟩:=Zw.1 h.1;rw[Zx];simp only[Sem.run_bind,JX o,Result.andThen_ok,Sem.run_pure,T w h.2,o,XV,GR]
 have d:∀i:Nat,((b.map fun(f:Field)=>(f.offset,(szT P f.type).getD 0))[i]?)=(match b[i]? with
    |some f=>(szT P f.type).map fun n=>(f.offset,n)
    |none=>none):=by
  intro i;rw[Array.getElem?_map]
  cases X:b[i]? with
  |none=>rfl
  | some f=>
    have k:f∈b.toList:=by grind
    have:=Ze.1 e f k;obtain⟨n,o⟩:=Zw.1 this;simp[o]
 obtain⟨m,Y,U,_⟩:=qw K _ r.toList q t j z.cells N p (Q γ) O;have v:(fun(i:Nat)=>(b.map fun(f:Field)=>(f.offset,(szT P f.type).getD 0))[i]?)=(fun(i:Nat)=>match b[i]? with
    |some f=>(szT P f.type).map fun n=>(f.offset,n)
    |none=>none):=funext d
 have W:(b.mapM fun(f:Field)=>(do pure (f.offset,<-Go.sizeOf f.type):Sem (Nat×Nat))).run P w= .ok (b.map fun(f:Field)=>(f.offset,(szT P f.type).getD 0)) w:=by
  rw[GK,Sem.run_map,S _ w e];simp[Result.andThen_ok,<-Array.toList_map]
 refine OpOK.A g (y:= .agg m) ?_ ⟨m.toList,by simp,U⟩;simp[Sem.run_bind,Instr.build,u,Result.andThen_ok,Jf L]
 simp_all
theorem Jeb (k:∀i,(ρ i).oneCell'=true)
  (l:P.underlying s=some (.array v b)) (m:KA P s=some t) (o:szT P b=some n)
  (p:parts (fun i=>some (i*n,n)) r.toList=some q) (g:FR γ ρ fr a) (u:YU t (evps fr q)=some j) (d:Rel γ ρ base c w):
  OpOK P γ ρ base st c w (.j j) .a (do pure (.value (<-Instr.build s (r.map fun(i,x)=>(i,a.eval x))))):=by
 obtain⟨z,h,K⟩:=Qa (ρ:=ρ) m;obtain⟨f,M,L,_⟩:=qw k _ r.toList q t j z.cells p g (K γ) u;refine OpOK.A d (y:= .agg f) ?_ ⟨f.toList,by simp,L⟩;simp[Sem.run_bind,Instr.build,h,Result.andThen_ok,Jf l,JX o]
 simp_all
theorem Jsl (hρ:∀i,(ρ i).oneCell'=true)
  (U:P.underlying s=some (.slice b)) (u:szT P b=some n) (hz:KA P b=some t) (W:t.length=n) (g:v*n<=2^24)
  (hp:parts (fun i=>some (i*n,n)) r.toList=some q) (Q:FR γ ρ fr a) (hf:YU (List.replicate v t).flatten (evps fr q)=some j) (hl:j.length=v*n)
  (K:Rel γ ρ base c w) (L:γ st.b=none):
  OpOK P γ ρ base st c w (.m st.b 0 v n v) (.b fun s=> .a s j) (do pure (.value (<-Instr.buildSlice s v (r.map fun(i,x)=>(i,a.eval x))))):=by
 obtain⟨O,S,X⟩:=Qa (ρ:=ρ) hz;have M:O.cells.size=n:=by have:=(X γ).A;grind
 have k:∀N:Array Value,RL γ ρ (List.replicate v t).flatten ((Array.range (v*n)).map fun i=>N[i%N.size]!).toList->
   ((if v*n=0 then(N= #[])else N=O.cells))->OpOK P γ ρ base st c w (.m st.b 0 v n v) (.b fun s=> .a s j) (do pure (.value (<-Instr.buildSlice s v (r.map fun(i,x)=>(i,a.eval x))))):=by
  intro N T d;obtain⟨f,Y,Z,_⟩:=qw hρ _ r.toList q _ j _ hp Q T hf;have aa:f.size=v*n:=by have:=Z.A;grind
  refine OpOK.D (o:= .cells f b) (e:=f.size) (w':=w.alloc (.cells f b)) K L ⟨w.drawn,rfl⟩ (y:= .slice (some ⟨w.heap.size,0,none⟩) v v) ?_
   ⟨_,_,JG _ _ _,rfl,Xb _,fun _=>rfl,by grind⟩ (JaJ (Z.J (Ext.B L)) rfl) (fun h=>h.elim)
  by_cases p:v*n=0
  ·rw[Xd p]at d;subst d;simp only[Sem.run_bind,Instr.buildSlice,Jf U,Result.andThen_ok,JX u,Xa (Nat.not_lt.2 g),Xd p,Sem.run_pure];rw[Z2,Y];rfl
  ·rw[Xa p]at d;subst d;simp only[Sem.run_bind,Instr.buildSlice,Jf U,Result.andThen_ok,JX u,Xa (Nat.not_lt.2 g),Xa p,Sem.run_pure,S];rw[Z2,Y];rfl
 by_cases p:v*n=0
 ·refine k #[] ?_ (by grind);have:(List.replicate v t).flatten=[]:=by
   apply Xp
   simp_all
  rw[this,p];simp[RL]
 ·refine k O.cells ?_ (by grind);rw[M,Jbj v n O.cells M];exact RL.B (X γ) v
theorem YE (d:Rel γ ρ base c w){r:Pt}(g:R γ ρ (.e r v) e)(h:γ r≠none->st.A r≠ .none->c r=st.A r){a:Row}(i:st.A r=a)(j:a≠ .none):
  ∃l,γ r=some l/\e= .pointer (some ⟨l.b,l.o+v,none⟩)/\c r=a/\Qr γ ρ l a w:=by
 obtain⟨l,k,m⟩:=g;have n:c r=a:=by grind
 obtain⟨p,q,s⟩:=d.f r (by grind)
 grind
theorem YX (b:Rel γ ρ base c w){v:V}(i:R γ ρ v x)(j:∀r,rowOf v=some r->γ r≠none->st.A r≠ .none->c r=st.A r)(h:Kw st n v=some t):
  ∃k e,x= .pointer (some k)/\RL γ ρ t e/\(loadCells k n).run P w= .ok e.toArray w:=by
 unfold Kw at h
 split at h
 ·rename_i r o
  split at h
  ·rename_i a m f
   split at h
   ·rename_i d
    injection h with h;subst h;obtain⟨p,q,s,u,g⟩:=YE b i (j r rfl) f (by simp);obtain⟨e,y,z⟩:=JbO (P:=P) g d
    grind
   grind
  ·rename_i m f
   split at h
   ·rename_i d
    injection h with h;subst h;obtain⟨p,q,s,u,g⟩:=YE b i (j r rfl) f (by simp);obtain⟨e,y,z⟩:=JcC (P:=P) g d
    grind
   grind
  grind
 grind
theorem Jh2 {w:World}{b:Addr}(h:(loadCells b 1).run P w= .ok #[e] w):(load b).run P w= .ok e w:=by
 simp[loadCells,loadCellsFrom]at h;rw[show b.add 0=b by rfl]at h
 cases d:(load b).run P w with
 |halt a c=>simp_all
 | ok f c=>
   simp_all
theorem Jnu (f:R γ ρ z e)(g:∀r,rowOf z=some r->γ r≠none->st.A r≠ .none->c r=st.A r)(b:Rel γ ρ base c w)
  (i:Kf P s=some false) (h:Kw st 1 z=some [u]):OpOK P γ ρ base st c w u .a (do pure (.value (<-Instr.loadAt s e))):=by
 obtain⟨p,q,j,k,l⟩:=YX (P:=P) b f g h;subst j;obtain⟨y,m,n,o,d⟩:=k;simp[RL]at d;subst d;subst n;refine OpOK.A b (y:=y) ?_ o;simp[Instr.loadAt,Instr.sureAddr,qW i (Jh2 l)]
theorem Jnv (f:R γ ρ z e)(g:∀r,rowOf z=some r->γ r≠none->st.A r≠ .none->c r=st.A r)(b:Rel γ ρ base c w)
  (i:Kf P s=some true) (k:szT P s=some v) (h:Kw st v z=some t):OpOK P γ ρ base st c w (.j t) .a (do pure (.value (<-Instr.loadAt s e))):=by
 obtain⟨q,d,m,o,p⟩:=YX (P:=P) b f g h;subst m;refine OpOK.A b (y:= .agg d.toArray) ?_ ⟨d,rfl,o⟩;simp[Instr.loadAt,Instr.sureAddr,qV i k p]
theorem OpOK.B {r:Pt}{f:Nat->Row}{s:Sem Next}{w':World}{x:Next}(a:s.run P w= .ok x w')(b:Jns γ ρ z x)(h:Rel γ ρ base (upd c r (f st.t)) w')(e:Below base.n w w'):
  OpOK P γ ρ base st c w z (.d r v f) s:=⟨_,w',γ,a,b,h,Ext.A _,fun _ k=> .inl k,e⟩
theorem Jnw (j:∀i,(ρ i).oneCell'=true){a:Eff}(k:R γ ρ z x)(l:R γ ρ u e)
  (m:∀r,rowOf z=some r->γ r≠none->st.A r≠ .none->c r=st.A r) (b:Rel γ ρ base c w) (p:szT P s=some v)
  (q:u.A=some t) (U:t.length=v) (h:JO st z t=some a):OpOK P γ ρ base st c w Kj a (do Instr.storeAt s x e;pure .skip):=by
 unfold JO at h
 split at h
 ·rename_i r o
  split at h
  ·rename_i W X K
   split at h
   ·rename_i d
    injection h with h;subst h;obtain⟨Y,L,M,N,Z⟩:=YE b k (m r rfl) K (by simp);have f:=Jai j q l;obtain⟨O,Q,S,T⟩:=jK (P:=P) (u:=st.t) j b L N d.1 d.2 f;subst M;refine OpOK.B (x:= .skip) (w':=O) ?_ (.inr ⟨rfl,rfl⟩) S T;have g:e.cells.size=v:=by have:=f.A;grind
    simp[Instr.storeAt,Instr.sureAddr,storeVar,JX p,g,Q]
   grind
  grind
 grind
theorem Jh3 (h:R γ ρ z e)(d:Rel γ ρ base c w)(j:(∃r o,z= .e r o)\/∃f p q,z= .D f p q){s:Sem Next}
  (k:∀m,e= .pointer (some m)->s.run P w= .ok (.value e) w) (i:∀f p q,e= .func (.func f) p q->s.run P w= .ok (.value e) w):OpOK P γ ρ base st c w z .a s:=by
 rcases j with⟨r,o,b⟩|⟨f,p,q,b⟩
 ·subst b;have g:=h;obtain⟨l,_,b⟩:=g;exact OpOK.A d (k _ b) h
 ·subst b;have g:=h;obtain⟨n,t,b,_⟩:=g;exact OpOK.A d (i _ _ _ b) h
end
section
variable {P : Program} {γ : Locs} {ρ : Nat -> Value} {base : Bs} {st : St} {c : Pt -> Row} {w : World} {fr : Fr} {a : Act}
def KDok (P:Program)(t:TypeId):KD->Prop
 | .b=>P.underlying t=some .bool
 | .i=>∃k,P.underlying t=some (.int k)
 | .s=>P.underlying t=some .string
 | .p=>∃e,P.underlying t=some (.pointer e)
 | .l=>∃e,P.underlying t=some (.slice e)
 | .m=>∃k e,P.underlying t=some (.map k e)
 | .f=>∃p r v,P.underlying t=some (.func p r v)
theorem Jkc {x y:ByteArray}(a:x.data.toList.length=v)(b:snum x.data.toList=n)(c:y.data.toList.length=f)(d:snum y.data.toList=S):
  (x.toList==y.toList)=(v==f&&n==S):=by
 rw[ByteArray.toList_eq,ByteArray.toList_eq];rw[He];simp only[ZB,Xj];constructor
 ·grind
 ·rintro⟨e,g⟩;exact kY (by omega) (by omega)
theorem JcD (g:KDok P s T)(h:keq T z u=some d)(i:R γ ρ z e)(f:R γ ρ u x)(D:Nat):
  (Op.equalIn (D+1) s e x).run P w= .ok d w:=by
 unfold keq at h
 split at h
 ·simp at h;subst h;simp[R]at i f;subst i;subst f;simp[Op.equalIn,Jf g]
 ·split at h
  ·simp at h;subst h;simp[R]at i f;subst i;subst f
   rename_i m;subst m
   obtain⟨K,g⟩:=g;simp[Op.equalIn,Jf g]
  grind
 ·simp at h;subst h;obtain⟨O,j,n,o⟩:=i;obtain⟨Q,p,L,M⟩:=f;subst j;subst p;rw[<-Jkc n o L M,<-beq_toListBytes];simp[Op.equalIn,Jf (show P.underlying s=some .string from g)]
 all_goals first
  |(cases h;done)
  | (split at h
     ·simp at h;subst h
      rename_i m
      obtain⟨m,q⟩:=m;obtain⟨a,j,n,o,p⟩:=i;simp[R]at f;subst j;subst f;subst m;have r:=N p q;obtain⟨K,g⟩:=g;simp[Op.equalIn,Jf g,r]
     grind)
  | (simp at h;subst h
     obtain⟨c,g⟩:=g
     first
      |(simp[R]at i f;subst i;subst f;simp[Op.equalIn,Jf g];done)
      |(obtain⟨l,_,j⟩:=f;simp[R]at i;subst i;subst j;simp[Op.equalIn,Jf g];done)
      |(obtain⟨l,_,j⟩:=i;simp[R]at f;subst f;subst j;simp[Op.equalIn,Jf g];done)
      |(obtain⟨l,_,_,_,j,_⟩:=f;simp[R]at i;subst i;subst j;simp[Op.equalIn,Jf g];done)
      |(obtain⟨l,_,_,_,j,_⟩:=i;simp[R]at f;subst f;subst j;simp[Op.equalIn,Jf g];done)
      |(obtain⟨l,_,_,j,_⟩:=f;simp[R]at i;subst i;subst j;simp[Op.equalIn,Jf g];done)
      |(obtain⟨l,_,_,j,_⟩:=i;simp[R]at f;subst f;subst j;simp[Op.equalIn,Jf g];done)
      | (obtain⟨n,g⟩:=g
         first
          |(simp[R]at i f;subst i;subst f;simp[Op.equalIn,Jf g];done)
          |(obtain⟨l,_,j⟩:=f;simp[R]at i;subst i;subst j;simp[Op.equalIn,Jf g];done)
          |(obtain⟨l,_,j⟩:=i;simp[R]at f;subst f;subst j;simp[Op.equalIn,Jf g];done)
          | (obtain⟨o,g⟩:=g
             first
              |(simp[R]at i f;subst i;subst f;simp[Op.equalIn,Jf g];done)
              |(obtain⟨_,_,j,_⟩:=f;simp[R]at i;subst i;subst j;simp[Op.equalIn,Jf g];done)
              |(obtain⟨_,_,j,_⟩:=i;simp[R]at f;subst f;subst j;simp[Op.equalIn,Jf g];done))))
theorem Jdd {g:List KD}:∀{c e d f:List V} {b:Bool},c.length=h.length->d.length=h.length->keqs (h++g) (c++e) (d++f)=some b->
  (keqs h c d=some true/\keqs g e f=some b)\/(keqs h c d=some false/\b=false):=by
 induction h with
 | nil=>
   intro c e d f b i j a;have l:=Xp i;have m:=Xp j;subst l;subst m;exact .inl ⟨rfl,a⟩
 | cons k h n=>
   intro c e d f b i j a
   cases c with
   |nil=>grind
   | cons u c=>
     cases d with
     |nil=>grind
     | cons v d=>
       simp[keqs]at a⊢
       grind
def JbQ (D:Nat)(e:TypeId)(n:Nat)(xs ys:Array Value):Nat->Nat->Sem Bool
 |_,0=>pure true
 | i,m+1=>do
   let x<-part e xs (i*n)
   let y<-part e ys (i*n)
   let r<-Op.equalIn D e x y
   if(!r)=true then pure false else JbQ D e n xs ys (i+1) m
theorem JbR {D:Nat}{d:Array Value}(g:P.underlying s=some (.array n b))(h:szT P b=some f):
  (Op.equalIn (D+1) s (.agg y) (.agg d)).run P w=(JbQ D b f y d 0 n).run P w:=by
 simp only[Op.equalIn,Sem.run_bind,Jf g,Result.andThen_ok,JX h];rw[Std.Legacy.Range.forIn_eq_forIn_range'];simp[Std.Legacy.Range.size];clear g;generalize 0=i
 induction n generalizing i w with
 |zero=>rfl
 | succ m j=>
   simp only[GS,List.forIn_cons,JbQ,Sem.run_bind,Sem.run_ite];generalize (part b y (i*f)).run P w=r1
   cases r1 with
   | ok a w1=>
     simp only[Result.andThen_ok];generalize (part b d (i*f)).run P w1=r2
     cases r2 with
     | ok c w2=>
       simp only[Result.andThen_ok];generalize (Op.equalIn D b a c).run P w2=r3
       cases r3 with
       | ok r w3=>
         simp_all
       |halt x w3=>rfl
     |halt x w2=>rfl
   |halt x w1=>rfl
theorem Qc (a:Kf P s=some true)(b:szT P s=some v):(part s y n).run P w= .ok (.agg (y.extract n (n+v))) w:=by
 simp[part,kZ a,JX b]
theorem kC (a:Kf P s=some false)(b:y[v]? =some e):(part s y v).run P w= .ok e w:=by
 simp[part,kZ a,b]
theorem Yi {d:TypeDesc}(h:P.underlying s=some d)(b:∀a,d≠ .struct a)(c:∀n e,d≠ .array n e):Kf P s=some false:=by
 simp[Kf,h]
theorem kD (b:Array Value)(a n:Nat):(b.extract a (a+n)).toList=(b.toList.drop a).take n:=by simp
def Jhk (P:Program)(γ:Locs)(ρ:Nat->Value)(d:Nat)(t:TypeId)(ks:List KD):Prop:=
 ∀(D:Nat),d<=D->∀(xs ys:Array Value) (off:Nat) (us vs:List V) (b:Bool) (w:World),us.length=ks.length->vs.length=ks.length->
  RL γ ρ us ((xs.toList.drop off).take ks.length)->RL γ ρ vs ((ys.toList.drop off).take ks.length)->keqs ks us vs=some b->
  ∃x y,(part t xs off).run P w= .ok x w/\(part t ys off).run P w= .ok y w/\(Op.equalIn D t x y).run P w= .ok b w
theorem Ja3 {d:Nat}(q:∀t ks,leaves P d t=some ks->Jhk P γ ρ d t ks):∀(k:List Field) (o:Nat) (ks:List KD),Yl (leaves P d) k o=some ks->
  ∀(D:Nat),d<=D->∀(a c:Array Value) (e g:List V) (b:Bool) (w:World),e.length=ks.length->g.length=ks.length->
   RL γ ρ e ((a.toList.drop o).take ks.length)->RL γ ρ g ((c.toList.drop o).take ks.length)->keqs ks e g=some b->
   (Op.eqFields D a c k).run P w= .ok b w
 | [],o,ks,h,D,_,a,c,e,g,b,w,s,u,_,_,m=>by
   simp[Yl]at h;subst h;have v:=Xp s;have z:=Xp u;subst v;subst z;simp[keqs]at m;subst m;rfl
 | f::k,o,ks,h,D,K,a,c,e,g,b,w,s,u,L,M,m=>by
   simp only[Yl]at h
   split at h
   ·cases h
   ·rename_i Q
    simp[GO,ZY]at Q
    cases N:leaves P d f.type with
    |none=>grind
    | some l=>
      cases S:Yl (leaves P d) k (o+l.length)with
      |none=>grind
      | some r=>
        simp[N,S]at h;subst h;simp at s u L M;have i:=L.I l.length;have j:=M.I l.length;have n:=L.G l.length;have p:=M.G l.length;rw[ZQ,Zd (by omega)]at i j;rw[Gg,ZH,GT]at n p;rw[<-XW l.length e,<-XW l.length g]at m;have l1:(e.take l.length).length=l.length:=by grind
        have l2:(g.take l.length).length=l.length:=by grind
        rw[Op.eqFields,Xd Q.1];rcases Jdd l1 l2 m with⟨O,T⟩|⟨O,T⟩
        ·obtain⟨x,y,v,z,U⟩:=q _ _ N D K a c o _ _ true w l1 l2 i j O;have:=Ja3 q k (o+l.length) r S D K a c _ _ b w (by grind) (by grind) n p T
         simp_all
        ·obtain⟨x,y,v,z,U⟩:=q _ _ N D K a c o _ _ false w l1 l2 i j O
         simp_all
theorem Ja4 {d:Nat}{e:TypeId}{l:List KD}(q:Jhk P γ ρ d e l){D:Nat}(r:d<=D){n:Nat}(N:n=l.length):∀(m i:Nat) (a c:Array Value) (f g:List V) (b:Bool) (w:World),
  f.length=m*n->g.length=m*n->RL γ ρ f ((a.toList.drop (i*n)).take (m*n))->RL γ ρ g ((c.toList.drop (i*n)).take (m*n))->keqs (List.replicate m l).flatten f g=some b->
  (JbQ D e n a c i m).run P w= .ok b w
 | 0,i,a,c,f,g,b,w,s,t,_,_,p=>by
   have u:=Xp (by simpa using s);have v:=Xp (by simpa using t);subst u;subst v;simp[keqs]at p;subst p;rfl
 | m+1,i,a,c,f,g,b,w,s,t,z,K,p=>by
   rw[ZS]at s t z K;have h:=z.I n;have j:=K.I n;have k:=z.G n;have o:=K.G n;rw[ZQ,Zd (by omega)]at h j;rw[Gg,ZH,Nat.add_sub_cancel]at k o;rw[<-XW n f,<-XW n g]at p;have l1:(f.take n).length=n:=by grind
   have l2:(g.take n).length=n:=by grind
   simp only[ZO,Zy]at p;have O:i*n+n=(i+1)*n:=by grind
   rw[O]at k o;subst N;rw[JbQ];rcases Jdd l1 l2 p with⟨L,M⟩|⟨L,M⟩
   ·obtain⟨x,y,u,v,Q⟩:=q D r a c (i*l.length) _ _ true w l1 l2 h j L;have:=Ja4 q r rfl m (i+1) a c _ _ b w (by grind) (by grind) k o M
    simp_all
   ·obtain⟨x,y,u,v,Q⟩:=q D r a c (i*l.length) _ _ false w l1 l2 h j L
    simp_all
theorem Jnx (a:t.length=1)(c:j.length=1)(h:keqs [T] t j=some d):∃u v,t=[u]/\j=[v]/\keq T u v=some d:=by
 cases t with
 |nil=>grind
 | cons u t=>
   cases j with
   |nil=>grind
   | cons v j=>
     have e:=Xp (by simpa using a);have f:=Xp (by simpa using c);subst e;subst f;refine⟨u,v,rfl,rfl, ?_⟩;simp[keqs]at h
     grind
theorem Jbk (l:KDok P s T)(h:Kf P s=some false):Jhk P γ ρ (v+1) s [T]:=by
 intro D Q i j c S U b w m n o p q;obtain⟨u,a,r,z,K⟩:=Jnx m n q;subst r;subst z;obtain⟨x,L,W,M,_⟩:=o;obtain⟨y,N,X,O,_⟩:=p;have e:i[c]? =some x:=by
  have:((i.toList.drop c).take 1)[0]? =some x:=by grind
  grind
 have f:j[c]? =some y:=by
  have:((j.toList.drop c).take 1)[0]? =some y:=by grind
  grind
 obtain⟨g,rfl⟩:∃g,D=g+1:=⟨D-1,by omega⟩
 exact⟨x,y,kC h e,kC h f,JcD l K M O g⟩
theorem qx :∀(d:Nat) (t:TypeId) (ks:List KD),leaves P d t=some ks->Jhk P γ ρ d t ks
 |0,t,ks,h=>by simp[leaves]at h
 | d+1,t,ks,h=>by
   simp[leaves]at h
   split at h
   ·rename_i a;injection h with h;subst h;exact Jbk a (Yi a (fun _ e=>by cases e) (fun _ _ e=>by cases e))
   ·rename_i k a;injection h with h;subst h;exact Jbk ⟨k,a⟩ (Yi a (fun _ e=>by cases e) (fun _ _ e=>by cases e))
   ·rename_i a;injection h with h;subst h;exact Jbk a (Yi a (fun _ e=>by cases e) (fun _ _ e=>by cases e))
   ·rename_i s a
    split at h
    ·cases h
    ·rename_i K
     cases g:Yl (leaves P d) s.toList 0 with
     |none=>grind
     | some l=>
       simp only[g]at h
       split at h
       ·rename_i c
        injection h with h;subst h;intro D L M N u v x b w o p q r y;obtain⟨f,rfl⟩:∃f,D=f+1:=⟨D-1,by omega⟩
        have i:Kf P t=some true:=by simp[Kf,a]
        refine⟨_,_,Qc i c,Qc i c, ?_⟩;have O:P.fieldsOf t=s:=by simp[Program.fieldsOf,a]
        rw[run_equalIn_struct w f t _ _ (by grind) (by grind),O];refine Ja3 (fun t ks h=>qx d t ks h) s.toList 0 l g f (by omega) _ _ v x b w o p ?_ ?_ y
        ·rw[kD,XQ,ZQ,GX];exact q
        ·rw[kD,XQ,ZQ,GX];exact r
       grind
   ·rename_i n e a
    cases g:leaves P d e with
    |none=>grind
    | some l=>
      simp only[g]at h
      split at h
      ·rename_i c
       obtain⟨z,j,_⟩:=c;injection h with h;subst h;intro D L M N u v x b w o p q r y;obtain⟨f,rfl⟩:∃f,D=f+1:=⟨D-1,by omega⟩
       have i:Kf P t=some true:=by simp[Kf,a]
       have m:(List.replicate n l).flatten.length=n*l.length:=by simp
       rw[m]at o p q r;refine⟨_,_,Qc i j,Qc i j, ?_⟩;rw[JbR a z];refine Ja4 (qx d e l g) (by omega) rfl n 0 _ _ v x b w o p ?_ ?_ y
       ·rw[kD,Hx,XQ,ZQ,GX];exact q
       ·rw[kD,Hx,XQ,ZQ,GX];exact r
      grind
   grind
theorem Jde (a:leaves P v s=some h)(c:Kf P s=some true):szT P s=some h.length:=by
 cases v with
 |zero=>simp[leaves]at a
 | succ v=>
   simp[leaves]at a
   split at a
   ·rename_i b;simp[Kf,b]at c
   ·rename_i k b;simp[Kf,b]at c
   ·rename_i b;simp[Kf,b]at c
   ·grind
   ·rename_i n e b
    cases f:leaves P v e with
    |none=>grind
    | some l=>
      simp only[f]at a
      split at a
      ·rename_i g;injection a with a;subst a;simp_all
      grind
   grind
theorem JfM {c e:List Value}(a:leaves P 8 s=some h)(k:RL γ ρ t c)(l:RL γ ρ j e)(i:Kf P s=some true)
  (f:t.length=h.length) (g:j.length=h.length) (m:keqs h t j=some d) (D:Nat) (n:8<=D):(Op.equalIn D s (.agg c.toArray) (.agg e.toArray)).run P w= .ok d w:=by
 have r:(c.toArray.toList.drop 0).take h.length=c:=by
  rw[XQ];exact Xr (by simp[k.A,f])
 have u:(e.toArray.toList.drop 0).take h.length=e:=by
  rw[XQ];exact Xr (by simp[l.A,g])
 obtain⟨x,y,o,p,v⟩:=qx (γ:=γ) (ρ:=ρ) 8 s h a D n c.toArray e.toArray 0 t j d w f g (by grind) (by grind) m;have q:=Jde a i;rw[Qc i q]at o p
 grind
theorem Jhl (h:eqk P s=some (.a T)):KDok P s T:=by
 unfold eqk at h
 split at h
 ·rename_i b;injection h with h;injection h with h;subst h;exact b
 ·rename_i _ b;injection h with h;injection h with h;subst h;exact⟨_,b⟩
 ·rename_i b;injection h with h;injection h with h;subst h;exact b
 ·rename_i _ b;injection h with h;injection h with h;subst h;exact⟨_,b⟩
 ·rename_i _ b;injection h with h;injection h with h;subst h;exact⟨_,b⟩
 ·rename_i _ _ b;injection h with h;injection h with h;subst h;exact⟨_,_,b⟩
 ·rename_i _ _ _ b;injection h with h;injection h with h;subst h;exact⟨_,_,_,b⟩
 ·simp_all
 ·simp_all
 grind
theorem Jec (a:eqk P s=some (.b h)):leaves P 8 s=some h/\Kf P s=some true/\P.eqGuardType P.depth s=false:=by
 unfold eqk at a
 split at a
 ·grind
 ·grind
 ·grind
 ·grind
 ·grind
 ·grind
 ·grind
 ·rename_i g c
  split at a
  ·cases a
  ·rename_i f
   cases d:leaves P 8 s with
   |none=>grind
   |some l=>simp[d]at a;subst a;exact⟨rfl,by simp[Kf,c],by grind⟩
 ·rename_i n e c
  split at a
  ·cases a
  ·rename_i f
   cases d:leaves P 8 s with
   |none=>grind
   |some l=>simp[d]at a;subst a;exact⟨rfl,by simp[Kf,c],by grind⟩
 grind
theorem Jh4 {c:EK}{b:Bool}(g:eqk P s=some c)(h:c.B z u=some b)(i:R γ ρ z e)(j:R γ ρ u x)(D:Nat)(m:8<=D):
  (Op.equalIn D s e x).run P w= .ok b w:=by
 cases c with
 | a k=>
   obtain⟨d,rfl⟩:∃d,D=d+1:=⟨D-1,by omega⟩
   exact JcD (Jhl g) h i j d
 | b L=>
   unfold EK.B at h
   split at h
   ·grind
   ·rename_i f
    cases f
    split at h
    ·rename_i l
     obtain⟨M,n,o⟩:=i;obtain⟨N,p,q⟩:=j;subst n;subst p;obtain⟨r,K,_⟩:=Jec g;exact JfM r o q K l.1 l.2 h D m
    grind
   grind
theorem qX {a:EK}(c:eqk P s=some a)(h:a.B z u=some d)(f:R γ ρ z e)(g:R γ ρ u x):
  (Op.equal s e x).run P w= .ok d w:=Jh4 c h f g Op.maxDepth (by decide)
end
section
variable {P : Program} {γ : Locs} {ρ : Nat -> Value} {base : Bs} {st : St} {c : Pt -> Row} {w : World} {fr : Fr} {a : Act}
theorem Jp6 (n:(g= .eql/\d=false)\/(g= .neq/\d=true)){b:Bool}(N:KDok P s T)(h:keq T z u=some b)(j:R γ ρ z e)(i:R γ ρ u x)(p q:Operand):
  ((do eqGuard g s p q e x;binOp g s e x):Sem Value).run P w= .ok (.bool (b !=d)) w:=by
 have W:(Op.equal s e x).run P w= .ok b w:=JcD N h j i 9999;have m:(g= .eql->binOp g s e x=(do pure (.bool (<-Op.equal s e x))))->(g= .neq->binOp g s e x=(do pure (.bool (!(<-Op.equal s e x)))))->(eqGuard g s p q e x).run P w= .ok () w->
   ((do eqGuard g s p q e x;binOp g s e x):Sem Value).run P w= .ok (.bool (b !=d)) w:=by
  intro X O Y;rcases n with⟨f,l⟩|⟨f,l⟩
  ·simp_all
  simp_all
 unfold keq at h
 split at h
 ·simp[R]at j i;subst j;subst i;rcases n with⟨f,l⟩|⟨f,l⟩<;>subst f<;>subst l<;>exact m (fun a=>by(first|rfl|(cases a))) (fun a=>by(first|rfl|(cases a))) rfl
 ·split at h
  ·simp at h;subst h;simp[R]at j i;subst j;subst i
   rename_i o;subst o
   rcases n with⟨f,l⟩|⟨f,l⟩<;>subst f<;>subst l<;>simp[eqGuard,binOp,Op.intCmp,bne]
  grind
 ·simp at h;subst h;obtain⟨Z,f,l,M⟩:=j;obtain⟨y',r,Q,S⟩:=i;subst f;subst r;rw[<-Jkc l M Q S];rcases n with⟨f,l⟩|⟨f,l⟩<;>subst f<;>subst l<;>simp[eqGuard,binOp,Op.stringOp]
 all_goals first
  |(cases h;done)
  | (split at h
     ·simp at h;subst h
      rename_i o
      obtain⟨o,K⟩:=o;obtain⟨c,f,l,M,r⟩:=j;simp[R]at i;subst f;subst i;subst o;have L:=U r K;rcases n with⟨f,l⟩|⟨f,l⟩<;>subst f<;>subst l<;>simp[eqGuard,binOp,Op.intCmp,bne,L]
     grind)
  | ((first
      |(simp[R]at j i;subst j;subst i)
      |(obtain⟨_,_,f⟩:=i;simp[R]at j;subst j;subst f)
      |(obtain⟨_,_,f⟩:=j;simp[R]at i;subst i;subst f)
      |(obtain⟨_,_,_,_,f,_⟩:=i;simp[R]at j;subst j;subst f)
      |(obtain⟨_,_,_,_,f,_⟩:=j;simp[R]at i;subst i;subst f)
      |(obtain⟨_,_,_,f,_⟩:=i;simp[R]at j;subst j;subst f)
      |(obtain⟨_,_,_,f,_⟩:=j;simp[R]at i;subst i;subst f)
      |(obtain⟨_,_,f,_⟩:=i;simp[R]at j;subst j;subst f)
      |(obtain⟨_,_,f,_⟩:=j;simp[R]at i;subst i;subst f))
     rcases n with⟨f,l⟩|⟨f,l⟩<;>subst f<;>subst l<;>exact m (fun a=>by(first|rfl|(cases a))) (fun a=>by(first|rfl|(cases a))) rfl)
theorem Jro (i:(g= .eql/\d=false)\/(g= .neq/\d=true)){f:EK}{y:Value}{b:Bool}(q:eqk P s=some f)(h:f.B z u=some b)(r:R γ ρ z e)(K:R γ ρ u y)(j:Rel γ ρ base c w)(m n:Operand):
  OpOK P γ ρ base st c w (.h (b !=d)) .a (do pure (.value (<-(do eqGuard g s m n e y;binOp g s e y)))):=by
 refine OpOK.A j (y:= .bool (b !=d)) ?_ (by rfl);rw[Sem.run_bind];have:((do eqGuard g s m n e y;binOp g s e y):Sem Value).run P w= .ok (.bool (b !=d)) w:=by
  cases f with
  |a k=>exact Jp6 i (Jhl q) h r K m n
  | b Q=>
    have L:(Op.equal s e y).run P w= .ok b w:=qX q h r K;obtain⟨_,_,M⟩:=Jec q;unfold EK.B at h
    split at h
    ·grind
    ·obtain⟨N,o,S⟩:=r;obtain⟨O,p,T⟩:=K;subst o;subst p;have l:=run_eqGuard_agg (P:=P) w g s m n N.toArray O.toArray M;rcases i with⟨o,p⟩|⟨o,p⟩<;>subst o<;>subst p
     ·rw[Sem.run_bind,l];show Sem.run P (do pure (Value.bool (<-Op.equal s _ _))) w=_;simp[L]
     ·rw[Sem.run_bind,l];show Sem.run P (do pure (Value.bool (!(<-Op.equal s _ _)))) w=_;simp[L]
    grind
 simp_all
end
section
variable {P : Program} {γ : Locs} {ρ : Nat -> Value} {base : Bs} {st : St} {c : Pt -> Row} {w : World} {fr : Fr} {a : Act}
theorem JfX (a:0<=Q)(b:Q<=p.max):(BitVec.ofInt p.bits Q).toNat=Q.toNat/\Q.toNat<2^p.bits:=by
 obtain⟨m,rfl⟩:=Int.eq_ofNat_of_zero_le a;have c:m<2^p.bits:=by
  cases p<;>simp[IntKind.max,IntKind.bits,IntKind.signed]at b⊢<;>omega
 grind
theorem Jh5 (h:(v:Int)<=p.max):p.wrap (v:Int)=v:=by
 cases p<;>simp[IntKind.max,IntKind.bits,IntKind.signed]at h<;>simp[IntKind.wrap,IntKind.bits,IntKind.signed]<;>omega
theorem Jto {y:Int}(d:0<=Q)(f:Q<=p.max)(g:0<=y)(h:y<=p.max):((Q.toNat|||y.toNat:Nat):Int)<=p.max:=by
 have a:∃m,(p.max:Int)=2^m-1:=by
  cases p<;>simp[IntKind.max,IntKind.bits,IntKind.signed]<;>first|exact⟨7,rfl⟩|exact⟨15,rfl⟩|exact⟨31,rfl⟩|exact⟨63,rfl⟩|exact⟨8,rfl⟩|exact⟨16,rfl⟩|exact⟨32,rfl⟩|exact⟨64,rfl⟩
 obtain⟨m,b⟩:=a;have e:((2:Int)^m)=((2^m:Nat):Int):=by simp
 rw[e]at b;have c:= @Nat.or_lt_two_pow Q.toNat y.toNat m;omega
theorem Jkd (a:g≠ .eql/\g≠ .neq)(t:TypeId)(b c:Operand)(x y:Value):(eqGuard g t b c x y).run P w= .ok () w:=by
 cases g<;>first|rfl|grind|grind
theorem JmX {c:IntKind}{n:Int}(h:arith g (.d p Q) (.d c n)=some z)(t:TypeId):
  ∃a,(binOp g t (.int p Q) (.int c n)).run P w= .ok a w/\R γ ρ z a:=by
 simp only[arith]at h
 split at h
 ·cases h
 have e:p=c:=by grind
 subst e
 split at h
 case h_10=>
  split at h
  ·rename_i b
   injection h with h;subst h;refine⟨_, ?_,rfl⟩;simp only[binOp,GA,XH,X2,Op.intBits,BitVec.toNat_or,(JfX b.1 b.2.1).1,(JfX b.2.2.1 b.2.2.2).1];rw[Jh5 (Jto b.1 b.2.1 b.2.2.1 b.2.2.2)];rfl
  grind
 case h_11=>cases h
 case h_4|h_5=>
  split at h
  ·cases h
  rename_i b
  injection h with h;subst h;exact⟨_,by simp only[binOp,GA,XH,X2,Op.intDiv,Xa b];rfl,rfl⟩
 all_goals
  injection h with h;subst h;exact⟨_,by simp only[binOp,GA,XH,X2,Op.intArith,Op.intCmp];rfl,rfl⟩
theorem JmY {x y:ByteArray}(h:arith g (.t v n) (.t f S)=some z)(c:x.data.toList.length=v)(d:snum x.data.toList=n)(j:y.data.toList.length=f)
  (e:snum y.data.toList=S) (t:TypeId):∃a,(binOp g t (.string x) (.string y)).run P w= .ok a w/\R γ ρ z a:=by
 have b:Jd7 v n f S=Op.bytesLess x.toList y.toList:=by
  rw[ByteArray.toList_eq,ByteArray.toList_eq,<-Jag,c,d,j,e]
 have i:=Jkc c d j e;unfold arith at h
 cases g<;>simp only[]at h<;>first|(cases h;done)|skip
 ·split at h
  ·rename_i k
   injection h with h;subst h;refine⟨.string (x++y), ?_,x++y,rfl, ?_, ?_⟩
   ·have l:¬((x.size+y.size:Nat):Int)>IntKind.i64.max:=by
     have m:x.size=v:=by simp_all
     have o:y.size=f:=by simp_all
     simp only[IntKind.max,IntKind.signed,IntKind.bits,ZT];omega
    simp only[binOp,Op.stringOp]
    simp_all
   ·simp_all
   ·rw[ByteArray.data_append,Array.toList_append,<-Jk9,c,d,e]
  grind
 ·injection h with h;subst h;exact⟨_,by rfl,by rw[b];rfl⟩
 ·injection h with h;subst h;exact⟨_,by rfl,by rw[b,<-i];rfl⟩
 ·injection h with h;subst h;exact⟨_,by rfl,by rw[b];rfl⟩
theorem Jny {r:V}{y:Value}(h:arith g z u=some r)(f:R γ ρ z e)(i:R γ ρ u y)(d:Rel γ ρ base c w)(t:TypeId)(l m:Operand)(j:g≠ .eql/\g≠ .neq):
  OpOK P γ ρ base st c w r .a (do pure (.value (<-(do eqGuard g t l m e y;binOp g t e y)))):=by
 suffices n:∃b,(binOp g t e y).run P w= .ok b w/\R γ ρ r b by
  obtain⟨b,o,p⟩:=n;refine OpOK.A d (y:=b) ?_ p;simp[Jkd j,o]
 have k:=h;unfold arith at k
 split at k
 ·simp only[R]at f i;subst f;subst i;exact JmX h t
 ·obtain⟨O,q,s,K⟩:=f;obtain⟨Q,L,M,N⟩:=i;subst q;subst L;exact JmY h s K M N t
 grind
end
section
variable {P : Program} {γ : Locs} {ρ : Nat -> Value} {base : Bs} {st : St} {c : Pt -> Row} {w : World} {fr : Fr} {a : Act}
theorem Jsm (g:R γ ρ (.h d) e)(f:Rel γ ρ base c w):OpOK P γ ρ base st c w (.h !d) .a (do pure (.value (<-Op.unary .not e))):=by
 simp[R]at g;subst g;exact OpOK.A f (y:= .bool !d) (by rfl) rfl
theorem Jnz {k:IntKind}{h:IntKind}(i:P.underlying s=some (.int p))(j:P.underlying b=some (.int k))(g:R γ ρ (.d h Q) e)(f:Rel γ ρ base c w):
  OpOK P γ ρ base st c w (.d k (k.wrap Q)) .a (do pure (.value (<-convert s b e))):=by
 simp[R]at g;subst g;exact OpOK.A f (y:= .int k (k.wrap Q)) (by simp[convert,Jf i,Jf j,Conv.intToInt]) rfl
theorem Jed (j:Rel γ ρ base c w)(p:R γ ρ z x)(Q:∀r,rowOf z=some r->γ r≠none->st.A r≠ .none->c r=st.A r)(h:JA st v n z=some t):
  t.length=n*v/\((n=0/\t=[]/\∃m a,x= .slice none m a)\/∃f m a i,x= .slice (some f) m a/\RL γ ρ t i/\(loadCells f (n*v)).run P w= .ok i.toArray w):=by
 have two:∀(r:Pt) (o m a:Nat) (f:Addr) (g:Loc),γ r=some g->x= .slice (some f) m a->n<=m->m<=a->(a≠0->f=⟨g.b,g.o+o,none⟩)->rowOf z=some r->Kw st (n*v) (.e r o)=some t->
   t.length=n*v/\∃f m a i,x= .slice (some f) m a/\RL γ ρ t i/\(loadCells f (n*v)).run P w= .ok i.toArray w:=by
  intro r o m a f g S T Z h4 h5 U M;have k:t.length=n*v:=by
   unfold Kw at M
   grind
  refine⟨k,f,m,a, ?_⟩;by_cases h0:a=0
  ·have s:n=0:=by omega
   subst s;have:t=[]:=Xp (by omega);subst this;exact⟨[],T,by rfl,by simp[loadCells,loadCellsFrom]⟩
  ·obtain⟨W,i,N,O,e3⟩:=YX (P:=P) j (v:= .e r o) (x:= .pointer (some ⟨g.b,g.o+o,none⟩)) ⟨g,S,rfl⟩ (fun q X=>Q q (by rw[U];exact X)) M
   grind
 unfold JA at h
 split at h
 ·split at h
  ·rename_i s
   injection h with h;subst h;subst s;simp[R]at p
   grind
  grind
 ·rename_i r o m Y
  split at h
  ·rename_i d
   obtain⟨g,f,a,u,y,K,L,_⟩:=p;obtain⟨N,O⟩:=two r o m a f g u y d.1 K L rfl h
   grind
  grind
 ·rename_i r o m Y a
  split at h
  ·rename_i d
   obtain⟨g,f,u,y,K,L,_⟩:=p;obtain⟨N,O⟩:=two r o m a f g u y d.1 K L rfl h
   grind
  grind
 grind
theorem YF (h:slen z=some v)(b:R γ ρ z e):∃d c,e= .slice d v c:=by
 unfold slen at h
 split at h
 ·injection h with h;subst h;simp[R]at b;grind
 ·injection h with h;subst h;obtain⟨l,a,c,_,k,_⟩:=b;grind
 ·injection h with h;subst h;obtain⟨l,a,_,k,_⟩:=b;grind
 grind
theorem Jee :∀{l:List V} {a:List Value} {v:Nat},Q0 l=some v->RL γ ρ l a->∃bs:List UInt8,a=bs.map (fun b=>Value.int .u8 b.toNat)/\bs.length=l.length/\snum bs=v
 |[],a,v,h,d=>by simp[RL]at d;subst d;simp[Q0]at h;exact⟨[],rfl,rfl,h⟩
 | u::l,a,v,h,⟨y,g,i,e,j⟩=>by
   subst i;unfold Q0 at h
   split at h
   ·grind
   ·rename_i n r c
    injection c with k m;subst k;subst m
    split at h
    ·rename_i o
     cases f:Q0 l with
     |none=>grind
     | some s=>
       simp[f]at h;obtain⟨bs,p,q,t⟩:=Jee f j;simp[R]at e;have w:n.toNat<256:=by omega
       refine⟨UInt8.ofNat n.toNat::bs, ?_,by simp[q], ?_⟩
       ·rw[p,e];simp only[XV,Xi,X8];rw[Z8 (by omega),Int.toNat_of_nonneg o.1]
       ·simp only[snum,t];rw[Z8 (by omega)];exact h
    grind
   grind
theorem JbS {ad:Addr}{m cp:Nat}{bs:List UInt8}(h:(loadCells ad m).run P w= .ok (bs.map (fun b=>Value.int .u8 b.toNat)).toArray w):
  (Conv.bytesToString (.slice (some ad) m cp)).run P w= .ok (.string ⟨bs.toArray⟩) w:=by
 have loop:∀(bs:List UInt8) (s:ByteArray) (w:World),(forIn (bs.map (fun b=>Value.int .u8 b.toNat)) s fun(c:Value) (s:ByteArray)=>
   (match c with
    | .int .u8 n=>pure (ForInStep.yield (s.push (UInt8.ofNat n.toNat)))
    | _ => (stuck "bytesToString: byte expected" : Sem PUnit) >>= fun _ => pure (ForInStep.yield s) : Sem (ForInStep ByteArray))).run P w = .ok ⟨s.data ++ bs.toArray⟩ w := by
  intro bs
  induction bs with
  |nil=>simp
  | cons b bs ih=>
    simp_all
 have hl:=loop bs .empty w;simp[Conv.bytesToString,Sem.run_bind,h,Result.andThen_ok,<-Array.forIn_toList]
 simp_all
end
section
variable {P : Program} {γ : Locs} {ρ : Nat -> Value} {base : Bs} {st : St} {c : Pt -> Row} {w : World} {fr : Fr} {a : Act}
theorem Jsn {f:TypeId}(j:P.underlying s=some (.slice f))(k:P.underlying b=some .string)(o:P.underlying f=some (.int .u8))
  (p:R γ ρ z e) (M:∀r,rowOf z=some r->γ r≠none->st.A r≠ .none->c r=st.A r) (g:Rel γ ρ base c w) (N:slen z=some v) (O:JA st 1 v z=some t) (i:Q0 t=some n):
  OpOK P γ ρ base st c w (.t v n) .a (do pure (.value (<-convert s b e))):=by
 obtain⟨k1,Q⟩:=Jed (P:=P) g p M O;obtain⟨S,T,q⟩:=YF N p;rcases Q with⟨U,W,m,K,h⟩|⟨ad,m,K,ys,h,X,L⟩
 ·subst h;subst W;subst U;simp[Q0]at i;subst i;exact OpOK.A g (y:= .string .empty) (by simp[convert,Jf j,Jf k,Jf o,Conv.bytesToString]) ⟨.empty,rfl,rfl,rfl⟩
 ·rw[h]at q;injection q with q1 Y q3;subst Y;obtain⟨bs,Z,f2,f3⟩:=Jee i X;subst Z;rw[Gf]at L;have hb:=JbS (P:=P) (cp:=K) L;subst h;refine OpOK.A g (y:= .string ⟨bs.toArray⟩) ?_ ⟨_,rfl,by grind,by omega⟩;simp[convert,Jf j,Jf k,Jf o,hb]
theorem Jp7 {p q:Array Operand}{e g:List Opd}(h:opds p=some e)(i:opds q=some g)(b:FR γ ρ fr a)(d:Rel γ ρ base c w):
  OpOK P γ ρ base st c w (.D v (evs fr e) (evs fr g)) .a (do pure (.value (<-Instr.makeFunc (.func v) (p.map a.eval) (q.map a.eval)))):=
 OpOK.A d (y:= .func (.func v) (p.map a.eval) (q.map a.eval)) (by rfl) ⟨(p.map a.eval).toList,(q.map a.eval).toList,by rfl,Jea h b,Jea i b⟩
theorem Yn (o:Obj):(w.alloc o).heap[w.heap.size]? =some o:=by
 show(w.heap.push _)[w.heap.size]? =_;simp
theorem JnA (a:Rel γ ρ base c w)(d:γ st.b=none):OpOK P γ ρ base st c w (.q st.b) (.b fun s=> .b s []) (do pure (.value (<-Instr.makeMap s none))):=by
 refine OpOK.D (o:= .map #[] 0) (e:=1) (w':=w.alloc (.map #[] 0)) a d ⟨w.drawn,rfl⟩ (y:= .map (some w.heap.size)) ?_ ⟨_,JG _ _ _,rfl⟩ ?_ (fun _=>by decide)
 ·rfl
 ·exact⟨#[],Yn _,rfl,fun i k v h=>by simp at h⟩
theorem Jaj (h:QZ z=some v)(a:R γ ρ z e):∃k,e= .int k (v:Int):=by
 unfold QZ at h
 split at h
 ·split at h
  ·rename_i b
   injection h with h;subst h;simp[R]at a
   grind
  grind
 grind
theorem qy (h:v<2^20):IntKind.i64.wrap (v:Int)=v:=Jh5 (by simp[IntKind.max,IntKind.signed,IntKind.bits];omega)
theorem Jp8 {i:TypeInfo}{y:Value}(Z:P.underlying s=some (.slice b))(U:P.info? b=some i)(h3:KA P b=some t)(h4:i.bytes<=65536)
  (hx:R γ ρ z e) (hy:R γ ρ u y) (hn:QZ z=some v) (W:QZ u=some n) (p:v<=n) (d:n<2^20) (hz:t.length=i.size) (r:Rel γ ρ base c w) (K:γ st.b=none):
  OpOK P γ ρ base st c w (.m st.b 0 v i.size n) (.b fun s=> .a s (List.replicate n t).flatten) (do pure (.value (<-Instr.makeSlice s e y))):=by
 obtain⟨k1,e1⟩:=Jaj hn hx;obtain⟨k2,e2⟩:=Jaj W hy;subst e1;subst e2;obtain⟨T,X,hr⟩:=Qa (ρ:=ρ) h3;have L:T.cells.size=i.size:=by have:=(hr γ).A;grind
 have M:szT P b=some i.size:=by simp[szT,U]
 have k:¬(i.bytes*(n:Int)>2^48):=by
  have h5:(i.bytes:Int)*(n:Int)<=65536*(n:Int):=Int.mul_le_mul_of_nonneg_right (by omega) (by omega);omega
 have l:∀f:Array Value,RL γ ρ (List.replicate n t).flatten ((Array.range (n*i.size)).map fun j=>f[j%f.size]!).toList->
   ((if n*i.size=0 then(f= #[])else f=T.cells))->OpOK P γ ρ base st c w (.m st.b 0 v i.size n) (.b fun s=> .a s (List.replicate n t).flatten) (do pure (.value (<-Instr.makeSlice s (.int k1 v) (.int k2 n)))):=by
  intro f N g;have Y:=N.A;simp only[Z7,Array.size_map,Array.size_range]at Y;refine OpOK.D (o:= .cells ((Array.range (n*i.size)).map fun j=>f[j%f.size]!) b) (e:=n*i.size) (w':=w.alloc (.cells ((Array.range (n*i.size)).map fun j=>f[j%f.size]!) b)) r K ⟨w.drawn,rfl⟩ (y:= .slice (some ⟨w.heap.size,0,none⟩) v n) ?_
   ⟨_,_,JG _ _ _,rfl,p,fun _=>rfl,by simp⟩ (JaJ (N.J (Ext.B K)) (by simp)) (fun h=>h.elim)
  have O:¬((n:Int)<0):=by omega
  have Q:¬((v:Int)<0):=by omega
  have S:¬((v:Int)>(n:Int)):=by omega
  by_cases q:n*i.size=0
  ·rw[Xd q]at g;subst g;simp only[Sem.run_bind,Instr.makeSlice,Jf Z,Result.andThen_ok,asInt,asIntOf,Sem.run_pure,Q1 U,qy d,qy (Hp p d),O,Q,S,k,
    GE,GP,Zu,X2,run_askRoom,JX M,ZK,Xd q,Jbi]
  ·rw[Xa q]at g;subst g;simp only[Sem.run_bind,Instr.makeSlice,Jf Z,Result.andThen_ok,asInt,asIntOf,Sem.run_pure,Q1 U,qy d,qy (Hp p d),O,Q,S,k,
    GE,GP,Zu,X2,run_askRoom,JX M,ZK,Xa q,Jbi,X]
 by_cases q:n*i.size=0
 ·refine l #[] ?_ (by grind);have:(List.replicate n t).flatten=[]:=by
   apply Xp
   simp_all
  rw[this,q];simp[RL]
 ·refine l T.cells ?_ (by grind);rw[L,Jbj n i.size T.cells L];exact RL.B (hr γ) n
theorem JY (h:opdO k=some l)(c:FR γ ρ fr a)(f:J7 v (l.map (Opd.A fr))=some n):
  (k=none/\n=v)\/∃o b,k=some o/\a.eval o= .int b (n:Int):=by
 cases k with
 |none=>simp[opdO]at h;subst h;simp[J7]at f;grind
 | some o=>
   simp[opdO]at h
   cases g:opd o with
   |none=>grind
   | some z=>
     simp[g]at h;subst h;simp[J7]at f;obtain⟨b,e⟩:=Jaj f (Jm g c)
     grind
theorem Kx (h:v<=n)(a:BoundsCode):(Instr.sliceBound (.int p (v:Int)) n a).run P w= .ok v w:=by
 simp only[Instr.sliceBound,asIntOf,Sem.run_bind,Sem.run_pure,Result.andThen_ok]
 simp_all
theorem Qb {isSlice:Bool}{len cap m:Nat}{mx:Option Operand}(p:(k=none/\v=0)\/∃o b,k=some o/\a.eval o= .int b (v:Int))(s:(i=none/\n=len)\/∃o b,i=some o/\a.eval o= .int b (n:Int))
  (y:(mx=none/\m=cap)\/∃o b,mx=some o/\a.eval o= .int b (m:Int)) (q:v<=n) (g:n<=m) (t:m<=cap) (L:mx.isSome->i.isSome):
  (Instr.sliceBounds isSlice len cap (k.map a.eval) (i.map a.eval) (mx.map a.eval)).run P w= .ok (v,n,m) w:=by
 rcases y with⟨r,j⟩|⟨M,N,r,j⟩
 ·subst r;subst j;rcases s with⟨f,e⟩|⟨z,K,f,e⟩
  ·subst f;subst e;rcases p with⟨c,d⟩|⟨u,x,c,d⟩
   ·subst c;subst d;rfl
   ·subst c;simp[Instr.sliceBounds,d,Kx q]
  ·subst f;rcases p with⟨c,d⟩|⟨u,x,c,d⟩
   ·subst c;subst d;simp[Instr.sliceBounds,e,Kx g]
   ·subst c;simp[Instr.sliceBounds,e,d,Kx q,Kx g]
 ·subst r;rcases s with⟨f,e⟩|⟨z,K,f,e⟩
  ·grind
  ·subst f;rcases p with⟨c,d⟩|⟨u,x,c,d⟩
   ·subst c;subst d;simp[Instr.sliceBounds,j,e,Kx g,Kx t]
   ·subst c;simp[Instr.sliceBounds,j,e,d,Kx q,Kx g,Kx t]
theorem Jp9 (o:P.underlying s=some .string)(p:R γ ρ (.t v n) e)(q:opdO k=some l)(r:opdO i=some W)
  (d:FR γ ρ fr a) (u:J7 0 (l.map (Opd.A fr))=some f) (z:J7 v (W.map (Opd.A fr))=some S) (j:f<=S) (K:S<=v) (g:Rel γ ρ base c w):
  OpOK P γ ρ base st c w (.t (S-f) (scut n f S)) .a (do pure (.value (<-Instr.sliceAt s e (k.map a.eval) (i.map a.eval) none))):=by
 obtain⟨b,L,M,N⟩:=p;subst L;have O:b.size=v:=by simp_all
 refine OpOK.A g (y:= .string (b.extract f S)) ?_ ⟨_,rfl, ?_, ?_⟩
 ·have:=Qb (P:=P) (w:=w) (a:=a) (isSlice:=false) (len:=b.size) (cap:=b.size) (m:=b.size) (mx:=none) (JY q d u) (by rw[O];exact JY r d z) (.inl ⟨rfl,rfl⟩) j (by omega) (Xb _) (by simp);simp at this;simp[Instr.sliceAt,Instr.slice,Jf o,this]
 ·simp[GY,M];omega
 ·rw[GY,Array.toList_extract,List.extract_eq_take_drop,<-JbM,N]
end
section
variable {P : Program} {γ : Locs} {ρ : Nat -> Value} {base : Bs} {st : St} {c : Pt -> Row} {w : World} {fr : Fr} {a : Act}
theorem Jke (h:opdO k=some l):l.isSome=k.isSome:=by
 cases k with
 |none=>simp[opdO]at h;grind
 | some o=>
   simp[opdO]at h
   cases a:opd o with
   |none=>grind
   |some z=>grind
theorem jy {h c:Nat}{ad:Option Addr}(d:P.underlying s=some (.slice b))(g:szT P b=some v)
  (j:(Instr.sliceBounds true n f (k.map a.eval) (i.map a.eval) (m.map a.eval)).run P w= .ok (S,h,c) w):
  (Instr.sliceAt s (.slice ad n f) (k.map a.eval) (i.map a.eval) (m.map a.eval)).run P w= .ok (.slice (if c=S then ad else ad.map (·.add (S*v))) (h-S) (c-S)) w:=by
 simp[Instr.sliceAt,Instr.slice,Jf d,JX g,j]
theorem R.F {a:Loc}{l h m cp:Nat}{ad:Addr}(f:cp≠0->ad=⟨a.b,a.o+v,none⟩)(i:v+cp*n<=a.e)(j:l<=h)(k:h<=m)(g:m<=cp):
  ∃c,(if m=l then some ad else(some ad).map (·.add (l*n)))=some c/\(m-l≠0->c=⟨a.b,a.o+(v+l*n),none⟩)/\v+l*n+(m-l)*n<=a.e:=by
 have d:v+l*n+(m-l)*n<=a.e:=by
  have:l*n+(m-l)*n=m*n:=by rw[<-GM];grind
  have p:m*n<=cp*n:=Zb n g;omega
 by_cases q:m=l
 ·simp_all
 ·refine⟨ad.add (l*n),by grind,fun _=> ?_,d⟩;rw[f (by omega),YW,ZU]
theorem Jqa {S:Option Opd}(hu:P.underlying s=some (.slice b))(hz:szT P b=some v)(hx:R γ ρ z e)
  (h1:opdO k=some l) (h2:opdO i=some W) (h3:opdO m=some S) (hm:m.isSome->i.isSome) (g:FR γ ρ fr a) (h:YV v z (l.map (Opd.A fr)) (W.map (Opd.A fr)) (S.map (Opd.A fr))=some u) (q:Rel γ ρ base c w):
  OpOK P γ ρ base st c w u .a (do pure (.value (<-Instr.sliceAt s e (k.map a.eval) (i.map a.eval) (m.map a.eval)))):=by
 obtain⟨mv,U⟩:∃mv,S.map (Opd.A fr)=mv:=⟨_,rfl⟩
 rw[U]at h;unfold YV at h
 split at h
 ·
  simp[R]at hx;subst hx
  cases M:J7 0 (l.map (Opd.A fr))with
  |none=>grind
  | some d=>
    cases N:J7 0 (W.map (Opd.A fr))with
    |none=>grind
    | some j=>
      cases K:J7 0 mv with
      |none=>grind
      | some f=>
        simp[M,N,K]at h;obtain⟨⟨e1,e2,e3⟩,e4⟩:=h;subst e1;subst e2;subst e3;subst e4;have T:=Qb (P:=P) (w:=w) (a:=a) (isSlice:=true) (len:=0) (cap:=0) (JY h1 g M) (JY h2 g N) (JY h3 g (by grind)) (Xb _) (Xb _) (Xb _) hm;have:=jy (ad:=none) hu hz T;refine OpOK.A q (y:= .slice none 0 0) ?_ rfl;simp[this]
 ·
  rename_i r o n z'
  obtain⟨lc,ad,O,k1,k2,k3,k4,k5⟩:=hx;subst k2
  cases M:J7 0 (l.map (Opd.A fr))with
  |none=>grind
  | some d=>
    cases N:J7 n (W.map (Opd.A fr))with
    |none=>grind
    | some j=>
      simp[M,N]at h;obtain⟨aa,h⟩:=h;subst aa
      cases mv with
      | some vm=>
        simp at h
        cases K:QZ vm with
        |none=>grind
        | some f=>
          simp[K]at h;obtain⟨⟨X,Y,q3⟩,q4⟩:=h;subst q4;have T:=Qb (P:=P) (w:=w) (a:=a) (isSlice:=true) (len:=n) (cap:=O) (m:=f) (JY h1 g M) (JY h2 g N) (JY h3 g (by rw[U];exact K)) X Y (by omega) hm;have Q:=jy (ad:=some ad) hu hz T;obtain⟨p,Z,f2,f3⟩:=R.F (l:=d) (h:=j) (m:=f) k4 k5 X Y (by omega);rw[Z]at Q;exact OpOK.A q (y:= .slice (some p) (j-d) (f-d)) (by simp[Q]) ⟨lc,p,k1,rfl,by omega,f2,f3⟩
      | none=>
        simp only[]at h
        split at h
        ·rename_i L
         injection h with h;subst h;have ab:m=none:=by
          have:=Jke h3
          simp_all
         have T:=Qb (P:=P) (w:=w) (a:=a) (isSlice:=true) (len:=n) (cap:=O) (m:=O) (JY h1 g M) (JY h2 g N) (.inl ⟨ab,rfl⟩) L.1 (by omega) (Xb _) hm;have Q:=jy (ad:=some ad) hu hz T;obtain⟨p,Z,f2,f3⟩:=R.F (l:=d) (h:=j) (m:=O) k4 k5 L.1 (by omega) (Xb _);rw[Z]at Q;exact OpOK.A q (y:= .slice (some p) (j-d) (O-d)) (by simp[Q]) ⟨lc,p,O-d,k1,rfl,by omega,f2,f3⟩
        grind
 ·
  rename_i r o n z' O
  obtain⟨lc,ad,k1,k2,k3,k4,k5⟩:=hx;subst k2
  cases M:J7 0 (l.map (Opd.A fr))with
  |none=>grind
  | some d=>
    cases N:J7 n (W.map (Opd.A fr))with
    |none=>grind
    | some j=>
      cases K:J7 O mv with
      |none=>grind
      | some f=>
        simp[M,N,K]at h;obtain⟨⟨q0,X,Y,q3⟩,q4⟩:=h;subst q0;subst q4;have T:=Qb (P:=P) (w:=w) (a:=a) (isSlice:=true) (len:=n) (cap:=O) (m:=f) (JY h1 g M) (JY h2 g N) (JY h3 g (by grind)) X Y q3 hm;have Q:=jy (ad:=some ad) hu hz T;obtain⟨p,Z,f2,f3⟩:=R.F (l:=d) (h:=j) (m:=f) k4 k5 X Y q3;rw[Z]at Q;refine OpOK.A q (y:= .slice (some p) (j-d) (f-d)) (by simp[Q]) ⟨lc,p,k1,rfl,by omega,f2,f3⟩
 grind
end
end Eva
