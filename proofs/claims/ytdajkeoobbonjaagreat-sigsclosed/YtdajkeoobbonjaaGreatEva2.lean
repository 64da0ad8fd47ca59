/- An evaluator of the model's code, proved to tell what the model does. Operations, one b -/
import Derived.Test.YtdajkeoobbonjaaGreatEva1
import Derived.Laws.StructEq
import GoSem.Instr.MapUpdate
import Derived.Laws.MakeOwn
set_option linter.constructorNameAsVariable false
set_option linter.unusedVariables false
set_option linter.unusedSimpArgs false
set_option linter.unusedSectionVars false
namespace Eva
open Go Go.RowKit
variable {s b:TypeId}{v n l S:Nat}{e d:Value}{t u:List V}{k r j:Option Operand}{z x:V}{i:Bool}{q:Array (Nat×Operand)}{p:List (Nat×Nat×Opd)}{f:IntKind}{h W:Option Opd}{g:List KD}{m:BinOp}{y:Array Value}{T:KD}{Q:Int}
section
variable {P : Program} {γ : Locs} {ρ : Nat -> Value} {base : Bs} {st : St} {c : Pt -> Row} {w : World} {fr : Fr} {a : Act}
theorem Jbz (n k:Nat)(z:Array Value)(c:z.size=k):((Array.range (n*k)).map fun i=>z[i%k]!).toList=(List.replicate n z.toList).flatten:=by
 induction n with
 |zero=>simp
 | succ n a=>
   rw[show List.replicate (n+1) z.toList=List.replicate n z.toList++[z.toList]from Hq,XJ,<-a];simp;rw[Zm,List.range_add,ZA,List.map_map];congr 1;apply Z3;intro i;by_cases b:i<k
   ·have d:(n*k+i)%k=i:=by rw[HJ,Nat.add_mul_mod_self_right];exact Gv b
    grind
   grind
theorem Jed (K:∀i,(ρ i).oneCell'=true){b:Array Field}
  (L:P.underlying s=some (.struct b)) (M:Ky P s=some t)
  (N:parts (fun i=>match b[i]? with
    |some f=>(szT P f.type).map fun n=>(f.offset,n)
    |none=>none) q.toList=some p)
  (e:(b.toList.all fun f=>(szT P f.type).isSome)=true) (r:FR γ ρ fr a) (O:YZ t (evps fr p)=some u) (g:Rel γ ρ base c w):
  OpOK P γ ρ base st c w (.j u) .a (do pure (.value (<-Instr.build s (q.map fun(i,x)=>(i,a.eval x))))):=by
 obtain⟨z,v,Q⟩:=KY (ρ:=ρ) M;have S:∀(l:List Field) (w:World),(l.all fun f=>(szT P f.type).isSome)=true->
   ((l.mapM fun(f:Field)=>(do pure (f.offset,<-Go.sizeOf f.type):Sem (Nat×Nat))).run P w)= .ok (l.map fun(f:Field)=>(f.offset,(szT P f.type).getD 0)) w:=by
  intro l
  induction l with
  |nil=>simp
  | cons f l T=>
    intro w h;simp only[ZG,Xk]at h;obtain⟨n,o⟩:=ZD.1 h.1;rw[Zt];simp only[Sem.run_bind,JT o,Result.andThen_ok,Sem.run_pure,T w h.2,o,XK,GX]
 have d:∀i:Nat,((b.map fun(f:Field)=>(f.offset,(szT P f.type).getD 0))[i]?)=(match b[i]? with
    |some f=>(szT P f.type).map fun n=>(f.offset,n)
    |none=>none):=by
  intro i;rw[Array.getElem?_map]
  cases X:b[i]? with
  |none=>rfl
  | some f=>
    have k:f∈b.toList:=by grind
    have:=Ze.1 e f k;obtain⟨n,o⟩:=ZD.1 this;simp[o]
 obtain⟨m,Y,U,_⟩:=qH K _ q.toList p t u z.cells N r (Q γ) O;have J:(fun(i:Nat)=>(b.map fun(f:Field)=>(f.offset,(szT P f.type).getD 0))[i]?)=(fun(i:Nat)=>match b[i]? with
    |some f=>(szT P f.type).map fun n=>(f.offset,n)
    |none=>none):=funext d
 have W:(b.mapM fun(f:Field)=>(do pure (f.offset,<-Go.sizeOf f.type):Sem (Nat×Nat))).run P w= .ok (b.map fun(f:Field)=>(f.offset,(szT P f.type).getD 0)) w:=by
  rw[GP,Sem.run_map,S _ w e];simp[Result.andThen_ok,<-Array.toList_map]
 refine OpOK.A g (y:= .agg m) ?_ ⟨m.toList,by simp,U⟩;simp[Sem.run_bind,Instr.build,v,Result.andThen_ok,Jf L]
 simp_all
theorem Jey (k:∀i,(ρ i).oneCell'=true)
  (l:P.underlying s=some (.array v b)) (m:Ky P s=some t) (o:szT P b=some n)
  (r:parts (fun i=>some (i*n,n)) q.toList=some p) (g:FR γ ρ fr a) (J:YZ t (evps fr p)=some u) (d:Rel γ ρ base c w):
  OpOK P γ ρ base st c w (.j u) .a (do pure (.value (<-Instr.build s (q.map fun(i,x)=>(i,a.eval x))))):=by
 obtain⟨z,h,K⟩:=KY (ρ:=ρ) m;obtain⟨f,M,L,_⟩:=qH k _ q.toList p t u z.cells r g (K γ) J;refine OpOK.A d (y:= .agg f) ?_ ⟨f.toList,by simp,L⟩;simp[Sem.run_bind,Instr.build,h,Result.andThen_ok,Jf l,JT o]
 simp_all
theorem Js4 (hρ:∀i,(ρ i).oneCell'=true)
  (U:P.underlying s=some (.slice b)) (r:szT P b=some n) (hz:Ky P b=some t) (W:t.length=n) (g:v*n<=2^24)
  (hp:parts (fun i=>some (i*n,n)) q.toList=some p) (Q:FR γ ρ fr a) (hf:YZ (List.replicate v t).flatten (evps fr p)=some u) (hl:u.length=v*n)
  (K:Rel γ ρ base c w) (L:γ st.b=none):
  OpOK P γ ρ base st c w (.m st.b 0 v n v) (.b fun s=> .a s u) (do pure (.value (<-Instr.buildSlice s v (q.map fun(i,x)=>(i,a.eval x))))):=by
 obtain⟨O,S,X⟩:=KY (ρ:=ρ) hz;have M:O.cells.size=n:=by have:=(X γ).A;grind
 have j:∀N:Array Value,RL γ ρ (List.replicate v t).flatten ((Array.range (v*n)).map fun i=>N[i%N.size]!).toList->
   ((if v*n=0 then(N= #[])else N=O.cells))->OpOK P γ ρ base st c w (.m st.b 0 v n v) (.b fun s=> .a s u) (do pure (.value (<-Instr.buildSlice s v (q.map fun(i,x)=>(i,a.eval x))))):=by
  intro N T d;obtain⟨f,Y,Z,_⟩:=qH hρ _ q.toList p _ u _ hp Q T hf;have aa:f.size=v*n:=by have:=Z.A;grind
  refine OpOK.D (o:= .cells f b) (e:=f.size) (w':=w.alloc (.cells f b)) K L ⟨w.drawn,rfl⟩ (y:= .slice (some ⟨w.heap.size,0,none⟩) v v) ?_
   ⟨_,_,JC _ _ _,rfl,Xb _,fun _=>rfl,by grind⟩ (JaY (Z.J (Ext.B L)) rfl) (fun h=>h.elim)
  by_cases k:v*n=0
  ·rw[Xe k]at d;subst d;simp only[Sem.run_bind,Instr.buildSlice,Jf U,Result.andThen_ok,JT r,Xa (Nat.not_lt.2 g),Xe k,Sem.run_pure];rw[Z8,Y];rfl
  ·rw[Xa k]at d;subst d;simp only[Sem.run_bind,Instr.buildSlice,Jf U,Result.andThen_ok,JT r,Xa (Nat.not_lt.2 g),Xa k,Sem.run_pure,S];rw[Z8,Y];rfl
 by_cases k:v*n=0
 ·refine j #[] ?_ (by grind);have:(List.replicate v t).flatten=[]:=by
   apply Xo
   simp_all
  rw[this,k];simp[RL]
 ·refine j O.cells ?_ (by grind);rw[M,Jbz v n O.cells M];exact RL.B (X γ) v
theorem YK (d:Rel γ ρ base c w){r:Pt}(h:R γ ρ (.g r v) e)(i:γ r≠none->st.A r≠ .none->c r=st.A r){a:Row}(j:st.A r=a)(k:a≠ .none):
  ∃l,γ r=some l/\e= .pointer (some ⟨l.b,l.o+v,none⟩)/\c r=a/\Qu γ ρ l a w:=by
 obtain⟨l,m,n⟩:=h;have p:c r=a:=by grind
 obtain⟨q,s,t⟩:=d.f r (by grind)
 grind
theorem Y2 (b:Rel γ ρ base c w){v:V}{x:Value}(i:R γ ρ v x)(j:∀r,rowOf v=some r->γ r≠none->st.A r≠ .none->c r=st.A r)(h:Kn st n v=some t):
  ∃k e,x= .pointer (some k)/\RL γ ρ t e/\(loadCells k n).run P w= .ok e.toArray w:=by
 unfold Kn at h
 split at h
 ·rename_i r o
  split at h
  ·rename_i a m f
   split at h
   ·rename_i d
    injection h with h;subst h;obtain⟨p,q,s,u,g⟩:=YK b i (j r rfl) f (by simp);obtain⟨e,y,z⟩:=Jb4 (P:=P) g d
    grind
   grind
  ·rename_i m f
   split at h
   ·rename_i d
    injection h with h;subst h;obtain⟨p,q,s,u,g⟩:=YK b i (j r rfl) f (by simp);obtain⟨e,y,z⟩:=Jc4 (P:=P) g d
    grind
   grind
  grind
 grind
theorem Jiv {w:World}{b:Addr}(h:(loadCells b 1).run P w= .ok #[e] w):(load b).run P w= .ok e w:=by
 simp[loadCells,loadCellsFrom]at h;rw[show b.add 0=b by rfl]at h
 cases d:(load b).run P w with
 |halt a c=>simp_all
 | ok f c=>
   simp_all
theorem JnZ (f:R γ ρ z e)(g:∀r,rowOf z=some r->γ r≠none->st.A r≠ .none->c r=st.A r)(b:Rel γ ρ base c w)
  (i:Kf P s=some false) (h:Kn st 1 z=some [x]):OpOK P γ ρ base st c w x .a (do pure (.value (<-Instr.loadAt s e))):=by
 obtain⟨p,q,j,k,l⟩:=Y2 (P:=P) b f g h;subst j;obtain⟨y,m,n,o,d⟩:=k;simp[RL]at d;subst d;subst n;refine OpOK.A b (y:=y) ?_ o;simp[Instr.loadAt,Instr.sureAddr,Jag i (Jiv l)]
theorem Jn0 (f:R γ ρ z e)(g:∀r,rowOf z=some r->γ r≠none->st.A r≠ .none->c r=st.A r)(b:Rel γ ρ base c w)
  (i:Kf P s=some true) (k:szT P s=some v) (h:Kn st v z=some t):OpOK P γ ρ base st c w (.j t) .a (do pure (.value (<-Instr.loadAt s e))):=by
 obtain⟨q,d,m,o,p⟩:=Y2 (P:=P) b f g h;subst m;refine OpOK.A b (y:= .agg d.toArray) ?_ ⟨d,rfl,o⟩;simp[Instr.loadAt,Instr.sureAddr,Jaf i k p]
theorem OpOK.B {r:Pt}{f:Nat->Row}{s:Sem Next}{w':World}{x:Next}(a:s.run P w= .ok x w')(b:JnX γ ρ z x)(h:Rel γ ρ base (upd c r (f st.t)) w')(e:Below base.n w w'):
  OpOK P γ ρ base st c w z (.d r v f) s:=⟨_,w',γ,a,b,h,Ext.A _,fun _ k=> .inl k,e⟩
theorem Jn1 (k:∀i,(ρ i).oneCell'=true){a:Eff}(l:R γ ρ z e)(m:R γ ρ x d)
  (p:∀r,rowOf z=some r->γ r≠none->st.A r≠ .none->c r=st.A r) (b:Rel γ ρ base c w) (q:szT P s=some v)
  (J:x.A=some t) (U:t.length=v) (h:JO st z t=some a):OpOK P γ ρ base st c w JY a (do Instr.storeAt s e d;pure .skip):=by
 unfold JO at h
 split at h
 ·rename_i r o
  split at h
  ·rename_i W X K
   split at h
   ·rename_i f
    injection h with h;subst h;obtain⟨Y,L,M,N,Z⟩:=YK b l (p r rfl) K (by simp);have g:=Jar k J m;obtain⟨O,Q,S,T⟩:=jP (P:=P) (u:=st.t) k b L N f.1 f.2 g;subst M;refine OpOK.B (x:= .skip) (w':=O) ?_ (.inr ⟨rfl,rfl⟩) S T;have j:d.cells.size=v:=by have:=g.A;grind
    simp[Instr.storeAt,Instr.sureAddr,storeVar,JT q,j,Q]
   grind
  grind
 grind
theorem Jiw (i:R γ ρ z e)(d:Rel γ ρ base c w)(k:(∃r o,z= .g r o)\/∃f p q,z= .D f p q){s:Sem Next}
  (m:∀n,e= .pointer (some n)->s.run P w= .ok (.value e) w) (j:∀f p q,e= .func (.func f) p q->s.run P w= .ok (.value e) w):OpOK P γ ρ base st c w z .a s:=by
 rcases k with⟨r,o,b⟩|⟨f,p,q,b⟩
 ·subst b;have h:=i;obtain⟨l,_,b⟩:=h;exact OpOK.A d (m _ b) i
 ·subst b;have h:=i;obtain⟨t,u,b,_⟩:=h;exact OpOK.A d (j _ _ _ b) i
end
section
variable {P : Program} {γ : Locs} {ρ : Nat -> Value} {base : Bs} {st : St} {c : Pt -> Row} {w : World} {fr : Fr} {a : Act}
def KDok (P:Program)(t:TypeId):KD->Prop
 | .b=>P.underlying t=some .bool
 | .i=>∃k,P.underlying t=some (.int k)
 | .s=>P.underlying t=some .string
 | .p=>∃e,P.underlying t=some (.pointer e)
 | .l=>∃e,P.underlying t=some (.slice e)
 | .m=>∃k e,P.underlying t=some (.map k e)
 | .f=>∃p r v,P.underlying t=some (.func p r v)
theorem JkK {x y:ByteArray}(a:x.data.toList.length=v)(b:snum x.data.toList=n)(c:y.data.toList.length=l)(d:snum y.data.toList=S):
  (x.toList==y.toList)=(v==l&&n==S):=by
 rw[ByteArray.toList_eq,ByteArray.toList_eq];rw[Hm];simp only[ZF,Xk];constructor
 ·grind
 ·rintro⟨e,f⟩;exact jb (by omega) (by omega)
theorem Jc5 (g:KDok P s T)(h:keq T z x=some i)(j:R γ ρ z e)(f:R γ ρ x d)(D:Nat):
  (Op.equalIn (D+1) s e d).run P w= .ok i w:=by
 unfold keq at h
 split at h
 ·simp at h;subst h;simp[R]at j f;subst j;subst f;simp[Op.equalIn,Jf g]
 ·split at h
  ·simp at h;subst h;simp[R]at j f;subst j;subst f
   rename_i n;subst n
   obtain⟨K,g⟩:=g;simp[Op.equalIn,Jf g]
  grind
 ·simp at h;subst h;obtain⟨O,m,o,p⟩:=j;obtain⟨Q,q,L,M⟩:=f;subst m;subst q;rw[<-JkK o p L M,<-beq_toListBytes];simp[Op.equalIn,Jf (show P.underlying s=some .string from g)]
 all_goals first
  |(cases h;done)
  | (split at h
     ·simp at h;subst h
      rename_i n
      obtain⟨n,r⟩:=n;obtain⟨a,m,o,p,q⟩:=j;simp[R]at f;subst m;subst f;subst n;have J:=N q r;obtain⟨K,g⟩:=g;simp[Op.equalIn,Jf g,J]
     grind)
  | (simp at h;subst h
     obtain⟨c,g⟩:=g
     first
      |(simp[R]at j f;subst j;subst f;simp[Op.equalIn,Jf g];done)
      |(obtain⟨l,_,m⟩:=f;simp[R]at j;subst j;subst m;simp[Op.equalIn,Jf g];done)
      |(obtain⟨l,_,m⟩:=j;simp[R]at f;subst f;subst m;simp[Op.equalIn,Jf g];done)
      |(obtain⟨l,_,_,_,m,_⟩:=f;simp[R]at j;subst j;subst m;simp[Op.equalIn,Jf g];done)
      |(obtain⟨l,_,_,_,m,_⟩:=j;simp[R]at f;subst f;subst m;simp[Op.equalIn,Jf g];done)
      |(obtain⟨l,_,_,m,_⟩:=f;simp[R]at j;subst j;subst m;simp[Op.equalIn,Jf g];done)
      |(obtain⟨l,_,_,m,_⟩:=j;simp[R]at f;subst f;subst m;simp[Op.equalIn,Jf g];done)
      | (obtain⟨o,g⟩:=g
         first
          |(simp[R]at j f;subst j;subst f;simp[Op.equalIn,Jf g];done)
          |(obtain⟨l,_,m⟩:=f;simp[R]at j;subst j;subst m;simp[Op.equalIn,Jf g];done)
          |(obtain⟨l,_,m⟩:=j;simp[R]at f;subst f;subst m;simp[Op.equalIn,Jf g];done)
          | (obtain⟨p,g⟩:=g
             first
              |(simp[R]at j f;subst j;subst f;simp[Op.equalIn,Jf g];done)
              |(obtain⟨_,_,m,_⟩:=f;simp[R]at j;subst j;subst m;simp[Op.equalIn,Jf g];done)
              |(obtain⟨_,_,m,_⟩:=j;simp[R]at f;subst f;subst m;simp[Op.equalIn,Jf g];done))))
theorem JdB {f:List KD}:∀{a d c e:List V} {b:Bool},a.length=g.length->c.length=g.length->keqs (g++f) (a++d) (c++e)=some b->
  (keqs g a c=some true/\keqs f d e=some b)\/(keqs g a c=some false/\b=false):=by
 induction g with
 | nil=>
   intro a d c e b i j h;have l:=Xo i;have m:=Xo j;subst l;subst m;exact .inl ⟨rfl,h⟩
 | cons k g n=>
   intro a d c e b i j h
   cases a with
   |nil=>grind
   | cons u a=>
     cases c with
     |nil=>grind
     | cons v c=>
       simp[keqs]at h⊢
       grind
def Jb6 (D:Nat)(e:TypeId)(n:Nat)(xs ys:Array Value):Nat->Nat->Sem Bool
 |_,0=>pure true
 | i,m+1=>do
   let x<-part e xs (i*n)
   let y<-part e ys (i*n)
   let r<-Op.equalIn D e x y
   if(!r)=true then pure false else Jb6 D e n xs ys (i+1) m
theorem Jb7 {D:Nat}{d:Array Value}(f:P.underlying s=some (.array n b))(j:szT P b=some l):
  (Op.equalIn (D+1) s (.agg y) (.agg d)).run P w=(Jb6 D b l y d 0 n).run P w:=by
 simp only[Op.equalIn,Sem.run_bind,Jf f,Result.andThen_ok,JT j];rw[Std.Legacy.Range.forIn_eq_forIn_range'];simp[Std.Legacy.Range.size];clear f;generalize 0=i
 induction n generalizing i w with
 |zero=>rfl
 | succ m u=>
   simp only[GY,List.forIn_cons,Jb6,Sem.run_bind,Sem.run_ite];generalize (part b y (i*l)).run P w=k
   cases k with
   | ok a g=>
     simp only[Result.andThen_ok];generalize (part b d (i*l)).run P g=o
     cases o with
     | ok c h=>
       simp only[Result.andThen_ok];generalize (Op.equalIn D b a c).run P h=p
       cases p with
       | ok r q=>
         simp_all
       |halt x q=>rfl
     |halt x h=>rfl
   |halt x g=>rfl
theorem Qa (a:Kf P s=some true)(b:szT P s=some v):(part s y n).run P w= .ok (.agg (y.extract n (n+v))) w:=by
 simp[part,jc a,JT b]
theorem kH (a:Kf P s=some false)(b:y[v]? =some e):(part s y v).run P w= .ok e w:=by
 simp[part,jc a,b]
theorem Yk {d:TypeDesc}(h:P.underlying s=some d)(b:∀a,d≠ .struct a)(c:∀n e,d≠ .array n e):Kf P s=some false:=by
 simp[Kf,h]
theorem kI (b:Array Value)(a n:Nat):(b.extract a (a+n)).toList=(b.toList.drop a).take n:=by simp
def JhP (P:Program)(γ:Locs)(ρ:Nat->Value)(d:Nat)(t:TypeId)(ks:List KD):Prop:=
 ∀(D:Nat),d<=D->∀(xs ys:Array Value) (off:Nat) (us vs:List V) (b:Bool) (w:World),us.length=ks.length->vs.length=ks.length->
  RL γ ρ us ((xs.toList.drop off).take ks.length)->RL γ ρ vs ((ys.toList.drop off).take ks.length)->keqs ks us vs=some b->
  ∃x y,(part t xs off).run P w= .ok x w/\(part t ys off).run P w= .ok y w/\(Op.equalIn D t x y).run P w= .ok b w
theorem Jbi {d:Nat}(q:∀t ks,leaves P d t=some ks->JhP P γ ρ d t ks):∀(k:List Field) (o:Nat) (ks:List KD),Yr (leaves P d) k o=some ks->
  ∀(D:Nat),d<=D->∀(a c:Array Value) (e g:List V) (b:Bool) (w:World),e.length=ks.length->g.length=ks.length->
   RL γ ρ e ((a.toList.drop o).take ks.length)->RL γ ρ g ((c.toList.drop o).take ks.length)->keqs ks e g=some b->
   (Op.eqFields D a c k).run P w= .ok b w
 | [],o,ks,h,D,_,a,c,e,g,b,w,s,u,_,_,m=>by
   simp[Yr]at h;subst h;have v:=Xo s;have z:=Xo u;subst v;subst z;simp[keqs]at m;subst m;rfl
 | f::k,o,ks,h,D,J,a,c,e,g,b,w,s,u,K,L,m=>by
   simp only[Yr]at h
   split at h
   ·cases h
   ·rename_i S
    simp[Hc,Z4]at S
    cases M:leaves P d f.type with
    |none=>grind
    | some l=>
      cases T:Yr (leaves P d) k (o+l.length)with
      |none=>grind
      | some r=>
        simp[M,T]at h;subst h;simp at s u K L;have i:=K.I l.length;have j:=L.I l.length;have n:=K.G l.length;have p:=L.G l.length;rw[ZU,Zd (by omega)]at i j;rw[Gm,ZH,GZ]at n p;rw[<-X4 l.length e,<-X4 l.length g]at m;have N:(e.take l.length).length=l.length:=by grind
        have O:(g.take l.length).length=l.length:=by grind
        rw[Op.eqFields,Xe S.1];rcases JdB N O m with⟨Q,U⟩|⟨Q,U⟩
        ·obtain⟨x,y,v,z,W⟩:=q _ _ M D J a c o _ _ true w N O i j Q;have:=Jbi q k (o+l.length) r T D J a c _ _ b w (by grind) (by grind) n p U
         simp_all
        ·obtain⟨x,y,v,z,W⟩:=q _ _ M D J a c o _ _ false w N O i j Q
         simp_all
theorem Jbj {d:Nat}{e:TypeId}{l:List KD}(q:JhP P γ ρ d e l){D:Nat}(r:d<=D){n:Nat}(O:n=l.length):∀(m i:Nat) (a c:Array Value) (f g:List V) (b:Bool) (w:World),
  f.length=m*n->g.length=m*n->RL γ ρ f ((a.toList.drop (i*n)).take (m*n))->RL γ ρ g ((c.toList.drop (i*n)).take (m*n))->keqs (List.replicate m l).flatten f g=some b->
  (Jb6 D e n a c i m).run P w= .ok b w
 | 0,i,a,c,f,g,b,w,s,t,_,_,p=>by
   have u:=Xo (by simpa using s);have v:=Xo (by simpa using t);subst u;subst v;simp[keqs]at p;subst p;rfl
 | m+1,i,a,c,f,g,b,w,s,t,z,J,p=>by
   rw[Zm]at s t z J;have h:=z.I n;have j:=J.I n;have k:=z.G n;have o:=J.G n;rw[ZU,Zd (by omega)]at h j;rw[Gm,ZH,Nat.add_sub_cancel]at k o;rw[<-X4 n f,<-X4 n g]at p;have K:(f.take n).length=n:=by grind
   have L:(g.take n).length=n:=by grind
   simp only[ZR,Zf]at p;have Q:i*n+n=(i+1)*n:=by grind
   rw[Q]at k o;subst O;rw[Jb6];rcases JdB K L p with⟨M,N⟩|⟨M,N⟩
   ·obtain⟨x,y,u,v,S⟩:=q D r a c (i*l.length) _ _ true w K L h j M;have:=Jbj q r rfl m (i+1) a c _ _ b w (by grind) (by grind) k o N
    simp_all
   ·obtain⟨x,y,u,v,S⟩:=q D r a c (i*l.length) _ _ false w K L h j M
    simp_all
theorem Jn2 (c:t.length=1)(d:u.length=1)(h:keqs [T] t u=some i):∃a v,t=[a]/\u=[v]/\keq T a v=some i:=by
 cases t with
 |nil=>grind
 | cons a t=>
   cases u with
   |nil=>grind
   | cons v u=>
     have e:=Xo (by simpa using c);have f:=Xo (by simpa using d);subst e;subst f;refine⟨a,v,rfl,rfl, ?_⟩;simp[keqs]at h
     grind
theorem JbA (l:KDok P s T)(h:Kf P s=some false):JhP P γ ρ (v+1) s [T]:=by
 intro D O i j c Q S b w m n o p q;obtain⟨u,a,r,z,J⟩:=Jn2 m n q;subst r;subst z;obtain⟨x,K,U,L,_⟩:=o;obtain⟨y,M,W,N,_⟩:=p;have e:i[c]? =some x:=by
  have:((i.toList.drop c).take 1)[0]? =some x:=by grind
  grind
 have f:j[c]? =some y:=by
  have:((j.toList.drop c).take 1)[0]? =some y:=by grind
  grind
 obtain⟨g,rfl⟩:∃g,D=g+1:=⟨D-1,by omega⟩
 exact⟨x,y,kH h e,kH h f,Jc5 l J L N g⟩
theorem qI :∀(d:Nat) (t:TypeId) (ks:List KD),leaves P d t=some ks->JhP P γ ρ d t ks
 |0,t,ks,h=>by simp[leaves]at h
 | d+1,t,ks,h=>by
   simp[leaves]at h
   split at h
   ·rename_i a;injection h with h;subst h;exact JbA a (Yk a (fun _ e=>by cases e) (fun _ _ e=>by cases e))
   ·rename_i k a;injection h with h;subst h;exact JbA ⟨k,a⟩ (Yk a (fun _ e=>by cases e) (fun _ _ e=>by cases e))
   ·rename_i a;injection h with h;subst h;exact JbA a (Yk a (fun _ e=>by cases e) (fun _ _ e=>by cases e))
   ·rename_i s a
    split at h
    ·cases h
    ·rename_i J
     cases g:Yr (leaves P d) s.toList 0 with
     |none=>grind
     | some l=>
       simp only[g]at h
       split at h
       ·rename_i c
        injection h with h;subst h;intro D K L M u v x b w o p q r y;obtain⟨f,rfl⟩:∃f,D=f+1:=⟨D-1,by omega⟩
        have i:Kf P t=some true:=by simp[Kf,a]
        refine⟨_,_,Qa i c,Qa i c, ?_⟩;have N:P.fieldsOf t=s:=by simp[Program.fieldsOf,a]
        rw[run_equalIn_struct w f t _ _ (by grind) (by grind),N];refine Jbi (fun t ks h=>qI d t ks h) s.toList 0 l g f (by omega) _ _ v x b w o p ?_ ?_ y
        ·rw[kI,XP,ZU,Hd];exact q
        ·rw[kI,XP,ZU,Hd];exact r
       grind
   ·rename_i n e a
    cases g:leaves P d e with
    |none=>grind
    | some l=>
      simp only[g]at h
      split at h
      ·rename_i c
       obtain⟨z,j,_⟩:=c;injection h with h;subst h;intro D K L M u v x b w o p q r y;obtain⟨f,rfl⟩:∃f,D=f+1:=⟨D-1,by omega⟩
       have i:Kf P t=some true:=by simp[Kf,a]
       have m:(List.replicate n l).flatten.length=n*l.length:=by simp
       rw[m]at o p q r;refine⟨_,_,Qa i j,Qa i j, ?_⟩;rw[Jb7 a z];refine Jbj (qI d e l g) (by omega) rfl n 0 _ _ v x b w o p ?_ ?_ y
       ·rw[kI,He,XP,ZU,Hd];exact q
       ·rw[kI,He,XP,ZU,Hd];exact r
      grind
   grind
theorem JdC (h:leaves P v s=some g)(b:Kf P s=some true):szT P s=some g.length:=by
 cases v with
 |zero=>simp[leaves]at h
 | succ v=>
   simp[leaves]at h
   split at h
   ·rename_i a;simp[Kf,a]at b
   ·rename_i k a;simp[Kf,a]at b
   ·rename_i a;simp[Kf,a]at b
   ·grind
   ·rename_i n e a
    cases c:leaves P v e with
    |none=>grind
    | some l=>
      simp only[c]at h
      split at h
      ·rename_i f;injection h with h;subst h;simp_all
      grind
   grind
theorem Jf7 {a c:List Value}(h:leaves P 8 s=some g)(j:RL γ ρ t a)(k:RL γ ρ u c)(f:Kf P s=some true)
  (d:t.length=g.length) (e:u.length=g.length) (l:keqs g t u=some i) (D:Nat) (m:8<=D):(Op.equalIn D s (.agg a.toArray) (.agg c.toArray)).run P w= .ok i w:=by
 have q:(a.toArray.toList.drop 0).take g.length=a:=by
  rw[XP];exact Xt (by simp[j.A,d])
 have r:(c.toArray.toList.drop 0).take g.length=c:=by
  rw[XP];exact Xt (by simp[k.A,e])
 obtain⟨x,y,n,o,v⟩:=qI (γ:=γ) (ρ:=ρ) 8 s g h D m a.toArray c.toArray 0 t u i w d e (by grind) (by grind) l;have p:=JdC h f;rw[Qa f p]at n o
 grind
theorem JhQ (h:eqk P s=some (.a T)):KDok P s T:=by
 unfold eqk at h
 split at h
 ·rename_i b;injection h with h;injection h with h;subst h;exact b
 ·rename_i _ b;injection h with h;injection h with h;subst h;exact⟨_,b⟩
 ·rename_i b;injection h with h;injection h with h;subst h;exact b
 ·rename_i _ b;injection h with h;injection h with h;subst h;exact⟨_,b⟩
 ·rename_i _ b;injection h with h;injection h with h;subst h;exact⟨_,b⟩
 ·rename_i _ _ b;injection h with h;injection h with h;subst h;exact⟨_,_,b⟩
 ·rename_i _ _ _ b;injection h with h;injection h with h;subst h;exact⟨_,_,_,b⟩
 ·simp_all
 ·simp_all
 grind
theorem Jez (h:eqk P s=some (.b g)):leaves P 8 s=some g/\Kf P s=some true/\P.eqGuardType P.depth s=false:=by
 unfold eqk at h
 split at h
 ·grind
 ·grind
 ·grind
 ·grind
 ·grind
 ·grind
 ·grind
 ·rename_i f a
  split at h
  ·cases h
  ·rename_i d
   cases c:leaves P 8 s with
   |none=>grind
   |some l=>simp[c]at h;subst h;exact⟨rfl,by simp[Kf,a],by grind⟩
 ·rename_i n e a
  split at h
  ·cases h
  ·rename_i d
   cases c:leaves P 8 s with
   |none=>grind
   |some l=>simp[c]at h;subst h;exact⟨rfl,by simp[Kf,a],by grind⟩
 grind
theorem Jix {c:EK}{b:Bool}(i:eqk P s=some c)(h:c.B z x=some b)(j:R γ ρ z e)(l:R γ ρ x d)(D:Nat)(n:8<=D):
  (Op.equalIn D s e d).run P w= .ok b w:=by
 cases c with
 | a k=>
   obtain⟨f,rfl⟩:∃f,D=f+1:=⟨D-1,by omega⟩
   exact Jc5 (JhQ i) h j l f
 | b L=>
   unfold EK.B at h
   split at h
   ·grind
   ·rename_i g
    cases g
    split at h
    ·rename_i m
     obtain⟨M,o,p⟩:=j;obtain⟨N,q,r⟩:=l;subst o;subst q;obtain⟨J,K,_⟩:=Jez i;exact Jf7 J p r K m.1 m.2 h D n
    grind
   grind
theorem Jai {a:EK}(c:eqk P s=some a)(h:a.B z x=some i)(f:R γ ρ z e)(g:R γ ρ x d):
  (Op.equal s e d).run P w= .ok i w:=Jix c h f g Op.maxDepth (by decide)
end
section
variable {P : Program} {γ : Locs} {ρ : Nat -> Value} {base : Bs} {st : St} {c : Pt -> Row} {w : World} {fr : Fr} {a : Act}
theorem JqJ (o:(m= .eql/\i=false)\/(m= .neq/\i=true)){b:Bool}(N:KDok P s T)(h:keq T z x=some b)(j:R γ ρ z e)(g:R γ ρ x d)(q r:Operand):
  ((do eqGuard m s q r e d;binOp m s e d):Sem Value).run P w= .ok (.bool (b !=i)) w:=by
 have W:(Op.equal s e d).run P w= .ok b w:=Jc5 N h j g 9999;have n:(m= .eql->binOp m s e d=(do pure (.bool (<-Op.equal s e d))))->(m= .neq->binOp m s e d=(do pure (.bool (!(<-Op.equal s e d)))))->(eqGuard m s q r e d).run P w= .ok () w->
   ((do eqGuard m s q r e d;binOp m s e d):Sem Value).run P w= .ok (.bool (b !=i)) w:=by
  intro X O Y;rcases o with⟨f,l⟩|⟨f,l⟩
  ·simp_all
  simp_all
 unfold keq at h
 split at h
 ·simp[R]at j g;subst j;subst g;rcases o with⟨f,l⟩|⟨f,l⟩<;>subst f<;>subst l<;>exact n (fun a=>by(first|rfl|(cases a))) (fun a=>by(first|rfl|(cases a))) rfl
 ·split at h
  ·simp at h;subst h;simp[R]at j g;subst j;subst g
   rename_i p;subst p
   rcases o with⟨f,l⟩|⟨f,l⟩<;>subst f<;>subst l<;>simp[eqGuard,binOp,Op.intCmp,bne]
  grind
 ·simp at h;subst h;obtain⟨Z,f,l,M⟩:=j;obtain⟨y',J,Q,S⟩:=g;subst f;subst J;rw[<-JkK l M Q S];rcases o with⟨f,l⟩|⟨f,l⟩<;>subst f<;>subst l<;>simp[eqGuard,binOp,Op.stringOp]
 all_goals first
  |(cases h;done)
  | (split at h
     ·simp at h;subst h
      rename_i p
      obtain⟨p,K⟩:=p;obtain⟨c,f,l,M,J⟩:=j;simp[R]at g;subst f;subst g;subst p;have L:=U J K;rcases o with⟨f,l⟩|⟨f,l⟩<;>subst f<;>subst l<;>simp[eqGuard,binOp,Op.intCmp,bne,L]
     grind)
  | ((first
      |(simp[R]at j g;subst j;subst g)
      |(obtain⟨_,_,f⟩:=g;simp[R]at j;subst j;subst f)
      |(obtain⟨_,_,f⟩:=j;simp[R]at g;subst g;subst f)
      |(obtain⟨_,_,_,_,f,_⟩:=g;simp[R]at j;subst j;subst f)
      |(obtain⟨_,_,_,_,f,_⟩:=j;simp[R]at g;subst g;subst f)
      |(obtain⟨_,_,_,f,_⟩:=g;simp[R]at j;subst j;subst f)
      |(obtain⟨_,_,_,f,_⟩:=j;simp[R]at g;subst g;subst f)
      |(obtain⟨_,_,f,_⟩:=g;simp[R]at j;subst j;subst f)
      |(obtain⟨_,_,f,_⟩:=j;simp[R]at g;subst g;subst f))
     rcases o with⟨f,l⟩|⟨f,l⟩<;>subst f<;>subst l<;>exact n (fun a=>by(first|rfl|(cases a))) (fun a=>by(first|rfl|(cases a))) rfl)
theorem Jr5 (g:(m= .eql/\i=false)\/(m= .neq/\i=true)){f:EK}{b:Bool}(r:eqk P s=some f)(h:f.B z x=some b)(J:R γ ρ z e)(K:R γ ρ x d)(j:Rel γ ρ base c w)(n o:Operand):
  OpOK P γ ρ base st c w (.h (b !=i)) .a (do pure (.value (<-(do eqGuard m s n o e d;binOp m s e d)))):=by
 refine OpOK.A j (y:= .bool (b !=i)) ?_ (by rfl);rw[Sem.run_bind];have:((do eqGuard m s n o e d;binOp m s e d):Sem Value).run P w= .ok (.bool (b !=i)) w:=by
  cases f with
  |a k=>exact JqJ g (JhQ r) h J K n o
  | b Q=>
    have L:(Op.equal s e d).run P w= .ok b w:=Jai r h J K;obtain⟨_,_,M⟩:=Jez r;unfold EK.B at h
    split at h
    ·grind
    ·obtain⟨N,p,S⟩:=J;obtain⟨O,q,T⟩:=K;subst p;subst q;have l:=run_eqGuard_agg (P:=P) w m s n o N.toArray O.toArray M;rcases g with⟨p,q⟩|⟨p,q⟩<;>subst p<;>subst q
     ·rw[Sem.run_bind,l];show Sem.run P (do pure (Value.bool (<-Op.equal s _ _))) w=_;simp[L]
     ·rw[Sem.run_bind,l];show Sem.run P (do pure (Value.bool (!(<-Op.equal s _ _)))) w=_;simp[L]
    grind
 simp_all
end
section
variable {P : Program} {γ : Locs} {ρ : Nat -> Value} {base : Bs} {st : St} {c : Pt -> Row} {w : World} {fr : Fr} {a : Act}
theorem Jgh (a:0<=Q)(b:Q<=f.max):(BitVec.ofInt f.bits Q).toNat=Q.toNat/\Q.toNat<2^f.bits:=by
 obtain⟨m,rfl⟩:=Int.eq_ofNat_of_zero_le a;have c:m<2^f.bits:=by
  cases f<;>simp[IntKind.max,IntKind.bits,IntKind.signed]at b⊢<;>omega
 grind
theorem Jiy (h:(v:Int)<=f.max):f.wrap (v:Int)=v:=by
 cases f<;>simp[IntKind.max,IntKind.bits,IntKind.signed]at h<;>simp[IntKind.wrap,IntKind.bits,IntKind.signed]<;>omega
theorem Jt6 {y:Int}(d:0<=Q)(g:Q<=f.max)(h:0<=y)(i:y<=f.max):((Q.toNat|||y.toNat:Nat):Int)<=f.max:=by
 have a:∃m,(f.max:Int)=2^m-1:=by
  cases f<;>simp[IntKind.max,IntKind.bits,IntKind.signed]<;>first|exact⟨7,rfl⟩|exact⟨15,rfl⟩|exact⟨31,rfl⟩|exact⟨63,rfl⟩|exact⟨8,rfl⟩|exact⟨16,rfl⟩|exact⟨32,rfl⟩|exact⟨64,rfl⟩
 obtain⟨m,b⟩:=a;have e:((2:Int)^m)=((2^m:Nat):Int):=by simp
 rw[e]at b;have c:= @Nat.or_lt_two_pow Q.toNat y.toNat m;omega
theorem JkL (a:m≠ .eql/\m≠ .neq)(t:TypeId)(b c:Operand)(x y:Value):(eqGuard m t b c x y).run P w= .ok () w:=by
 cases m<;>first|rfl|grind|grind
theorem Jnr {c:IntKind}{n:Int}(h:arith m (.d f Q) (.d c n)=some z)(t:TypeId):
  ∃a,(binOp m t (.int f Q) (.int c n)).run P w= .ok a w/\R γ ρ z a:=by
 simp only[arith]at h
 split at h
 ·cases h
 have e:f=c:=by grind
 subst e
 split at h
 case h_10=>
  split at h
  ·rename_i b
   injection h with h;subst h;refine⟨_, ?_,rfl⟩;simp only[binOp,GS,XQ,X8,Op.intBits,BitVec.toNat_or,(Jgh b.1 b.2.1).1,(Jgh b.2.2.1 b.2.2.2).1];rw[Jiy (Jt6 b.1 b.2.1 b.2.2.1 b.2.2.2)];rfl
  grind
 case h_11=>cases h
 case h_4|h_5=>
  split at h
  ·cases h
  rename_i b
  injection h with h;subst h;exact⟨_,by simp only[binOp,GS,XQ,X8,Op.intDiv,Xa b];rfl,rfl⟩
 all_goals
  injection h with h;subst h;exact⟨_,by simp only[binOp,GS,XQ,X8,Op.intArith,Op.intCmp];rfl,rfl⟩
theorem Jns {x y:ByteArray}(h:arith m (.t v n) (.t l S)=some z)(c:x.data.toList.length=v)(d:snum x.data.toList=n)(g:y.data.toList.length=l)
  (e:snum y.data.toList=S) (t:TypeId):∃a,(binOp m t (.string x) (.string y)).run P w= .ok a w/\R γ ρ z a:=by
 have b:Jeu v n l S=Op.bytesLess x.toList y.toList:=by
  rw[ByteArray.toList_eq,ByteArray.toList_eq,<-Jaq,c,d,g,e]
 have f:=JkK c d g e;unfold arith at h
 cases m<;>simp only[]at h<;>first|(cases h;done)|skip
 ·split at h
  ·rename_i i
   injection h with h;subst h;refine⟨.string (x++y), ?_,x++y,rfl, ?_, ?_⟩
   ·have j:¬((x.size+y.size:Nat):Int)>IntKind.i64.max:=by
     have k:x.size=v:=by simp_all
     have o:y.size=l:=by simp_all
     simp only[IntKind.max,IntKind.signed,IntKind.bits,ZS];omega
    simp only[binOp,Op.stringOp]
    simp_all
   ·simp_all
   ·rw[ByteArray.data_append,Array.toList_append,<-JlG,c,d,e]
  grind
 ·injection h with h;subst h;exact⟨_,by rfl,by rw[b];rfl⟩
 ·injection h with h;subst h;exact⟨_,by rfl,by rw[b,<-f];rfl⟩
 ·injection h with h;subst h;exact⟨_,by rfl,by rw[b];rfl⟩
theorem Jn3 {r:V}(h:arith m z x=some r)(g:R γ ρ z e)(i:R γ ρ x d)(f:Rel γ ρ base c w)(t:TypeId)(l n:Operand)(j:m≠ .eql/\m≠ .neq):
  OpOK P γ ρ base st c w r .a (do pure (.value (<-(do eqGuard m t l n e d;binOp m t e d)))):=by
 suffices o:∃b,(binOp m t e d).run P w= .ok b w/\R γ ρ r b by
  obtain⟨b,p,q⟩:=o;refine OpOK.A f (y:=b) ?_ q;simp[JkL j,p]
 have k:=h;unfold arith at k
 split at k
 ·simp only[R]at g i;subst g;subst i;exact Jnr h t
 ·obtain⟨O,s,J,K⟩:=g;obtain⟨Q,L,M,N⟩:=i;subst s;subst L;exact Jns h J K M N t
 grind
end
section
variable {P : Program} {γ : Locs} {ρ : Nat -> Value} {base : Bs} {st : St} {c : Pt -> Row} {w : World} {fr : Fr} {a : Act}
theorem Js5 (f:R γ ρ (.h i) e)(d:Rel γ ρ base c w):OpOK P γ ρ base st c w (.h !i) .a (do pure (.value (<-Op.unary .not e))):=by
 simp[R]at f;subst f;exact OpOK.A d (y:= .bool !i) (by rfl) rfl
theorem Jn4 {k:IntKind}{i:IntKind}(j:P.underlying s=some (.int f))(l:P.underlying b=some (.int k))(h:R γ ρ (.d i Q) e)(g:Rel γ ρ base c w):
  OpOK P γ ρ base st c w (.d k (k.wrap Q)) .a (do pure (.value (<-convert s b e))):=by
 simp[R]at h;subst h;exact OpOK.A g (y:= .int k (k.wrap Q)) (by simp[convert,Jf j,Jf l,Conv.intToInt]) rfl
theorem JeA (k:Rel γ ρ base c w)(u:R γ ρ z e)(S:∀r,rowOf z=some r->γ r≠none->st.A r≠ .none->c r=st.A r)(h:Jz st v n z=some t):
  t.length=n*v/\((n=0/\t=[]/\∃m a,e= .slice none m a)\/∃f m a j,e= .slice (some f) m a/\RL γ ρ t j/\(loadCells f (n*v)).run P w= .ok j.toArray w):=by
 have p:∀(r:Pt) (o m a:Nat) (f:Addr) (i:Loc),γ r=some i->e= .slice (some f) m a->n<=m->m<=a->(a≠0->f=⟨i.b,i.o+o,none⟩)->rowOf z=some r->Kn st (n*v) (.g r o)=some t->
   t.length=n*v/\∃f m a j,e= .slice (some f) m a/\RL γ ρ t j/\(loadCells f (n*v)).run P w= .ok j.toArray w:=by
  intro r o m a f i T U h3 h4 h5 W N;have s:t.length=n*v:=by
   unfold Kn at N
   grind
  refine⟨s,f,m,a, ?_⟩;by_cases h0:a=0
  ·have y:n=0:=by omega
   subst y;have:t=[]:=Xo (by omega);subst this;exact⟨[],U,by rfl,by simp[loadCells,loadCellsFrom]⟩
  ·obtain⟨X,j,O,Q,e3⟩:=Y2 (P:=P) k (v:= .g r o) (x:= .pointer (some ⟨i.b,i.o+o,none⟩)) ⟨i,T,rfl⟩ (fun q Y=>S q (by rw[W];exact Y)) N
   grind
 unfold Jz at h
 split at h
 ·split at h
  ·rename_i y
   injection h with h;subst h;subst y;simp[R]at u
   grind
  grind
 ·rename_i r o m Z
  split at h
  ·rename_i d
   obtain⟨i,f,a,J,K,L,M,_⟩:=u;obtain⟨O,Q⟩:=p r o m a f i J K d.1 L M rfl h
   grind
  grind
 ·rename_i r o m Z a
  split at h
  ·rename_i d
   obtain⟨i,f,J,K,L,M,_⟩:=u;obtain⟨O,Q⟩:=p r o m a f i J K d.1 L M rfl h
   grind
  grind
 grind
theorem YL (h:slen z=some v)(b:R γ ρ z e):∃d c,e= .slice d v c:=by
 unfold slen at h
 split at h
 ·injection h with h;subst h;simp[R]at b;grind
 ·injection h with h;subst h;obtain⟨l,a,c,_,k,_⟩:=b;grind
 ·injection h with h;subst h;obtain⟨l,a,_,k,_⟩:=b;grind
 grind
theorem JeB :∀{l:List V} {a:List Value} {v:Nat},QX l=some v->RL γ ρ l a->∃bs:List UInt8,a=bs.map (fun b=>Value.int .u8 b.toNat)/\bs.length=l.length/\snum bs=v
 |[],a,v,h,d=>by simp[RL]at d;subst d;simp[QX]at h;exact⟨[],rfl,rfl,h⟩
 | u::l,a,v,h,⟨y,g,i,e,j⟩=>by
   subst i;unfold QX at h
   split at h
   ·grind
   ·rename_i n r c
    injection c with k m;subst k;subst m
    split at h
    ·rename_i o
     cases f:QX l with
     |none=>grind
     | some s=>
       simp[f]at h;obtain⟨bs,p,q,t⟩:=JeB f j;simp[R]at e;have w:n.toNat<256:=by omega
       refine⟨UInt8.ofNat n.toNat::bs, ?_,by simp[q], ?_⟩
       ·rw[p,e];simp only[XK,XV,GD];rw[Gh (by omega),Int.toNat_of_nonneg o.1]
       ·simp only[snum,t];rw[Gh (by omega)];exact h
    grind
   grind
theorem Jb8 {ad:Addr}{m cp:Nat}{bs:List UInt8}(h:(loadCells ad m).run P w= .ok (bs.map (fun b=>Value.int .u8 b.toNat)).toArray w):
  (Conv.bytesToString (.slice (some ad) m cp)).run P w= .ok (.string ⟨bs.toArray⟩) w:=by
 have loop:∀(bs:List UInt8) (s:ByteArray) (w:World),(forIn (bs.map (fun b=>Value.int .u8 b.toNat)) s fun(c:Value) (s:ByteArray)=>
   (match c with
    | .int .u8 n=>pure (ForInStep.yield (s.push (UInt8.ofNat n.toNat)))
    | _ => (stuck "bytesToString: byte expected" : Sem PUnit) >>= fun _ => pure (ForInStep.yield s) : Sem (ForInStep ByteArray))).run P w = .ok ⟨s.data ++ bs.toArray⟩ w := by
  intro bs
  induction bs with
  |nil=>simp
  | cons b bs ih=>
    simp_all
 have hl:=loop bs .empty w;simp[Conv.bytesToString,Sem.run_bind,h,Result.andThen_ok,<-Array.forIn_toList]
 simp_all
end
section
variable {P : Program} {γ : Locs} {ρ : Nat -> Value} {base : Bs} {st : St} {c : Pt -> Row} {w : World} {fr : Fr} {a : Act}
theorem Js6 {f:TypeId}(j:P.underlying s=some (.slice f))(k:P.underlying b=some .string)(o:P.underlying f=some (.int .u8))
  (p:R γ ρ z e) (L:∀r,rowOf z=some r->γ r≠none->st.A r≠ .none->c r=st.A r) (g:Rel γ ρ base c w) (M:slen z=some v) (N:Jz st 1 v z=some t) (i:QX t=some n):
  OpOK P γ ρ base st c w (.t v n) .a (do pure (.value (<-convert s b e))):=by
 obtain⟨k1,O⟩:=JeA (P:=P) g p L N;obtain⟨Q,S,q⟩:=YL M p;rcases O with⟨T,U,m,J,h⟩|⟨ad,m,J,ys,h,W,K⟩
 ·subst h;subst U;subst T;simp[QX]at i;subst i;exact OpOK.A g (y:= .string .empty) (by simp[convert,Jf j,Jf k,Jf o,Conv.bytesToString]) ⟨.empty,rfl,rfl,rfl⟩
 ·rw[h]at q;injection q with q1 X q3;subst X;obtain⟨bs,Y,f2,f3⟩:=JeB i W;subst Y;rw[ZM]at K;have Z:=Jb8 (P:=P) (cp:=J) K;subst h;refine OpOK.A g (y:= .string ⟨bs.toArray⟩) ?_ ⟨_,rfl,by grind,by omega⟩;simp[convert,Jf j,Jf k,Jf o,Z]
theorem JqK {p q:Array Operand}{e g:List Opd}(h:opds p=some e)(i:opds q=some g)(b:FR γ ρ fr a)(d:Rel γ ρ base c w):
  OpOK P γ ρ base st c w (.D v (evs fr e) (evs fr g)) .a (do pure (.value (<-Instr.makeFunc (.func v) (p.map a.eval) (q.map a.eval)))):=
 OpOK.A d (y:= .func (.func v) (p.map a.eval) (q.map a.eval)) (by rfl) ⟨(p.map a.eval).toList,(q.map a.eval).toList,by rfl,Jew h b,Jew i b⟩
theorem Yt (o:Obj):(w.alloc o).heap[w.heap.size]? =some o:=by
 show(w.heap.push _)[w.heap.size]? =_;simp
theorem Jn5 (a:Rel γ ρ base c w)(d:γ st.b=none):OpOK P γ ρ base st c w (.q st.b) (.b fun s=> .b s []) (do pure (.value (<-Instr.makeMap s none))):=by
 refine OpOK.D (o:= .map #[] 0) (e:=1) (w':=w.alloc (.map #[] 0)) a d ⟨w.drawn,rfl⟩ (y:= .map (some w.heap.size)) ?_ ⟨_,JC _ _ _,rfl⟩ ?_ (fun _=>by decide)
 ·rfl
 ·exact⟨#[],Yt _,rfl,fun i k v h=>by simp at h⟩
theorem Jas (h:QK z=some v)(a:R γ ρ z e):∃k,e= .int k (v:Int):=by
 unfold QK at h
 split at h
 ·split at h
  ·rename_i b
   injection h with h;subst h;simp[R]at a
   grind
  grind
 grind
theorem qJ (h:v<2^20):IntKind.i64.wrap (v:Int)=v:=Jiy (by simp[IntKind.max,IntKind.signed,IntKind.bits];omega)
theorem JqL {i:TypeInfo}(h1:P.underlying s=some (.slice b))(W:P.info? b=some i)(h3:Ky P b=some t)(h4:i.bytes<=65536)
  (hx:R γ ρ z e) (hy:R γ ρ x d) (hn:QK z=some v) (X:QK x=some n) (q:v<=n) (f:n<2^20) (hz:t.length=i.size) (K:Rel γ ρ base c w) (L:γ st.b=none):
  OpOK P γ ρ base st c w (.m st.b 0 v i.size n) (.b fun s=> .a s (List.replicate n t).flatten) (do pure (.value (<-Instr.makeSlice s e d))):=by
 obtain⟨k1,e1⟩:=Jas hn hx;obtain⟨k2,e2⟩:=Jas X hy;subst e1;subst e2;obtain⟨U,Y,hr⟩:=KY (ρ:=ρ) h3;have M:U.cells.size=i.size:=by have:=(hr γ).A;grind
 have N:szT P b=some i.size:=by simp[szT,W]
 have l:¬(i.bytes*(n:Int)>2^48):=by
  have h5:(i.bytes:Int)*(n:Int)<=65536*(n:Int):=Int.mul_le_mul_of_nonneg_right (by omega) (by omega);omega
 have p:∀g:Array Value,RL γ ρ (List.replicate n t).flatten ((Array.range (n*i.size)).map fun j=>g[j%g.size]!).toList->
   ((if n*i.size=0 then(g= #[])else g=U.cells))->OpOK P γ ρ base st c w (.m st.b 0 v i.size n) (.b fun s=> .a s (List.replicate n t).flatten) (do pure (.value (<-Instr.makeSlice s (.int k1 v) (.int k2 n)))):=by
  intro g O k;have Z:=O.A;simp only[Gg,Array.size_map,Array.size_range]at Z;refine OpOK.D (o:= .cells ((Array.range (n*i.size)).map fun j=>g[j%g.size]!) b) (e:=n*i.size) (w':=w.alloc (.cells ((Array.range (n*i.size)).map fun j=>g[j%g.size]!) b)) K L ⟨w.drawn,rfl⟩ (y:= .slice (some ⟨w.heap.size,0,none⟩) v n) ?_
   ⟨_,_,JC _ _ _,rfl,q,fun _=>rfl,by simp⟩ (JaY (O.J (Ext.B L)) (by simp)) (fun h=>h.elim)
  have Q:¬((n:Int)<0):=by omega
  have S:¬((v:Int)<0):=by omega
  have T:¬((v:Int)>(n:Int)):=by omega
  by_cases r:n*i.size=0
  ·rw[Xe r]at k;subst k;simp only[Sem.run_bind,Instr.makeSlice,Jf h1,Result.andThen_ok,asInt,asIntOf,Sem.run_pure,QY W,qJ f,qJ (HC q f),Q,S,T,l,
    Gn,Hz,ZC,X8,run_askRoom,JT N,Zu,Xe r,Jby]
  ·rw[Xa r]at k;subst k;simp only[Sem.run_bind,Instr.makeSlice,Jf h1,Result.andThen_ok,asInt,asIntOf,Sem.run_pure,QY W,qJ f,qJ (HC q f),Q,S,T,l,
    Gn,Hz,ZC,X8,run_askRoom,JT N,Zu,Xa r,Jby,Y]
 by_cases r:n*i.size=0
 ·refine p #[] ?_ (by grind);have:(List.replicate n t).flatten=[]:=by
   apply Xo
   simp_all
  rw[this,r];simp[RL]
 ·refine p U.cells ?_ (by grind);rw[M,Jbz n i.size U.cells M];exact RL.B (hr γ) n
theorem JV (b:opdO k=some h)(f:FR γ ρ fr a)(g:JZ v (h.map (Opd.A fr))=some n):
  (k=none/\n=v)\/∃o c,k=some o/\a.eval o= .int c (n:Int):=by
 cases k with
 |none=>simp[opdO]at b;subst b;simp[JZ]at g;grind
 | some o=>
   simp[opdO]at b
   cases i:opd o with
   |none=>grind
   | some z=>
     simp[i]at b;subst b;simp[JZ]at g;obtain⟨c,e⟩:=Jas g (Jk i f)
     grind
theorem Kt (h:v<=n)(a:BoundsCode):(Instr.sliceBound (.int f (v:Int)) n a).run P w= .ok v w:=by
 simp only[Instr.sliceBound,asIntOf,Sem.run_bind,Sem.run_pure,Result.andThen_ok]
 simp_all
theorem KZ {isSlice:Bool}{len cap m:Nat}{mx:Option Operand}(j:(k=none/\v=0)\/∃o b,k=some o/\a.eval o= .int b (v:Int))(s:(r=none/\n=len)\/∃o b,r=some o/\a.eval o= .int b (n:Int))
  (y:(mx=none/\m=cap)\/∃o b,mx=some o/\a.eval o= .int b (m:Int)) (p:v<=n) (g:n<=m) (t:m<=cap) (K:mx.isSome->r.isSome):
  (Instr.sliceBounds isSlice len cap (k.map a.eval) (r.map a.eval) (mx.map a.eval)).run P w= .ok (v,n,m) w:=by
 rcases y with⟨q,i⟩|⟨L,M,q,i⟩
 ·subst q;subst i;rcases s with⟨f,e⟩|⟨z,J,f,e⟩
  ·subst f;subst e;rcases j with⟨c,d⟩|⟨u,x,c,d⟩
   ·subst c;subst d;rfl
   ·subst c;simp[Instr.sliceBounds,d,Kt p]
  ·subst f;rcases j with⟨c,d⟩|⟨u,x,c,d⟩
   ·subst c;subst d;simp[Instr.sliceBounds,e,Kt g]
   ·subst c;simp[Instr.sliceBounds,e,d,Kt p,Kt g]
 ·subst q;rcases s with⟨f,e⟩|⟨z,J,f,e⟩
  ·grind
  ·subst f;rcases j with⟨c,d⟩|⟨u,x,c,d⟩
   ·subst c;subst d;simp[Instr.sliceBounds,i,e,Kt g,Kt t]
   ·subst c;simp[Instr.sliceBounds,i,e,d,Kt p,Kt g,Kt t]
theorem JqM (i:P.underlying s=some .string)(j:R γ ρ (.t v n) e)(o:opdO k=some h)(p:opdO r=some W)
  (d:FR γ ρ fr a) (q:JZ 0 (h.map (Opd.A fr))=some l) (u:JZ v (W.map (Opd.A fr))=some S) (g:l<=S) (z:S<=v) (f:Rel γ ρ base c w):
  OpOK P γ ρ base st c w (.t (S-l) (scut n l S)) .a (do pure (.value (<-Instr.sliceAt s e (k.map a.eval) (r.map a.eval) none))):=by
 obtain⟨b,J,K,L⟩:=j;subst J;have M:b.size=v:=by simp_all
 refine OpOK.A f (y:= .string (b.extract l S)) ?_ ⟨_,rfl, ?_, ?_⟩
 ·have:=KZ (P:=P) (w:=w) (a:=a) (isSlice:=false) (len:=b.size) (cap:=b.size) (m:=b.size) (mx:=none) (JV o d q) (by rw[M];exact JV p d u) (.inl ⟨rfl,rfl⟩) g (by omega) (Xb _) (by simp);simp at this;simp[Instr.sliceAt,Instr.slice,Jf i,this]
 ·simp[Hf,K];omega
 ·rw[Hf,Array.toList_extract,List.extract_eq_take_drop,<-Jb2,L]
end
section
variable {P : Program} {γ : Locs} {ρ : Nat -> Value} {base : Bs} {st : St} {c : Pt -> Row} {w : World} {fr : Fr} {a : Act}
theorem JkM (a:opdO k=some h):h.isSome=k.isSome:=by
 cases k with
 |none=>simp[opdO]at a;grind
 | some o=>
   simp[opdO]at a
   cases b:opd o with
   |none=>grind
   |some z=>grind
theorem jB {h m:Nat}{ad:Option Addr}(c:P.underlying s=some (.slice b))(d:szT P b=some v)
  (f:(Instr.sliceBounds true n l (k.map a.eval) (r.map a.eval) (j.map a.eval)).run P w= .ok (S,h,m) w):
  (Instr.sliceAt s (.slice ad n l) (k.map a.eval) (r.map a.eval) (j.map a.eval)).run P w= .ok (.slice (if m=S then ad else ad.map (·.add (S*v))) (h-S) (m-S)) w:=by
 simp[Instr.sliceAt,Instr.slice,Jf c,JT d,f]
theorem R.F {a:Loc}{h m cp:Nat}{ad:Addr}(f:cp≠0->ad=⟨a.b,a.o+v,none⟩)(i:v+cp*n<=a.e)(j:l<=h)(k:h<=m)(g:m<=cp):
  ∃c,(if m=l then some ad else(some ad).map (·.add (l*n)))=some c/\(m-l≠0->c=⟨a.b,a.o+(v+l*n),none⟩)/\v+l*n+(m-l)*n<=a.e:=by
 have d:v+l*n+(m-l)*n<=a.e:=by
  have:l*n+(m-l)*n=m*n:=by rw[<-GT];grind
  have p:m*n<=cp*n:=XT n g;omega
 by_cases q:m=l
 ·simp_all
 ·refine⟨ad.add (l*n),by grind,fun _=> ?_,d⟩;rw[f (by omega),Y1,ZZ]
theorem JqN {Q:Option Opd}(hu:P.underlying s=some (.slice b))(hz:szT P b=some v)(hx:R γ ρ z e)
  (h1:opdO k=some h) (h2:opdO r=some W) (h3:opdO j=some Q) (hm:j.isSome->r.isSome) (g:FR γ ρ fr a) (d:Y0 v z (h.map (Opd.A fr)) (W.map (Opd.A fr)) (Q.map (Opd.A fr))=some x) (q:Rel γ ρ base c w):
  OpOK P γ ρ base st c w x .a (do pure (.value (<-Instr.sliceAt s e (k.map a.eval) (r.map a.eval) (j.map a.eval)))):=by
 obtain⟨mv,T⟩:∃mv,Q.map (Opd.A fr)=mv:=⟨_,rfl⟩
 rw[T]at d;unfold Y0 at d
 split at d
 ·
  simp[R]at hx;subst hx
  cases L:JZ 0 (h.map (Opd.A fr))with
  |none=>grind
  | some l=>
    cases M:JZ 0 (W.map (Opd.A fr))with
    |none=>grind
    | some i=>
      cases J:JZ 0 mv with
      |none=>grind
      | some m=>
        simp[L,M,J]at d;obtain⟨⟨e1,e2,e3⟩,e4⟩:=d;subst e1;subst e2;subst e3;subst e4;have S:=KZ (P:=P) (w:=w) (a:=a) (isSlice:=true) (len:=0) (cap:=0) (JV h1 g L) (JV h2 g M) (JV h3 g (by grind)) (Xb _) (Xb _) (Xb _) hm;have:=jB (ad:=none) hu hz S;refine OpOK.A q (y:= .slice none 0 0) ?_ rfl;simp[this]
 ·
  rename_i f o n z'
  obtain⟨lc,ad,N,k1,k2,k3,k4,k5⟩:=hx;subst k2
  cases L:JZ 0 (h.map (Opd.A fr))with
  |none=>grind
  | some l=>
    cases M:JZ n (W.map (Opd.A fr))with
    |none=>grind
    | some i=>
      simp[L,M]at d;obtain⟨aa,d⟩:=d;subst aa
      cases mv with
      | some vm=>
        simp at d
        cases J:QK vm with
        |none=>grind
        | some m=>
          simp[J]at d;obtain⟨⟨U,X,q3⟩,q4⟩:=d;subst q4;have S:=KZ (P:=P) (w:=w) (a:=a) (isSlice:=true) (len:=n) (cap:=N) (m:=m) (JV h1 g L) (JV h2 g M) (JV h3 g (by rw[T];exact J)) U X (by omega) hm;have O:=jB (ad:=some ad) hu hz S;obtain⟨p,Y,Z,f3⟩:=R.F (l:=l) (h:=i) (m:=m) k4 k5 U X (by omega);rw[Y]at O;exact OpOK.A q (y:= .slice (some p) (i-l) (m-l)) (by simp[O]) ⟨lc,p,k1,rfl,by omega,Z,f3⟩
      | none=>
        simp only[]at d
        split at d
        ·rename_i K
         injection d with d;subst d;have ab:j=none:=by
          have:=JkM h3
          simp_all
         have S:=KZ (P:=P) (w:=w) (a:=a) (isSlice:=true) (len:=n) (cap:=N) (m:=N) (JV h1 g L) (JV h2 g M) (.inl ⟨ab,rfl⟩) K.1 (by omega) (Xb _) hm;have O:=jB (ad:=some ad) hu hz S;obtain⟨p,Y,Z,f3⟩:=R.F (l:=l) (h:=i) (m:=N) k4 k5 K.1 (by omega) (Xb _);rw[Y]at O;exact OpOK.A q (y:= .slice (some p) (i-l) (N-l)) (by simp[O]) ⟨lc,p,N-l,k1,rfl,by omega,Z,f3⟩
        grind
 ·
  rename_i f o n z' N
  obtain⟨lc,ad,k1,k2,k3,k4,k5⟩:=hx;subst k2
  cases L:JZ 0 (h.map (Opd.A fr))with
  |none=>grind
  | some l=>
    cases M:JZ n (W.map (Opd.A fr))with
    |none=>grind
    | some i=>
      cases J:JZ N mv with
      |none=>grind
      | some m=>
        simp[L,M,J]at d;obtain⟨⟨q0,U,X,q3⟩,q4⟩:=d;subst q0;subst q4;have S:=KZ (P:=P) (w:=w) (a:=a) (isSlice:=true) (len:=n) (cap:=N) (m:=m) (JV h1 g L) (JV h2 g M) (JV h3 g (by grind)) U X q3 hm;have O:=jB (ad:=some ad) hu hz S;obtain⟨p,Y,Z,f3⟩:=R.F (l:=l) (h:=i) (m:=m) k4 k5 U X q3;rw[Y]at O;refine OpOK.A q (y:= .slice (some p) (i-l) (m-l)) (by simp[O]) ⟨lc,p,k1,rfl,by omega,Z,f3⟩
 grind
end
end Eva
