/- An evaluator of the model's code, proved to tell what the model does. Operations, one b -/
import Derived.Test.YtgmmjcgkklgeeaaGreatEva1
import Derived.Laws.StructEq
import GoSem.Instr.MapUpdate
import Derived.Laws.MakeOwn
set_option linter.unusedVariables false
set_option linter.unusedSimpArgs false
set_option linter.unusedSectionVars false
namespace Eva
open Go Go.RowKit
section
variable {P : Program} {γ : Locs} {ρ : Nat -> Value} {base : Bs} {st : St} {c : Pt -> Row} {w : World} {fr : Fr} {a : Act}
theorem JaW (n k:Nat)(z:Array Value)(hz:z.size=k):((Array.range (n*k)).map fun i=>z[i%k]!).toList=(List.replicate n z.toList).flatten:=by
 induction n with
 |zero=>simp
 | succ n ih=>
   rw[show List.replicate (n+1) z.toList=List.replicate n z.toList++[z.toList]from List.replicate_succ',List.flatten_append,<-ih];simp only[Array.toList_map,Array.toList_range,List.flatten_cons,List.flatten_nil,List.append_nil];rw[Nat.succ_mul,List.range_add,List.map_append,List.map_map];congr 1;apply List.ext_getElem?;intro i;by_cases hi:i<k
   ·have h1:(n*k+i)%k=i:=by rw[Nat.add_comm,Nat.add_mul_mod_self_right];exact Nat.mod_eq_of_lt hi
    simp[hi,h1,hz]
   ·rw[List.getElem?_eq_none (by simp;omega),List.getElem?_eq_none (by simp;omega)]
theorem Jdc (hρ:∀i,(ρ i).oneCell'=true){t:TypeId}{fs:Array Field}{zs zs':List V}{ps:Array (Nat×Operand)}{qs:List (Nat×Nat×Opd)}
  (hu:P.underlying t=some (.struct fs)) (hz:KI P t=some zs)
  (hp:parts (fun i=>match fs[i]? with
    |some f=>(szT P f.type).map fun n=>(f.offset,n)
    |none=>none) ps.toList=some qs)
  (hall:(fs.toList.all fun f=>(szT P f.type).isSome)=true) (hfr:FR γ ρ fr a) (hf:QM zs (evps fr qs)=some zs') (hrel:Rel γ ρ base c w):
  OpOK P γ ρ base st c w (.agg zs') .no (do pure (.value (<-Instr.build t (ps.map fun(i,x)=>(i,a.eval x))))):=by
 obtain⟨z,hzr,hr⟩:=KY (ρ:=ρ) hz;have hm:∀(l:List Field) (w:World),(l.all fun f=>(szT P f.type).isSome)=true->
   ((l.mapM fun(f:Field)=>(do pure (f.offset,<-Go.sizeOf f.type):Sem (Nat×Nat))).run P w)= .ok (l.map fun(f:Field)=>(f.offset,(szT P f.type).getD 0)) w:=by
  intro l
  induction l with
  |nil=>intro w _;rfl
  | cons f l ih=>
    intro w h;simp only[List.all_cons,Bool.and_eq_true]at h;obtain⟨n,hn⟩:=Option.isSome_iff_exists.1 h.1;rw[List.mapM_cons];simp only[Sem.run_bind,JQ hn,Result.andThen_ok,Sem.run_pure,ih w h.2,hn,List.map_cons,Option.getD_some]
 have hplace:∀i:Nat,((fs.map fun(f:Field)=>(f.offset,(szT P f.type).getD 0))[i]?)=(match fs[i]? with
    |some f=>(szT P f.type).map fun n=>(f.offset,n)
    |none=>none):=by
  intro i;rw[Array.getElem?_map]
  cases hi:fs[i]? with
  |none=>rfl
  | some f=>
    have hmem:f∈fs.toList:=by simpa using Array.mem_of_getElem? hi
    have:=List.all_eq_true.1 hall f hmem;obtain⟨n,hn⟩:=Option.isSome_iff_exists.1 this;simp[hn]
 obtain⟨cs',k1,k2,_⟩:=jQ hρ _ ps.toList qs zs zs' z.cells hp hfr (hr γ) hf;have hfun:(fun(i:Nat)=>(fs.map fun(f:Field)=>(f.offset,(szT P f.type).getD 0))[i]?)=(fun(i:Nat)=>match fs[i]? with
    |some f=>(szT P f.type).map fun n=>(f.offset,n)
    |none=>none):=funext hplace
 have hmA:(fs.mapM fun(f:Field)=>(do pure (f.offset,<-Go.sizeOf f.type):Sem (Nat×Nat))).run P w= .ok (fs.map fun(f:Field)=>(f.offset,(szT P f.type).getD 0)) w:=by
  rw[Array.mapM_eq_mapM_toList,Sem.run_map,hm _ w hall];simp only[Result.andThen_ok,<-Array.toList_map,Array.toArray_toList]
 refine OpOK.pure hrel (y:= .agg cs') ?_ ⟨cs'.toList,by simp,k2⟩;simp only[Sem.run_bind,Instr.build,hzr,Result.andThen_ok,Jf hu,hmA];rw[hfun,Array.toList_map,k1];rfl
theorem Jdt (hρ:∀i,(ρ i).oneCell'=true){t e:TypeId}{len n:Nat}{zs zs':List V}{ps:Array (Nat×Operand)}{qs:List (Nat×Nat×Opd)}
  (hu:P.underlying t=some (.array len e)) (hz:KI P t=some zs) (hn:szT P e=some n)
  (hp:parts (fun i=>some (i*n,n)) ps.toList=some qs) (hfr:FR γ ρ fr a) (hf:QM zs (evps fr qs)=some zs') (hrel:Rel γ ρ base c w):
  OpOK P γ ρ base st c w (.agg zs') .no (do pure (.value (<-Instr.build t (ps.map fun(i,x)=>(i,a.eval x))))):=by
 obtain⟨z,hzr,hr⟩:=KY (ρ:=ρ) hz;obtain⟨cs',k1,k2,_⟩:=jQ hρ _ ps.toList qs zs zs' z.cells hp hfr (hr γ) hf;refine OpOK.pure hrel (y:= .agg cs') ?_ ⟨cs'.toList,by simp,k2⟩;simp only[Sem.run_bind,Instr.build,hzr,Result.andThen_ok,Jf hu,JQ hn];rw[Array.toList_map,k1];rfl
theorem JqS (hρ:∀i,(ρ i).oneCell'=true){t e:TypeId}{n z:Nat}{zs l:List V}{ps:Array (Nat×Operand)}{qs:List (Nat×Nat×Opd)}
  (hu:P.underlying t=some (.slice e)) (hsz:szT P e=some z) (hz:KI P e=some zs) (hlen:zs.length=z) (hbig:n*z<=2^24)
  (hp:parts (fun i=>some (i*z,z)) ps.toList=some qs) (hfr:FR γ ρ fr a) (hf:QM (List.replicate n zs).flatten (evps fr qs)=some l) (hl:l.length=n*z)
  (hrel:Rel γ ρ base c w) (hnx:γ st.nx=none):
  OpOK P γ ρ base st c w (.slx st.nx 0 n z n) (.new fun t=> .cells t l) (do pure (.value (<-Instr.buildSlice t n (ps.map fun(i,x)=>(i,a.eval x))))):=by
 obtain⟨zv,hzr,hr⟩:=KY (ρ:=ρ) hz;have hzs:zv.cells.size=z:=by have:=(hr γ).length;simpa[hlen]using this
 have main:∀zc:Array Value,RL γ ρ (List.replicate n zs).flatten ((Array.range (n*z)).map fun i=>zc[i%zc.size]!).toList->
   ((if n*z=0 then(zc= #[])else zc=zv.cells))->OpOK P γ ρ base st c w (.slx st.nx 0 n z n) (.new fun t=> .cells t l) (do pure (.value (<-Instr.buildSlice t n (ps.map fun(i,x)=>(i,a.eval x))))):=by
  intro zc hzl hzc;obtain⟨cs',k1,k2,_⟩:=jQ hρ _ ps.toList qs _ l _ hp hfr hzl hf;have hcs:cs'.size=n*z:=by have:=k2.length;simp at this;omega
  refine OpOK.made (o:= .cells cs' e) (e:=cs'.size) (w':=w.alloc (.cells cs' e)) hrel hnx ⟨w.drawn,rfl⟩ (y:= .slice (some ⟨w.heap.size,0,none⟩) n n) ?_
   ⟨_,_,Jp _ _ _,rfl,Nat.le_refl _,fun _=>rfl,by simp[hcs]⟩ (Jah (k2.ext (Ext.upd hnx)) rfl) (fun h=>h.elim)
  by_cases h0:n*z=0
  ·rw[if_pos h0]at hzc;subst hzc;simp only[Sem.run_bind,Instr.buildSlice,Jf hu,Result.andThen_ok,JQ hsz,if_neg (Nat.not_lt.2 hbig),if_pos h0,Sem.run_pure];rw[Array.toList_map,k1];simp[YC]
  ·rw[if_neg h0]at hzc;subst hzc;simp only[Sem.run_bind,Instr.buildSlice,Jf hu,Result.andThen_ok,JQ hsz,if_neg (Nat.not_lt.2 hbig),if_neg h0,Sem.run_pure,hzr];rw[Array.toList_map,k1];simp[YC]
 by_cases h0:n*z=0
 ·refine main #[] ?_ (by rw[if_pos h0]);have:(List.replicate n zs).flatten=[]:=by
   apply List.eq_nil_of_length_eq_zero;simp[hlen,h0]
  rw[this,h0];simp[RL]
 ·refine main zv.cells ?_ (by rw[if_neg h0]);rw[hzs,JaW n z zv.cells hzs];exact RL.flat_replicate (hr γ) n
theorem YD (hrel:Rel γ ρ base c w){r:Pt}{o:Nat}{x:Value}(hx:R γ ρ (.ptr r o) x)(hc:γ r≠none->st.row r≠ .none->c r=st.row r){row:Row}(hs:st.row r=row)(hn:row≠ .none):
  ∃l,γ r=some l/\x= .pointer (some ⟨l.b,l.o+o,none⟩)/\c r=row/\Ql γ ρ l row w:=by
 obtain⟨l,h1,h2⟩:=hx;have h3:c r=row:=by rw[hc (by rw[h1];simp) (by rw[hs];exact hn),hs]
 obtain⟨l',k1,k2⟩:=hrel.row r (by rw[h3];exact hn);rw[h1]at k1;injection k1 with k1;subst k1;exact⟨l,h1,h2,h3,by rw[h3]at k2;exact k2⟩
theorem YU (hrel:Rel γ ρ base c w){v:V}{x:Value}(hx:R γ ρ v x)(hc:∀r,rowOf v=some r->γ r≠none->st.row r≠ .none->c r=st.row r){n:Nat}{l:List V}(h:KG st n v=some l):
  ∃ad ys,x= .pointer (some ad)/\RL γ ρ l ys/\(loadCells ad n).run P w= .ok ys.toArray w:=by
 unfold KG at h
 split at h
 ·rename_i r o
  split at h
  ·rename_i t xs hs
   split at h
   ·rename_i hle
    injection h with h;subst h;obtain⟨lo,k1,k2,k3,k4⟩:=YD hrel hx (hc r rfl) hs (by intro e;cases e);obtain⟨ys,e1,e2⟩:=Jbm (P:=P) k4 hle;exact⟨_,ys,k2,e1,e2⟩
   ·cases h
  ·rename_i xs hs
   split at h
   ·rename_i hle
    injection h with h;subst h;obtain⟨lo,k1,k2,k3,k4⟩:=YD hrel hx (hc r rfl) hs (by intro e;cases e);obtain⟨ys,e1,e2⟩:=Jb4 (P:=P) k4 hle;exact⟨_,ys,k2,e1,e2⟩
   ·cases h
  ·cases h
 ·cases h
theorem JgY {w:World}{ad:Addr}{y:Value}(h:(loadCells ad 1).run P w= .ok #[y] w):(load ad).run P w= .ok y w:=by
 simp only[loadCells,loadCellsFrom,Sem.run_bind]at h;rw[show ad.add 0=ad by simp[Addr.add]]at h
 cases hl:(load ad).run P w with
 |halt e w'=>rw[hl]at h;simp at h
 | ok y' w'=>
   rw[hl]at h;simp at h;obtain⟨h1,h2⟩:=h;rw[h1,h2]
theorem Jme {t:TypeId}{v u:V}{x:Value}(hx:R γ ρ v x)(hc:∀r,rowOf v=some r->γ r≠none->st.row r≠ .none->c r=st.row r)(hrel:Rel γ ρ base c w)
  (hg:J9 P t=some false) (h:KG st 1 v=some [u]):OpOK P γ ρ base st c w u .no (do pure (.value (<-Instr.loadAt t x))):=by
 obtain⟨ad,ys,e1,e2,e3⟩:=YU (P:=P) hrel hx hc h;subst e1;obtain⟨y,ys',e4,e5,e6⟩:=e2;simp only[RL]at e6;subst e6;subst e4;refine OpOK.pure hrel (y:=y) ?_ e5;simp[Instr.loadAt,Instr.sureAddr,qy hg (JgY e3)]
theorem Jmf {t:TypeId}{n:Nat}{v:V}{l:List V}{x:Value}(hx:R γ ρ v x)(hc:∀r,rowOf v=some r->γ r≠none->st.row r≠ .none->c r=st.row r)(hrel:Rel γ ρ base c w)
  (hg:J9 P t=some true) (hn:szT P t=some n) (h:KG st n v=some l):OpOK P γ ρ base st c w (.agg l) .no (do pure (.value (<-Instr.loadAt t x))):=by
 obtain⟨ad,ys,e1,e2,e3⟩:=YU (P:=P) hrel hx hc h;subst e1;refine OpOK.pure hrel (y:= .agg ys.toArray) ?_ ⟨ys,rfl,e2⟩;simp[Instr.loadAt,Instr.sureAddr,qx hg hn e3]
theorem OpOK.wrote {r:Pt}{t:Nat}{f:Nat->Row}{s:Sem Next}{w':World}{v:V}{x:Next}(hs:s.run P w= .ok x w')(hx:Jmc γ ρ v x)(h:Rel γ ρ base (upd c r (f st.t)) w')(hb:Below base.n w w'):
  OpOK P γ ρ base st c w v (.wr r t f) s:=⟨_,w',γ,hs,hx,h,Ext.refl _,fun _ k=> .inl k,hb⟩
theorem Jmg (hρ:∀i,(ρ i).oneCell'=true){t:TypeId}{n:Nat}{v u:V}{x y:Value}{vs:List V}{e:Eff}(hx:R γ ρ v x)(hy:R γ ρ u y)
  (hc:∀r,rowOf v=some r->γ r≠none->st.row r≠ .none->c r=st.row r) (hrel:Rel γ ρ base c w) (hn:szT P t=some n)
  (hu:u.cells=some vs) (hl:vs.length=n) (h:JN st v vs=some e):OpOK P γ ρ base st c w JR e (do Instr.storeAt t x y;pure .skip):=by
 unfold JN at h
 split at h
 ·rename_i r o
  split at h
  ·rename_i tt xs hs
   split at h
   ·rename_i hle
    injection h with h;subst h;obtain⟨lo,k1,k2,k3,k4⟩:=YD hrel hx (hc r rfl) hs (by intro e;cases e);have hcs:=qD hρ hu hy;obtain⟨w',e1,e2,e3⟩:=jn (P:=P) (u:=st.t) hρ hrel k1 k3 hle.1 hle.2 hcs;subst k2;refine OpOK.wrote (x:= .skip) (w':=w') ?_ (.inr ⟨rfl,rfl⟩) e2 e3;have hsz:y.cells.size=n:=by have:=hcs.length;simpa[hl]using this
    simp[Instr.storeAt,Instr.sureAddr,storeVar,JQ hn,hsz,e1]
   ·cases h
  ·cases h
 ·cases h
theorem JgZ {v:V}{x:Value}(hx:R γ ρ v x)(hrel:Rel γ ρ base c w)(hv:(∃r o,v= .ptr r o)\/∃f p q,v= .fn f p q){s:Sem Next}
  (hs:∀ad,x= .pointer (some ad)->s.run P w= .ok (.value x) w) (hs':∀f p q,x= .func (.func f) p q->s.run P w= .ok (.value x) w):OpOK P γ ρ base st c w v .no s:=by
 rcases hv with⟨r,o,e⟩|⟨f,p,q,e⟩
 ·subst e;have hx':=hx;obtain⟨l,_,e⟩:=hx';exact OpOK.pure hrel (hs _ e) hx
 ·subst e;have hx':=hx;obtain⟨xs,ys,e,_⟩:=hx';exact OpOK.pure hrel (hs' _ _ _ e) hx
end
section
variable {P : Program} {γ : Locs} {ρ : Nat -> Value} {base : Bs} {st : St} {c : Pt -> Row} {w : World} {fr : Fr} {a : Act}
def KDok (P:Program)(t:TypeId):KD->Prop
 | .b=>P.underlying t=some .bool
 | .i=>∃k,P.underlying t=some (.int k)
 | .s=>P.underlying t=some .string
 | .p=>∃e,P.underlying t=some (.pointer e)
 | .l=>∃e,P.underlying t=some (.slice e)
 | .m=>∃k e,P.underlying t=some (.map k e)
 | .f=>∃p r v,P.underlying t=some (.func p r v)
theorem Jja {n v n' v':Nat}{x y:ByteArray}(h1:x.data.toList.length=n)(h2:snum x.data.toList=v)(h3:y.data.toList.length=n')(h4:snum y.data.toList=v'):
  (x.toList==y.toList)=(n==n'&&v==v'):=by
 rw[ByteArray.toList_eq,ByteArray.toList_eq];rw[Bool.eq_iff_iff];simp only[beq_iff_eq,Bool.and_eq_true];constructor
 ·intro h;rw[<-h1,<-h2,<-h3,<-h4,h];exact⟨rfl,rfl⟩
 ·rintro⟨e1,e2⟩;exact jv (by omega) (by omega)
theorem Jp1 {z b m c:Int}(h1:z%m=c)(h2:b%m≠c):¬z=b:=fun e=>h2 (e▸h1)
theorem Jb5 {t:TypeId}{k:KD}{u v:V}{x y:Value}{b:Bool}(hk:KDok P t k)(h:keq k u v=some b)(hx:R γ ρ u x)(hy:R γ ρ v y)(D:Nat):
  (Op.equalIn (D+1) t x y).run P w= .ok b w:=by
 unfold keq at h
 split at h
 ·simp only[Option.some.injEq]at h;subst h;simp only[R]at hx hy;subst hx;subst hy;simp[Op.equalIn,Jf hk]
 ·split at h
  ·simp only[Option.some.injEq]at h;subst h;simp only[R]at hx hy;subst hx;subst hy
   rename_i hkk;subst hkk
   obtain⟨k',hk⟩:=hk;simp[Op.equalIn,Jf hk]
  ·cases h
 ·simp only[Option.some.injEq]at h;subst h;obtain⟨x',e1,e2,e3⟩:=hx;obtain⟨y',e4,e5,e6⟩:=hy;subst e1;subst e4;rw[<-Jja e2 e3 e5 e6,<-beq_toListBytes];simp[Op.equalIn,Jf (show P.underlying t=some .string from hk)]
 all_goals first
  |(cases h;done)
  | (split at h
     ·simp only[Option.some.injEq]at h;subst h
      rename_i hkk
      obtain⟨hkk,hne⟩:=hkk;obtain⟨z,e1,e2,e3,e4⟩:=hx;simp only[R]at hy;subst e1;subst hy;subst hkk;have hzb:=Jp1 e4 hne;obtain⟨k',hk⟩:=hk;simp[Op.equalIn,Jf hk,hzb]
     ·cases h)
  | (simp only[Option.some.injEq]at h;subst h
     obtain⟨e,hk⟩:=hk
     first
      |(simp only[R]at hx hy;subst hx;subst hy;simp[Op.equalIn,Jf hk];done)
      |(obtain⟨l,_,e1⟩:=hy;simp only[R]at hx;subst hx;subst e1;simp[Op.equalIn,Jf hk];done)
      |(obtain⟨l,_,e1⟩:=hx;simp only[R]at hy;subst hy;subst e1;simp[Op.equalIn,Jf hk];done)
      |(obtain⟨l,_,_,_,e1,_⟩:=hy;simp only[R]at hx;subst hx;subst e1;simp[Op.equalIn,Jf hk];done)
      |(obtain⟨l,_,_,_,e1,_⟩:=hx;simp only[R]at hy;subst hy;subst e1;simp[Op.equalIn,Jf hk];done)
      |(obtain⟨l,_,_,e1,_⟩:=hy;simp only[R]at hx;subst hx;subst e1;simp[Op.equalIn,Jf hk];done)
      |(obtain⟨l,_,_,e1,_⟩:=hx;simp only[R]at hy;subst hy;subst e1;simp[Op.equalIn,Jf hk];done)
      | (obtain⟨e2,hk⟩:=hk
         first
          |(simp only[R]at hx hy;subst hx;subst hy;simp[Op.equalIn,Jf hk];done)
          |(obtain⟨l,_,e1⟩:=hy;simp only[R]at hx;subst hx;subst e1;simp[Op.equalIn,Jf hk];done)
          |(obtain⟨l,_,e1⟩:=hx;simp only[R]at hy;subst hy;subst e1;simp[Op.equalIn,Jf hk];done)
          | (obtain⟨e3,hk⟩:=hk
             first
              |(simp only[R]at hx hy;subst hx;subst hy;simp[Op.equalIn,Jf hk];done)
              |(obtain⟨_,_,e1,_⟩:=hy;simp only[R]at hx;subst hx;subst e1;simp[Op.equalIn,Jf hk];done)
              |(obtain⟨_,_,e1,_⟩:=hx;simp only[R]at hy;subst hy;subst e1;simp[Op.equalIn,Jf hk];done))))
theorem JcE {k1 k2:List KD}:∀{u1 u2 v1 v2:List V} {b:Bool},u1.length=k1.length->v1.length=k1.length->keqs (k1++k2) (u1++u2) (v1++v2)=some b->
  (keqs k1 u1 v1=some true/\keqs k2 u2 v2=some b)\/(keqs k1 u1 v1=some false/\b=false):=by
 induction k1 with
 | nil=>
   intro u1 u2 v1 v2 b h1 h2 h;have e1:=List.eq_nil_of_length_eq_zero h1;have e2:=List.eq_nil_of_length_eq_zero h2;subst e1;subst e2;exact .inl ⟨rfl,h⟩
 | cons k k1 ih=>
   intro u1 u2 v1 v2 b h1 h2 h
   cases u1 with
   |nil=>simp at h1
   | cons u u1=>
     cases v1 with
     |nil=>simp at h2
     | cons v v1=>
       simp only[List.cons_append,keqs]at h⊢
       cases hk:keq k u v with
       |none=>rw[hk]at h;cases h
       | some t=>
         rw[hk]at h
         cases t with
         |false=>simp at h;exact .inr ⟨rfl,by simpa using h⟩
         |true=>exact ih (by simpa using h1) (by simpa using h2) h
def Jai (D:Nat)(e:TypeId)(n:Nat)(xs ys:Array Value):Nat->Nat->Sem Bool
 |_,0=>pure true
 | i,m+1=>do
   let x<-part e xs (i*n)
   let y<-part e ys (i*n)
   let r<-Op.equalIn D e x y
   if(!r)=true then pure false else Jai D e n xs ys (i+1) m
theorem Jbo {D:Nat}{t e:TypeId}{len n:Nat}{xs ys:Array Value}(ht:P.underlying t=some (.array len e))(hn:szT P e=some n):
  (Op.equalIn (D+1) t (.agg xs) (.agg ys)).run P w=(Jai D e n xs ys 0 len).run P w:=by
 simp only[Op.equalIn,Sem.run_bind,Jf ht,Result.andThen_ok,JQ hn];rw[Std.Legacy.Range.forIn_eq_forIn_range'];simp only[Std.Legacy.Range.size,Nat.sub_zero,Nat.add_sub_cancel,Nat.div_one];clear ht;generalize 0=i
 induction len generalizing i w with
 |zero=>simp[Jai]
 | succ m ih=>
   simp only[List.range'_succ,List.forIn_cons,Jai,Sem.run_bind,Sem.run_ite];generalize (part e xs (i*n)).run P w=r1
   cases r1 with
   | ok a w1=>
     simp only[Result.andThen_ok];generalize (part e ys (i*n)).run P w1=r2
     cases r2 with
     | ok b w2=>
       simp only[Result.andThen_ok];generalize (Op.equalIn D e a b).run P w2=r3
       cases r3 with
       | ok r w3=>
         cases r
         ·simp only[Result.andThen_ok,Bool.not_false,if_true,Sem.run_pure]
         ·simp only[Result.andThen_ok,Bool.not_true,Bool.false_eq_true,if_false,Sem.run_pure];exact ih (i+1)
       |halt x w3=>simp[Result.andThen]
     |halt x w2=>simp[Result.andThen]
   |halt x w1=>simp[Result.andThen]
theorem KP {t:TypeId}{n off:Nat}{xs:Array Value}(h1:J9 P t=some true)(h2:szT P t=some n):(part t xs off).run P w= .ok (.agg (xs.extract off (off+n))) w:=by
 simp[part,kE h1,JQ h2]
theorem Yj {t:TypeId}{off:Nat}{xs:Array Value}{x:Value}(h1:J9 P t=some false)(h2:xs[off]? =some x):(part t xs off).run P w= .ok x w:=by
 simp[part,kE h1,h2]
theorem Q6 {t:TypeId}{d:TypeDesc}(h:P.underlying t=some d)(h1:∀fs,d≠ .struct fs)(h2:∀n e,d≠ .array n e):J9 P t=some false:=by
 simp only[J9,h,Option.map_some]
theorem KQ (xs:Array Value)(off n:Nat):(xs.extract off (off+n)).toList=(xs.toList.drop off).take n:=by
 simp
def Jge (P:Program)(γ:Locs)(ρ:Nat->Value)(d:Nat)(t:TypeId)(ks:List KD):Prop:=
 ∀(D:Nat),d<=D->∀(xs ys:Array Value) (off:Nat) (us vs:List V) (b:Bool) (w:World),us.length=ks.length->vs.length=ks.length->
  RL γ ρ us ((xs.toList.drop off).take ks.length)->RL γ ρ vs ((ys.toList.drop off).take ks.length)->keqs ks us vs=some b->
  ∃x y,(part t xs off).run P w= .ok x w/\(part t ys off).run P w= .ok y w/\(Op.equalIn D t x y).run P w= .ok b w
theorem JaG {d:Nat}(ih:∀t ks,leaves P d t=some ks->Jge P γ ρ d t ks):∀(fs:List Field) (o:Nat) (ks:List KD),QV (leaves P d) fs o=some ks->
  ∀(D:Nat),d<=D->∀(xs ys:Array Value) (us vs:List V) (b:Bool) (w:World),us.length=ks.length->vs.length=ks.length->
   RL γ ρ us ((xs.toList.drop o).take ks.length)->RL γ ρ vs ((ys.toList.drop o).take ks.length)->keqs ks us vs=some b->
   (Op.eqFields D xs ys fs).run P w= .ok b w
 | [],o,ks,h,D,_,xs,ys,us,vs,b,w,h1,h2,_,_,hq=>by
   simp[QV]at h;subst h;have e1:=List.eq_nil_of_length_eq_zero h1;have e2:=List.eq_nil_of_length_eq_zero h2;subst e1;subst e2;simp[keqs]at hq;subst hq;rfl
 | f::fs,o,ks,h,D,hD,xs,ys,us,vs,b,w,h1,h2,hx,hy,hq=>by
   simp only[QV]at h
   split at h
   ·cases h
   ·rename_i hf
    simp only[not_or,ne_eq,Decidable.not_not]at hf
    cases hl:leaves P d f.type with
    |none=>simp[hl]at h
    | some l=>
      cases hr:QV (leaves P d) fs (o+l.length)with
      |none=>simp[hl,hr]at h
      | some r=>
        simp[hl,hr]at h;subst h;simp only[List.length_append]at h1 h2 hx hy;have hx1:=hx.take l.length;have hy1:=hy.take l.length;have hx2:=hx.drop l.length;have hy2:=hy.drop l.length;rw[List.take_take,Nat.min_eq_left (by omega)]at hx1 hy1;rw[List.drop_take,List.drop_drop,Nat.add_sub_cancel_left]at hx2 hy2;rw[<-List.take_append_drop l.length us,<-List.take_append_drop l.length vs]at hq;have l1:(us.take l.length).length=l.length:=by simp;omega
        have l2:(vs.take l.length).length=l.length:=by simp;omega
        rw[Op.eqFields,if_pos hf.1];rcases JcE l1 l2 hq with⟨q1,q2⟩|⟨q1,q2⟩
        ·obtain⟨x,y,e1,e2,e3⟩:=ih _ _ hl D hD xs ys o _ _ true w l1 l2 hx1 hy1 q1;have:=JaG ih fs (o+l.length) r hr D hD xs ys _ _ b w (by simp;omega) (by simp;omega) hx2 hy2 q2;rw[hf.2];simp[e1,e2,e3,this]
        ·obtain⟨x,y,e1,e2,e3⟩:=ih _ _ hl D hD xs ys o _ _ false w l1 l2 hx1 hy1 q1;subst q2;rw[hf.2];simp[e1,e2,e3]
theorem JaH {d:Nat}{e:TypeId}{l:List KD}(ih:Jge P γ ρ d e l){D:Nat}(hD:d<=D){n:Nat}(hn:n=l.length):∀(m i:Nat) (xs ys:Array Value) (us vs:List V) (b:Bool) (w:World),
  us.length=m*n->vs.length=m*n->RL γ ρ us ((xs.toList.drop (i*n)).take (m*n))->RL γ ρ vs ((ys.toList.drop (i*n)).take (m*n))->keqs (List.replicate m l).flatten us vs=some b->
  (Jai D e n xs ys i m).run P w= .ok b w
 | 0,i,xs,ys,us,vs,b,w,h1,h2,_,_,hq=>by
   have e1:=List.eq_nil_of_length_eq_zero (by simpa using h1);have e2:=List.eq_nil_of_length_eq_zero (by simpa using h2);subst e1;subst e2;simp[keqs]at hq;subst hq;rfl
 | m+1,i,xs,ys,us,vs,b,w,h1,h2,hx,hy,hq=>by
   rw[Nat.succ_mul]at h1 h2 hx hy;have hx1:=hx.take n;have hy1:=hy.take n;have hx2:=hx.drop n;have hy2:=hy.drop n;rw[List.take_take,Nat.min_eq_left (by omega)]at hx1 hy1;rw[List.drop_take,List.drop_drop,Nat.add_sub_cancel]at hx2 hy2;rw[<-List.take_append_drop n us,<-List.take_append_drop n vs]at hq;have l1:(us.take n).length=n:=by simp;omega
   have l2:(vs.take n).length=n:=by simp;omega
   simp only[List.replicate_succ,List.flatten_cons]at hq;have hs:i*n+n=(i+1)*n:=by rw[Nat.succ_mul]
   rw[hs]at hx2 hy2;subst hn;rw[Jai];rcases JcE l1 l2 hq with⟨q1,q2⟩|⟨q1,q2⟩
   ·obtain⟨x,y,e1,e2,e3⟩:=ih D hD xs ys (i*l.length) _ _ true w l1 l2 hx1 hy1 q1;have:=JaH ih hD rfl m (i+1) xs ys _ _ b w (by simp;omega) (by simp;omega) hx2 hy2 q2;simp[e1,e2,e3,this]
   ·obtain⟨x,y,e1,e2,e3⟩:=ih D hD xs ys (i*l.length) _ _ false w l1 l2 hx1 hy1 q1;subst q2;simp[e1,e2,e3]
theorem Jmh {k:KD}{us vs:List V}{b:Bool}(h1:us.length=1)(h2:vs.length=1)(h:keqs [k] us vs=some b):∃u v,us=[u]/\vs=[v]/\keq k u v=some b:=by
 cases us with
 |nil=>simp at h1
 | cons u us=>
   cases vs with
   |nil=>simp at h2
   | cons v vs=>
     have e1:=List.eq_nil_of_length_eq_zero (by simpa using h1);have e2:=List.eq_nil_of_length_eq_zero (by simpa using h2);subst e1;subst e2;refine⟨u,v,rfl,rfl, ?_⟩;simp only[keqs]at h
     cases hk:keq k u v with
     |none=>rw[hk]at h;cases h
     |some t=>rw[hk]at h;cases t<;>simpa using h
theorem JaX {d:Nat}{t:TypeId}{k:KD}(hk:KDok P t k)(hg:J9 P t=some false):Jge P γ ρ (d+1) t [k]:=by
 intro D hD xs ys off us vs b w h1 h2 hx hy hq;obtain⟨u,v,e1,e2,e3⟩:=Jmh h1 h2 hq;subst e1;subst e2;obtain⟨x,xs',k1,k2,_⟩:=hx;obtain⟨y,ys',k3,k4,_⟩:=hy;have hx0:xs[off]? =some x:=by
  have:((xs.toList.drop off).take 1)[0]? =some x:=by rw[show([k]:List KD).length=1 from rfl]at k1;rw[k1];rfl
  simpa using this
 have hy0:ys[off]? =some y:=by
  have:((ys.toList.drop off).take 1)[0]? =some y:=by rw[show([k]:List KD).length=1 from rfl]at k3;rw[k3];rfl
  simpa using this
 obtain⟨D',rfl⟩:∃D',D=D'+1:=⟨D-1,by omega⟩
 exact⟨x,y,Yj hg hx0,Yj hg hy0,Jb5 hk e3 k2 k4 D'⟩
theorem jR :∀(d:Nat) (t:TypeId) (ks:List KD),leaves P d t=some ks->Jge P γ ρ d t ks
 |0,t,ks,h=>by simp[leaves]at h
 | d+1,t,ks,h=>by
   simp only[leaves]at h
   split at h
   ·rename_i hu;injection h with h;subst h;exact JaX hu (Q6 hu (fun _ e=>by cases e) (fun _ _ e=>by cases e))
   ·rename_i k hu;injection h with h;subst h;exact JaX ⟨k,hu⟩ (Q6 hu (fun _ e=>by cases e) (fun _ _ e=>by cases e))
   ·rename_i hu;injection h with h;subst h;exact JaX hu (Q6 hu (fun _ e=>by cases e) (fun _ _ e=>by cases e))
   ·rename_i fs hu
    split at h
    ·cases h
    ·rename_i hst
     cases hl:QV (leaves P d) fs.toList 0 with
     |none=>simp[hl]at h
     | some l=>
       simp only[hl]at h
       split at h
       ·rename_i hsz
        injection h with h;subst h;intro D hD xs ys off us vs b w h1 h2 hx hy hq;obtain⟨D',rfl⟩:∃D',D=D'+1:=⟨D-1,by omega⟩
        have hg:J9 P t=some true:=by simp[J9,hu]
        refine⟨_,_,KP hg hsz,KP hg hsz, ?_⟩;have hf:P.fieldsOf t=fs:=by simp[Program.fieldsOf,hu]
        rw[run_equalIn_struct w D' t _ _ (by rw[hf];exact hu) (by simpa using hst),hf];refine JaG (fun t ks h=>jR d t ks h) fs.toList 0 l hl D' (by omega) _ _ us vs b w h1 h2 ?_ ?_ hq
        ·rw[KQ,List.drop_zero,List.take_take,Nat.min_self];exact hx
        ·rw[KQ,List.drop_zero,List.take_take,Nat.min_self];exact hy
       ·cases h
   ·rename_i n e hu
    cases hl:leaves P d e with
    |none=>simp[hl]at h
    | some l=>
      simp only[hl]at h
      split at h
      ·rename_i hsz
       obtain⟨hs1,hs2,_⟩:=hsz;injection h with h;subst h;intro D hD xs ys off us vs b w h1 h2 hx hy hq;obtain⟨D',rfl⟩:∃D',D=D'+1:=⟨D-1,by omega⟩
       have hg:J9 P t=some true:=by simp[J9,hu]
       have hlen:(List.replicate n l).flatten.length=n*l.length:=by simp
       rw[hlen]at h1 h2 hx hy;refine⟨_,_,KP hg hs2,KP hg hs2, ?_⟩;rw[Jbo hu hs1];refine JaH (jR d e l hl) (by omega) rfl n 0 _ _ us vs b w h1 h2 ?_ ?_ hq
       ·rw[KQ,Nat.zero_mul,List.drop_zero,List.take_take,Nat.min_self];exact hx
       ·rw[KQ,Nat.zero_mul,List.drop_zero,List.take_take,Nat.min_self];exact hy
      ·cases h
   ·cases h
theorem JcF {d:Nat}{t:TypeId}{ks:List KD}(h:leaves P d t=some ks)(hg:J9 P t=some true):szT P t=some ks.length:=by
 cases d with
 |zero=>simp[leaves]at h
 | succ d=>
   simp only[leaves]at h
   split at h
   ·rename_i hu;simp[J9,hu]at hg
   ·rename_i k hu;simp[J9,hu]at hg
   ·rename_i hu;simp[J9,hu]at hg
   ·rename_i fs hu
    split at h
    ·cases h
    ·cases hl:QV (leaves P d) fs.toList 0 with
     |none=>simp[hl]at h
     | some l=>
       simp only[hl]at h
       split at h
       ·rename_i hsz;injection h with h;subst h;exact hsz
       ·cases h
   ·rename_i n e hu
    cases hl:leaves P d e with
    |none=>simp[hl]at h
    | some l=>
      simp only[hl]at h
      split at h
      ·rename_i hsz;injection h with h;subst h;simpa using hsz.2.1
      ·cases h
   ·cases h
theorem JeV {t:TypeId}{ks:List KD}{us vs:List V}{xs ys:List Value}{b:Bool}(h:leaves P 8 t=some ks)(hx:RL γ ρ us xs)(hy:RL γ ρ vs ys)(hg:J9 P t=some true)
  (hl1:us.length=ks.length) (hl2:vs.length=ks.length) (hq:keqs ks us vs=some b) (D:Nat) (hD:8<=D):(Op.equalIn D t (.agg xs.toArray) (.agg ys.toArray)).run P w= .ok b w:=by
 have k1:(xs.toArray.toList.drop 0).take ks.length=xs:=by
  rw[List.drop_zero];exact List.take_of_length_le (by simp[hx.length,hl1])
 have k2:(ys.toArray.toList.drop 0).take ks.length=ys:=by
  rw[List.drop_zero];exact List.take_of_length_le (by simp[hy.length,hl2])
 obtain⟨x,y,e1,e2,e3⟩:=jR (γ:=γ) (ρ:=ρ) 8 t ks h D hD xs.toArray ys.toArray 0 us vs b w hl1 hl2 (by rw[k1];exact hx) (by rw[k2];exact hy) hq;have hs:=JcF h hg;rw[KP hg hs]at e1 e2;injection e1 with e1 _;injection e2 with e2 _;have a1:xs.toArray.extract 0 (0+ks.length)=xs.toArray:=by
  apply Array.ext';rw[KQ,k1]
 have a2:ys.toArray.extract 0 (0+ks.length)=ys.toArray:=by
  apply Array.ext';rw[KQ,k2]
 rw[a1]at e1;rw[a2]at e2;rw[<-e1,<-e2]at e3;exact e3
theorem Jgf {t:TypeId}{k:KD}(h:eqk P t=some (.one k)):KDok P t k:=by
 unfold eqk at h
 split at h
 ·rename_i hu;injection h with h;injection h with h;subst h;exact hu
 ·rename_i _ hu;injection h with h;injection h with h;subst h;exact⟨_,hu⟩
 ·rename_i hu;injection h with h;injection h with h;subst h;exact hu
 ·rename_i _ hu;injection h with h;injection h with h;subst h;exact⟨_,hu⟩
 ·rename_i _ hu;injection h with h;injection h with h;subst h;exact⟨_,hu⟩
 ·rename_i _ _ hu;injection h with h;injection h with h;subst h;exact⟨_,_,hu⟩
 ·rename_i _ _ _ hu;injection h with h;injection h with h;subst h;exact⟨_,_,_,hu⟩
 ·split at h
  ·cases h
  ·cases hl:leaves P 8 t with
   |none=>simp[hl]at h
   |some l=>simp[hl]at h
 ·split at h
  ·cases h
  ·cases hl:leaves P 8 t with
   |none=>simp[hl]at h
   |some l=>simp[hl]at h
 ·cases h
theorem Jdu {t:TypeId}{ks:List KD}(h:eqk P t=some (.many ks)):leaves P 8 t=some ks/\J9 P t=some true/\P.eqGuardType P.depth t=false:=by
 unfold eqk at h
 split at h
 ·injection h with h;cases h
 ·injection h with h;cases h
 ·injection h with h;cases h
 ·injection h with h;cases h
 ·injection h with h;cases h
 ·injection h with h;cases h
 ·injection h with h;cases h
 ·rename_i fs hu
  split at h
  ·cases h
  ·rename_i hg
   cases hl:leaves P 8 t with
   |none=>simp[hl]at h
   |some l=>simp[hl]at h;subst h;exact⟨rfl,by simp[J9,hu],by simpa using hg⟩
 ·rename_i n e hu
  split at h
  ·cases h
  ·rename_i hg
   cases hl:leaves P 8 t with
   |none=>simp[hl]at h
   |some l=>simp[hl]at h;subst h;exact⟨rfl,by simp[J9,hu],by simpa using hg⟩
 ·cases h
theorem Jg0 {t:TypeId}{e:EK}{u v:V}{x y:Value}{b:Bool}(he:eqk P t=some e)(h:e.eq u v=some b)(hx:R γ ρ u x)(hy:R γ ρ v y)(D:Nat)(hD:8<=D):
  (Op.equalIn D t x y).run P w= .ok b w:=by
 cases e with
 | one k=>
   obtain⟨D',rfl⟩:∃D',D=D'+1:=⟨D-1,by omega⟩
   exact Jb5 (Jgf he) h hx hy D'
 | many ks=>
   unfold EK.eq at h
   split at h
   ·rename_i heq;cases heq
   ·rename_i heq
    cases heq
    split at h
    ·rename_i hl
     obtain⟨xs,e1,k1⟩:=hx;obtain⟨ys,e2,k2⟩:=hy;subst e1;subst e2;obtain⟨g1,g2,_⟩:=Jdu he;exact JeV g1 k1 k2 g2 hl.1 hl.2 h D hD
    ·cases h
   ·cases h
theorem qA {t:TypeId}{e:EK}{u v:V}{x y:Value}{b:Bool}(he:eqk P t=some e)(h:e.eq u v=some b)(hx:R γ ρ u x)(hy:R γ ρ v y):
  (Op.equal t x y).run P w= .ok b w:=Jg0 he h hx hy Op.maxDepth (by decide)
end
section
variable {P : Program} {γ : Locs} {ρ : Nat -> Value} {base : Bs} {st : St} {c : Pt -> Row} {w : World} {fr : Fr} {a : Act}
theorem JoT {op:BinOp}{neg:Bool}(hop:(op= .eql/\neg=false)\/(op= .neq/\neg=true)){t:TypeId}{k:KD}{u v:V}{x y:Value}{b:Bool}(he:KDok P t k)(h:keq k u v=some b)(hx:R γ ρ u x)(hy:R γ ρ v y)(xo yo:Operand):
  ((do eqGuard op t xo yo x y;binOp op t x y):Sem Value).run P w= .ok (.bool (b !=neg)) w:=by
 have hq:(Op.equal t x y).run P w= .ok b w:=Jb5 he h hx hy 9999;have general:(op= .eql->binOp op t x y=(do pure (.bool (<-Op.equal t x y))))->(op= .neq->binOp op t x y=(do pure (.bool (!(<-Op.equal t x y)))))->(eqGuard op t xo yo x y).run P w= .ok () w->
   ((do eqGuard op t xo yo x y;binOp op t x y):Sem Value).run P w= .ok (.bool (b !=neg)) w:=by
  intro h1 h1' h2;rcases hop with⟨e1,e2⟩|⟨e1,e2⟩
  ·rw[h1 e1];subst e2;simp[h2,hq]
  ·rw[h1' e1];subst e2;simp[h2,hq]
 unfold keq at h
 split at h
 ·simp only[R]at hx hy;subst hx;subst hy;rcases hop with⟨e1,e2⟩|⟨e1,e2⟩<;>subst e1<;>subst e2<;>exact general (fun e=>by(first|rfl|(cases e))) (fun e=>by(first|rfl|(cases e))) rfl
 ·split at h
  ·simp only[Option.some.injEq]at h;subst h;simp only[R]at hx hy;subst hx;subst hy
   rename_i hkk;subst hkk
   rcases hop with⟨e1,e2⟩|⟨e1,e2⟩<;>subst e1<;>subst e2<;>simp[eqGuard,binOp,Op.intCmp,bne]
  ·cases h
 ·simp only[Option.some.injEq]at h;subst h;obtain⟨x',e1,e2,e3⟩:=hx;obtain⟨y',e4,e5,e6⟩:=hy;subst e1;subst e4;rw[<-Jja e2 e3 e5 e6];rcases hop with⟨e1,e2⟩|⟨e1,e2⟩<;>subst e1<;>subst e2<;>simp[eqGuard,binOp,Op.stringOp]
 all_goals first
  |(cases h;done)
  | (split at h
     ·simp only[Option.some.injEq]at h;subst h
      rename_i hkk
      obtain⟨hkk,hne⟩:=hkk;obtain⟨z,e1,e2,e3,e4⟩:=hx;simp only[R]at hy;subst e1;subst hy;subst hkk;have hzb:=Jp1 e4 hne;rcases hop with⟨e1,e2⟩|⟨e1,e2⟩<;>subst e1<;>subst e2<;>simp[eqGuard,binOp,Op.intCmp,bne,hzb]
     ·cases h)
  | ((first
      |(simp only[R]at hx hy;subst hx;subst hy)
      |(obtain⟨_,_,e1⟩:=hy;simp only[R]at hx;subst hx;subst e1)
      |(obtain⟨_,_,e1⟩:=hx;simp only[R]at hy;subst hy;subst e1)
      |(obtain⟨_,_,_,_,e1,_⟩:=hy;simp only[R]at hx;subst hx;subst e1)
      |(obtain⟨_,_,_,_,e1,_⟩:=hx;simp only[R]at hy;subst hy;subst e1)
      |(obtain⟨_,_,_,e1,_⟩:=hy;simp only[R]at hx;subst hx;subst e1)
      |(obtain⟨_,_,_,e1,_⟩:=hx;simp only[R]at hy;subst hy;subst e1)
      |(obtain⟨_,_,e1,_⟩:=hy;simp only[R]at hx;subst hx;subst e1)
      |(obtain⟨_,_,e1,_⟩:=hx;simp only[R]at hy;subst hy;subst e1))
     rcases hop with⟨e1,e2⟩|⟨e1,e2⟩<;>subst e1<;>subst e2<;>exact general (fun e=>by(first|rfl|(cases e))) (fun e=>by(first|rfl|(cases e))) rfl)
theorem Jp2 {op:BinOp}{neg:Bool}(hop:(op= .eql/\neg=false)\/(op= .neq/\neg=true)){t:TypeId}{e:EK}{u v:V}{x y:Value}{b:Bool}(he:eqk P t=some e)(h:e.eq u v=some b)(hx:R γ ρ u x)(hy:R γ ρ v y)(hrel:Rel γ ρ base c w)(xo yo:Operand):
  OpOK P γ ρ base st c w (.bool (b !=neg)) .no (do pure (.value (<-(do eqGuard op t xo yo x y;binOp op t x y)))):=by
 refine OpOK.pure hrel (y:= .bool (b !=neg)) ?_ (by simp[R]);rw[Sem.run_bind];have:((do eqGuard op t xo yo x y;binOp op t x y):Sem Value).run P w= .ok (.bool (b !=neg)) w:=by
  cases e with
  |one k=>exact JoT hop (Jgf he) h hx hy xo yo
  | many ks=>
    have hq:(Op.equal t x y).run P w= .ok b w:=qA he h hx hy;obtain⟨_,_,hg⟩:=Jdu he;unfold EK.eq at h
    split at h
    ·rename_i heq;cases heq
    ·obtain⟨xs,e1,k1⟩:=hx;obtain⟨ys,e2,k2⟩:=hy;subst e1;subst e2;have hgd:=run_eqGuard_agg (P:=P) w op t xo yo xs.toArray ys.toArray hg;rcases hop with⟨e1,e2⟩|⟨e1,e2⟩<;>subst e1<;>subst e2
     ·rw[Sem.run_bind,hgd];show Sem.run P (do pure (Value.bool (<-Op.equal t _ _))) w=_;simp[hq]
     ·rw[Sem.run_bind,hgd];show Sem.run P (do pure (Value.bool (!(<-Op.equal t _ _)))) w=_;simp[hq]
    ·cases h
 rw[this];rfl
end
section
variable {P : Program} {γ : Locs} {ρ : Nat -> Value} {base : Bs} {st : St} {c : Pt -> Row} {w : World} {fr : Fr} {a : Act}
theorem Jaj {k:IntKind}{n:Int}(h0:0<=n)(h1:n<=k.max):(BitVec.ofInt k.bits n).toNat=n.toNat/\n.toNat<2^k.bits:=by
 obtain⟨m,rfl⟩:=Int.eq_ofNat_of_zero_le h0;have hm:m<2^k.bits:=by
  cases k<;>simp[IntKind.max,IntKind.bits,IntKind.signed]at h1⊢<;>omega
 simp only[BitVec.toNat_ofInt,Int.toNat_natCast];constructor
 ·have:((m:Int)%((2^k.bits:Nat):Int))=(m:Int):=Int.emod_eq_of_lt (by omega) (by exact_mod_cast hm);rw[this];rfl
 ·exact hm
theorem Jdv {k:IntKind}{m:Nat}(h:(m:Int)<=k.max):k.wrap (m:Int)=m:=by
 cases k<;>simp[IntKind.max,IntKind.bits,IntKind.signed]at h<;>simp[IntKind.wrap,IntKind.bits,IntKind.signed]<;>omega
theorem JqT {k:IntKind}{x y:Int}(h1:0<=x)(h2:x<=k.max):((x.toNat&&&y.toNat:Nat):Int)<=k.max:=by
 have:= @Nat.and_le_left x.toNat y.toNat;omega
theorem JrT {k:IntKind}{x y:Int}(h1:0<=x)(h2:x<=k.max)(h3:0<=y)(h4:y<=k.max):((x.toNat|||y.toNat:Nat):Int)<=k.max:=by
 have hk:∃m,(k.max:Int)=2^m-1:=by
  cases k<;>simp[IntKind.max,IntKind.bits,IntKind.signed]<;>first|exact⟨7,rfl⟩|exact⟨15,rfl⟩|exact⟨31,rfl⟩|exact⟨63,rfl⟩|exact⟨8,rfl⟩|exact⟨16,rfl⟩|exact⟨32,rfl⟩|exact⟨64,rfl⟩
 obtain⟨m,hm⟩:=hk;have e:((2:Int)^m)=((2^m:Nat):Int):=by simp
 rw[e]at hm;have key:= @Nat.or_lt_two_pow x.toNat y.toNat m;generalize 2^m=N at hm key;have:=key (by omega) (by omega);omega
theorem JqU {c m:Nat}{n k:Int}(hm:m≠0)(h64:2^64%m=0)(h:n%(m:Int)=c):(IntKind.i64.wrap (n+k))%(m:Int)=((((c:Int)+k)%(m:Int)).toNat:Int):=by
 have h0:0<=((c:Int)+k)%(m:Int):=Int.emod_nonneg _ (by omega);rw[Int.toNat_of_nonneg h0];obtain⟨q,hq⟩:∃q:Int,IntKind.i64.wrap (n+k)=n+k+q*2^64:=by
  simp only[IntKind.wrap,IntKind.bits,IntKind.signed,Bool.true_and]
  split
  ·exact⟨-((n+k)/2^64)-1,by omega⟩
  ·exact⟨-((n+k)/2^64),by omega⟩
 obtain⟨d,hd⟩:=Nat.dvd_of_mod_eq_zero h64;have e:((2:Int)^64)=(m:Int)*(d:Int):=by exact_mod_cast hd
 have hn:n=c+(m:Int)*(n/(m:Int)):=by
  have:=Int.emod_add_mul_ediv n (m:Int);rw[h]at this;exact this.symm
 rw[hq,e];have:n+k+q*((m:Int)*(d:Int))=(c:Int)+k+(m:Int)*(n/(m:Int)+q*d):=by
  rw[Int.mul_add,<-Int.mul_assoc q,Int.mul_comm q,Int.mul_assoc];omega
 rw[this,Int.add_mul_emod_self_left]
theorem Jjb {op:BinOp}(hne:op≠ .eql/\op≠ .neq)(t:TypeId)(xo yo:Operand)(x y:Value):(eqGuard op t xo yo x y).run P w= .ok () w:=by
 cases op<;>first|rfl|exact absurd rfl hne.1|exact absurd rfl hne.2
theorem JlG {op:BinOp}(hne:op≠ .eql/\op≠ .neq){k k':IntKind}{m n:Int}{r:V}(h:arith op (.int k m) (.int k' n)=some r)(t:TypeId):
  ∃z,(binOp op t (.int k m) (.int k' n)).run P w= .ok z w/\R γ ρ r z:=by
 unfold arith at h;simp only[]at h
 cases op with
 |eql=>exact absurd rfl hne.1
 |neq=>exact absurd rfl hne.2
 |xor=>simp only[]at h;split at h<;>cases h
 |andNot=>simp only[]at h;split at h<;>cases h
 | shl=>
   simp only[]at h
   split at h
   ·cases h
   ·rename_i hn;injection h with h;subst h;exact⟨_,by simp only[binOp,Op.shift,if_neg hn];rfl,rfl⟩
 | shr=>
   simp only[]at h
   split at h
   ·cases h
   ·rename_i hn;injection h with h;subst h;exact⟨_,by simp only[binOp,Op.shift,if_neg hn];rfl,rfl⟩
 | add=>
   simp only[]at h
   split at h
   ·cases h
   ·rename_i hk
    have hk':k=k':=by simpa using hk
    subst hk';injection h with h;subst h;exact⟨_,by simp only[binOp,ne_eq,not_true_eq_false,if_false,Op.intArith];rfl,rfl⟩
 | sub=>
   simp only[]at h
   split at h
   ·cases h
   ·rename_i hk
    have hk':k=k':=by simpa using hk
    subst hk';injection h with h;subst h;exact⟨_,by simp only[binOp,ne_eq,not_true_eq_false,if_false,Op.intArith];rfl,rfl⟩
 | mul=>
   simp only[]at h
   split at h
   ·cases h
   ·rename_i hk
    have hk':k=k':=by simpa using hk
    subst hk';injection h with h;subst h;exact⟨_,by simp only[binOp,ne_eq,not_true_eq_false,if_false,Op.intArith];rfl,rfl⟩
 | quo=>
   simp only[]at h
   split at h
   ·cases h
   ·rename_i hk
    have hk':k=k':=by simpa using hk
    subst hk'
    split at h
    ·cases h
    ·rename_i hn
     injection h with h;subst h;exact⟨_,by simp only[binOp,ne_eq,not_true_eq_false,if_false,Op.intDiv,if_neg hn];rfl,rfl⟩
 | rem=>
   simp only[]at h
   split at h
   ·cases h
   ·rename_i hk
    have hk':k=k':=by simpa using hk
    subst hk'
    split at h
    ·cases h
    ·rename_i hn
     injection h with h;subst h;exact⟨_,by simp only[binOp,ne_eq,not_true_eq_false,if_false,Op.intDiv,if_neg hn];rfl,rfl⟩
 | and=>
   simp only[]at h
   split at h
   ·cases h
   ·rename_i hk
    have hk':k=k':=by simpa using hk
    subst hk'
    split at h
    ·rename_i hn
     obtain⟨h0,h1,h2,h3⟩:=hn;injection h with h;subst h;refine⟨_, ?_,rfl⟩;simp only[binOp,ne_eq,not_true_eq_false,if_false,Op.intBits,BitVec.toNat_and,(Jaj h0 h1).1,(Jaj h2 h3).1];rw[Jdv (JqT h0 h1)];rfl
    ·cases h
 | or=>
   simp only[]at h
   split at h
   ·cases h
   ·rename_i hk
    have hk':k=k':=by simpa using hk
    subst hk'
    split at h
    ·rename_i hn
     obtain⟨h0,h1,h2,h3⟩:=hn;injection h with h;subst h;refine⟨_, ?_,rfl⟩;simp only[binOp,ne_eq,not_true_eq_false,if_false,Op.intBits,BitVec.toNat_or,(Jaj h0 h1).1,(Jaj h2 h3).1];rw[Jdv (JrT h0 h1 h2 h3)];rfl
    ·cases h
 | lss=>
   simp only[]at h
   split at h
   ·cases h
   ·rename_i hk
    have hk':k=k':=by simpa using hk
    subst hk';injection h with h;subst h;exact⟨_,by simp only[binOp,ne_eq,not_true_eq_false,if_false,Op.intCmp];rfl,rfl⟩
 | leq=>
   simp only[]at h
   split at h
   ·cases h
   ·rename_i hk
    have hk':k=k':=by simpa using hk
    subst hk';injection h with h;subst h;exact⟨_,by simp only[binOp,ne_eq,not_true_eq_false,if_false,Op.intCmp];rfl,rfl⟩
 | gtr=>
   simp only[]at h
   split at h
   ·cases h
   ·rename_i hk
    have hk':k=k':=by simpa using hk
    subst hk';injection h with h;subst h;exact⟨_,by simp only[binOp,ne_eq,not_true_eq_false,if_false,Op.intCmp];rfl,rfl⟩
 | geq=>
   simp only[]at h
   split at h
   ·cases h
   ·rename_i hk
    have hk':k=k':=by simpa using hk
    subst hk';injection h with h;subst h;exact⟨_,by simp only[binOp,ne_eq,not_true_eq_false,if_false,Op.intCmp];rfl,rfl⟩
theorem JoU {c m b z:Int}(hm:m%b=0)(hz:z%m=c)(hc:c%b=0):z.tmod b=0:=by
 apply Int.tmod_eq_zero_of_dvd;apply Int.dvd_of_emod_eq_zero;rw[<-hz,Int.emod_emod_of_dvd _ (Int.dvd_of_emod_eq_zero hm)]at hc;exact hc
theorem JoV {c m b z:Int}(hm:m%b=0)(hz:z%m=c):z.tmod b%b=c%b:=by
 rw[<-hz,Int.emod_emod_of_dvd _ (Int.dvd_of_emod_eq_zero hm),Int.tmod_def,Int.sub_mul_emod_self_left]
theorem JoW {m:Nat}{b:Int}(hb:0<b)(hm:(m:Int)%b=0)(h64:2^64%m=0):2^64%b.toNat=0:=by
 apply Nat.mod_eq_zero_of_dvd;have h1:b.toNat∣m:=by
  have h:=Int.dvd_of_emod_eq_zero hm;rw[<-Int.toNat_of_nonneg (Int.le_of_lt hb)]at h;exact Int.natCast_dvd_natCast.1 h
 exact Nat.dvd_trans h1 (Nat.dvd_of_mod_eq_zero h64)
theorem Jmi {op:BinOp}{q m:Nat}{n z:Int}{r:V}(h:arith op (.im q m) (.int .i64 n)=some r)(hm:m≠0)(h64:2^64%m=0)(hz:z%(m:Int)=q)(t:TypeId):
  ∃x,(binOp op t (.int .i64 z) (.int .i64 n)).run P w= .ok x w/\R γ ρ r x:=by
 unfold arith at h
 cases op<;>simp only[]at h<;>first|(cases h;done)|skip
 split at h
 ·cases h
 ·injection h with h;subst h;exact⟨_,by simp only[binOp,ne_eq,not_true_eq_false,if_false,Op.intArith];rfl,_,rfl,hm,h64,JqU hm h64 hz⟩
 ·split at h
  ·cases h
  ·rename_i hb
   have hb1:0<n:=by omega
   have hb2:(m:Int)%n=0:=by omega
   have hn:¬n=0:=by omega
   split at h
   ·rename_i h0
    injection h with h;subst h;exact⟨.int .i64 (z.tmod n),by simp only[binOp,ne_eq,not_true_eq_false,if_false,Op.intDiv,if_neg hn];rfl,by simp only[R];rw[JoU hb2 hz h0]⟩
   ·injection h with h;subst h;refine⟨.int .i64 (z.tmod n),by simp only[binOp,ne_eq,not_true_eq_false,if_false,Op.intDiv,if_neg hn];rfl,z.tmod n,rfl,by omega,JoW hb1 hb2 h64, ?_⟩;rw[Int.toNat_of_nonneg (Int.le_of_lt hb1),JoV hb2 hz,Int.toNat_of_nonneg (Int.emod_nonneg _ hn)]
theorem JlH {op:BinOp}{n s n' s':Nat}{x y:ByteArray}{r:V}(h:arith op (.str n s) (.str n' s')=some r)(e2:x.data.toList.length=n)(e3:snum x.data.toList=s)(e5:y.data.toList.length=n')
  (e6:snum y.data.toList=s') (t:TypeId):∃z,(binOp op t (.string x) (.string y)).run P w= .ok z w/\R γ ρ r z:=by
 have hless:qB n s n' s'=Op.bytesLess x.toList y.toList:=by
  rw[ByteArray.toList_eq,ByteArray.toList_eq,<-qC,e2,e3,e5,e6]
 have heq:=Jja e2 e3 e5 e6;unfold arith at h
 cases op<;>simp only[]at h<;>first|(cases h;done)|skip
 ·split at h
  ·rename_i hlt
   injection h with h;subst h;refine⟨.string (x++y), ?_,x++y,rfl, ?_, ?_⟩
   ·have hs:¬((x.size+y.size:Nat):Int)>IntKind.i64.max:=by
     have h1:x.size=n:=by rw[<-e2];exact(Array.length_toList ..).symm
     have h2:y.size=n':=by rw[<-e5];exact(Array.length_toList ..).symm
     simp only[IntKind.max,IntKind.signed,IntKind.bits,if_true];omega
    simp only[binOp,Op.stringOp];rw[if_neg hs];rfl
   ·rw[ByteArray.data_append,Array.toList_append,List.length_append,e2,e5]
   ·rw[ByteArray.data_append,Array.toList_append,<-Jj2,e2,e3,e6]
  ·cases h
 ·injection h with h;subst h;exact⟨_,by simp only[binOp,Op.stringOp];rfl,by rw[hless];rfl⟩
 ·injection h with h;subst h;exact⟨_,by simp only[binOp,Op.stringOp];rfl,by rw[hless,<-heq];rfl⟩
 ·injection h with h;subst h;exact⟨_,by simp only[binOp,Op.stringOp];rfl,by rw[hless,<-heq];rfl⟩
 ·injection h with h;subst h;exact⟨_,by simp only[binOp,Op.stringOp];rfl,by rw[hless];rfl⟩
theorem Jmj {op:BinOp}{u v r:V}{x y:Value}(h:arith op u v=some r)(hx:R γ ρ u x)(hy:R γ ρ v y)(hrel:Rel γ ρ base c w)(t:TypeId)(xo yo:Operand)(hne:op≠ .eql/\op≠ .neq):
  OpOK P γ ρ base st c w r .no (do pure (.value (<-(do eqGuard op t xo yo x y;binOp op t x y)))):=by
 suffices h':∃z,(binOp op t x y).run P w= .ok z w/\R γ ρ r z by
  obtain⟨z,h1,h2⟩:=h';refine OpOK.pure hrel (y:=z) ?_ h2;simp[Jjb hne,h1]
 have h0:=h;unfold arith at h0
 split at h0
 ·simp only[R]at hx hy;subst hx;subst hy;exact JlG hne h t
 ·obtain⟨z,e1,e2,e3,e4⟩:=hx;simp only[R]at hy;subst e1;subst hy;exact Jmi h e2 e3 e4 t
 ·obtain⟨x',e1,e2,e3⟩:=hx;obtain⟨y',e4,e5,e6⟩:=hy;subst e1;subst e4;exact JlH h e2 e3 e5 e6 t
 ·cases h0
end
section
variable {P : Program} {γ : Locs} {ρ : Nat -> Value} {base : Bs} {st : St} {c : Pt -> Row} {w : World} {fr : Fr} {a : Act}
theorem JqV {b:Bool}{x:Value}(hx:R γ ρ (.bool b) x)(hrel:Rel γ ρ base c w):OpOK P γ ρ base st c w (.bool !b) .no (do pure (.value (<-Op.unary .not x))):=by
 simp only[R]at hx;subst hx;exact OpOK.pure hrel (y:= .bool !b) (by simp[Op.unary]) rfl
theorem JqW {k:IntKind}{n:Int}{x:Value}(hx:R γ ρ (.int k n) x)(hrel:Rel γ ρ base c w):OpOK P γ ρ base st c w (.int k (k.wrap (0-n))) .no (do pure (.value (<-Op.unary .neg x))):=by
 simp only[R]at hx;subst hx;exact OpOK.pure hrel (y:= .int k (k.wrap (0-n))) (by simp[Op.unary,Op.intArith]) rfl
theorem Jmk {s d:TypeId}{ks k:IntKind}{k':IntKind}{n:Int}{x:Value}(h1:P.underlying s=some (.int ks))(h2:P.underlying d=some (.int k))(hx:R γ ρ (.int k' n) x)(hrel:Rel γ ρ base c w):
  OpOK P γ ρ base st c w (.int k (k.wrap n)) .no (do pure (.value (<-convert s d x))):=by
 simp only[R]at hx;subst hx;exact OpOK.pure hrel (y:= .int k (k.wrap n)) (by simp[convert,Jf h1,Jf h2,Conv.intToInt]) rfl
theorem Jml {s d:TypeId}{n v:Nat}{x:Value}(h1:P.underlying s=some .string)(h2:P.underlying d=some .string)(hx:R γ ρ (.str n v) x)(hrel:Rel γ ρ base c w):
  OpOK P γ ρ base st c w (.str n v) .no (do pure (.value (<-convert s d x))):=by
 have hx':=hx;obtain⟨y,e,_⟩:=hx';subst e;exact OpOK.pure hrel (y:= .string y) (by simp[convert,Jf h1,Jf h2]) hx
theorem Jdw (hrel:Rel γ ρ base c w){v:V}{x:Value}(hx:R γ ρ v x)(hc:∀r,rowOf v=some r->γ r≠none->st.row r≠ .none->c r=st.row r){z n:Nat}{l:List V}(h:JL st z n v=some l):
  l.length=n*z/\((n=0/\l=[]/\∃m cp,x= .slice none m cp)\/∃ad m cp ys,x= .slice (some ad) m cp/\RL γ ρ l ys/\(loadCells ad (n*z)).run P w= .ok ys.toArray w):=by
 have two:∀(r:Pt) (o m cp:Nat) (ad:Addr) (lo:Loc),γ r=some lo->x= .slice (some ad) m cp->n<=m->m<=cp->(cp≠0->ad=⟨lo.b,lo.o+o,none⟩)->rowOf v=some r->KG st (n*z) (.ptr r o)=some l->
   l.length=n*z/\∃ad m cp ys,x= .slice (some ad) m cp/\RL γ ρ l ys/\(loadCells ad (n*z)).run P w= .ok ys.toArray w:=by
  intro r o m cp ad lo h1 h2 h3 h4 h5 h6 h7;have hlen:l.length=n*z:=by
   unfold KG at h7;simp only[]at h7
   split at h7
   ·split at h7
    ·injection h7 with h7;subst h7;simp;omega
    ·cases h7
   ·split at h7
    ·injection h7 with h7;subst h7;simp;omega
    ·cases h7
   ·cases h7
  refine⟨hlen,ad,m,cp, ?_⟩;by_cases h0:cp=0
  ·have hn:n=0:=by omega
   subst hn;have:l=[]:=List.eq_nil_of_length_eq_zero (by omega);subst this;exact⟨[],h2,by simp[RL],by simp[loadCells,loadCellsFrom]⟩
  ·obtain⟨ad',ys,e1,e2,e3⟩:=YU (P:=P) hrel (v:= .ptr r o) (x:= .pointer (some ⟨lo.b,lo.o+o,none⟩)) ⟨lo,h1,rfl⟩ (fun q hq=>hc q (by rw[h6];exact hq)) h7;injection e1 with e1;injection e1 with e1;rw[<-e1,<-h5 h0]at e3;exact⟨ys,h2,e2,e3⟩
 unfold JL at h
 split at h
 ·split at h
  ·rename_i hn
   injection h with h;subst h;subst hn;simp only[R]at hx;exact⟨by simp, .inl ⟨rfl,rfl,_,_,hx⟩⟩
  ·cases h
 ·rename_i r o m z'
  split at h
  ·rename_i hcond
   obtain⟨lo,ad,cp,k1,k2,k3,k4,_⟩:=hx;obtain⟨e1,e2⟩:=two r o m cp ad lo k1 k2 hcond.1 k3 k4 rfl h;exact⟨e1, .inr e2⟩
  ·cases h
 ·rename_i r o m z' cp
  split at h
  ·rename_i hcond
   obtain⟨lo,ad,k1,k2,k3,k4,_⟩:=hx;obtain⟨e1,e2⟩:=two r o m cp ad lo k1 k2 hcond.1 k3 k4 rfl h;exact⟨e1, .inr e2⟩
  ·cases h
 ·cases h
theorem YE {v:V}{x:Value}{n:Nat}(h:slen v=some n)(hx:R γ ρ v x):∃ad cp,x= .slice ad n cp:=by
 unfold slen at h
 split at h
 ·injection h with h;subst h;simp only[R]at hx;exact⟨_,_,hx⟩
 ·injection h with h;subst h;obtain⟨l,a,cp,_,k,_⟩:=hx;exact⟨_,_,k⟩
 ·injection h with h;subst h;obtain⟨l,a,_,k,_⟩:=hx;exact⟨_,_,k⟩
 ·cases h
theorem Jdx :∀{l:List V} {ys:List Value} {v:Nat},Qg l=some v->RL γ ρ l ys->∃bs:List UInt8,ys=bs.map (fun b=>Value.int .u8 b.toNat)/\bs.length=l.length/\snum bs=v
 |[],ys,v,h,hy=>by simp only[RL]at hy;subst hy;simp[Qg]at h;exact⟨[],rfl,rfl,h⟩
 | u::l,ys,v,h,⟨y,ys',e1,e2,e3⟩=>by
   subst e1;unfold Qg at h
   split at h
   ·rename_i heq;cases heq
   ·rename_i n r heq
    injection heq with q1 q2;subst q1;subst q2
    split at h
    ·rename_i hn
     cases hr:Qg l with
     |none=>simp[hr]at h
     | some s=>
       simp[hr]at h;obtain⟨bs,f1,f2,f3⟩:=Jdx hr e3;simp only[R]at e2;have hlt:n.toNat<256:=by omega
       refine⟨UInt8.ofNat n.toNat::bs, ?_,by simp[f2], ?_⟩
       ·rw[f1,e2];simp only[List.map_cons,List.cons.injEq,and_true];rw[UInt8.toNat_ofNat_of_lt' (by simpa using hlt),Int.toNat_of_nonneg hn.1]
       ·simp only[snum,f3];rw[UInt8.toNat_ofNat_of_lt' (by simpa using hlt)];exact h
    ·cases h
   ·cases h
theorem Jbp {ad:Addr}{m cp:Nat}{bs:List UInt8}(h:(loadCells ad m).run P w= .ok (bs.map (fun b=>Value.int .u8 b.toNat)).toArray w):
  (Conv.bytesToString (.slice (some ad) m cp)).run P w= .ok (.string ⟨bs.toArray⟩) w:=by
 have loop:∀(bs:List UInt8) (s:ByteArray) (w:World),(forIn (bs.map (fun b=>Value.int .u8 b.toNat)) s fun(c:Value) (s:ByteArray)=>
   (match c with
    | .int .u8 n=>pure (ForInStep.yield (s.push (UInt8.ofNat n.toNat)))
    | _ => (stuck "bytesToString: byte expected" : Sem PUnit) >>= fun _ => pure (ForInStep.yield s) : Sem (ForInStep ByteArray))).run P w = .ok ⟨s.data ++ bs.toArray⟩ w := by
  intro bs
  induction bs with
  |nil=>intro s w;simp
  | cons b bs ih=>
    intro s w;simp only[List.map_cons,List.forIn_cons,Sem.run_bind,Sem.run_pure,Result.andThen_ok];rw[ih];congr 2;simp[ByteArray.push]
 have hl:=loop bs .empty w;simp only[Conv.bytesToString,Sem.run_bind,h,Result.andThen_ok,<-Array.forIn_toList];have e:(⟨ByteArray.empty.data++bs.toArray⟩:ByteArray)=⟨bs.toArray⟩:=by
  show(⟨#[]++bs.toArray⟩:ByteArray)=_;rw[Array.empty_append]
 rw[e]at hl;exact congrArg (fun r=>Result.andThen r fun(s:ByteArray) w'=>(pure (Value.string s):Sem Value).run P w') hl
end
section
variable {P : Program} {γ : Locs} {ρ : Nat -> Value} {base : Bs} {st : St} {c : Pt -> Row} {w : World} {fr : Fr} {a : Act}
theorem JqX {s d e:TypeId}{n v:Nat}{u:V}{x:Value}{l:List V}(h1:P.underlying s=some (.slice e))(h2:P.underlying d=some .string)(h3:P.underlying e=some (.int .u8))
  (hx:R γ ρ u x) (hc:∀r,rowOf u=some r->γ r≠none->st.row r≠ .none->c r=st.row r) (hrel:Rel γ ρ base c w) (hn:slen u=some n) (hl:JL st 1 n u=some l) (hv:Qg l=some v):
  OpOK P γ ρ base st c w (.str n v) .no (do pure (.value (<-convert s d x))):=by
 obtain⟨k1,k2⟩:=Jdw (P:=P) hrel hx hc hl;obtain⟨ad0,cp0,k3⟩:=YE hn hx;rcases k2 with⟨e1,e2,m,cp,e3⟩|⟨ad,m,cp,ys,e3,e4,e5⟩
 ·subst e3;subst e2;subst e1;simp[Qg]at hv;subst hv;exact OpOK.pure hrel (y:= .string .empty) (by simp[convert,Jf h1,Jf h2,Jf h3,Conv.bytesToString]) ⟨.empty,rfl,rfl,rfl⟩
 ·rw[e3]at k3;injection k3 with q1 q2 q3;subst q2;obtain⟨bs,f1,f2,f3⟩:=Jdx hv e4;subst f1;rw[Nat.mul_one]at e5;have hb:=Jbp (P:=P) (cp:=cp) e5;subst e3;refine OpOK.pure hrel (y:= .string ⟨bs.toArray⟩) ?_ ⟨_,rfl,by simp[f2,k1],by simpa using f3⟩;simp[convert,Jf h1,Jf h2,Jf h3,hb]
theorem JoX {f:Nat}{p q:Array Operand}{ps qs:List Opd}(hp:opds p=some ps)(hq:opds q=some qs)(hfr:FR γ ρ fr a)(hrel:Rel γ ρ base c w):
  OpOK P γ ρ base st c w (.fn f (evs fr ps) (evs fr qs)) .no (do pure (.value (<-Instr.makeFunc (.func f) (p.map a.eval) (q.map a.eval)))):=
 OpOK.pure hrel (y:= .func (.func f) (p.map a.eval) (q.map a.eval)) (by simp[Instr.makeFunc]) ⟨(p.map a.eval).toList,(q.map a.eval).toList,by simp only[Array.toArray_toList],Jdr hp hfr,Jdr hq hfr⟩
theorem Yk (o:Obj):(w.alloc o).heap[w.heap.size]? =some o:=by
 show(w.heap.push _)[w.heap.size]? =_;simp
theorem Jmm {t:TypeId}(hrel:Rel γ ρ base c w)(hnx:γ st.nx=none):OpOK P γ ρ base st c w (.map st.nx) (.new fun t=> .mob t []) (do pure (.value (<-Instr.makeMap t none))):=by
 refine OpOK.made (o:= .map #[] 0) (e:=1) (w':=w.alloc (.map #[] 0)) hrel hnx ⟨w.drawn,rfl⟩ (y:= .map (some w.heap.size)) ?_ ⟨_,Jp _ _ _,rfl⟩ ?_ (fun _=>by decide)
 ·simp[Instr.makeMap]
 ·exact⟨#[],Yk _,rfl,fun i k v h=>by simp at h⟩
theorem qE {v:V}{n:Nat}{x:Value}(h:KE v=some n)(hx:R γ ρ v x):∃k,x= .int k (n:Int):=by
 unfold KE at h
 split at h
 ·split at h
  ·rename_i hn
   injection h with h;subst h;simp only[R]at hx;exact⟨_,by rw[hx,Int.toNat_of_nonneg hn]⟩
  ·cases h
 ·cases h
theorem jS {n:Nat}(h:n<2^20):IntKind.i64.wrap (n:Int)=n:=Jdv (by simp only[IntKind.max,IntKind.signed,IntKind.bits,if_true];omega)
theorem JoY {t e:TypeId}{i:TypeInfo}{zs:List V}{n cp:Nat}{x y:Value}{u v:V}(h1:P.underlying t=some (.slice e))(h2:P.info? e=some i)(h3:KI P e=some zs)(h4:i.bytes<=65536)
  (hx:R γ ρ u x) (hy:R γ ρ v y) (hn:KE u=some n) (hcp:KE v=some cp) (hle:n<=cp) (hlt:cp<2^20) (hz:zs.length=i.size) (hrel:Rel γ ρ base c w) (hnx:γ st.nx=none):
  OpOK P γ ρ base st c w (.slx st.nx 0 n i.size cp) (.new fun t=> .cells t (List.replicate cp zs).flatten) (do pure (.value (<-Instr.makeSlice t x y))):=by
 obtain⟨k1,e1⟩:=qE hn hx;obtain⟨k2,e2⟩:=qE hcp hy;subst e1;subst e2;obtain⟨zv,hzr,hr⟩:=KY (ρ:=ρ) h3;have hzs:zv.cells.size=i.size:=by have:=(hr γ).length;simpa[hz]using this
 have hsz:szT P e=some i.size:=by simp[szT,h2]
 have hbig:¬(i.bytes*(cp:Int)>2^48):=by
  have h5:(i.bytes:Int)*(cp:Int)<=65536*(cp:Int):=Int.mul_le_mul_of_nonneg_right (by omega) (by omega);omega
 have main:∀zc:Array Value,RL γ ρ (List.replicate cp zs).flatten ((Array.range (cp*i.size)).map fun j=>zc[j%zc.size]!).toList->
   ((if cp*i.size=0 then(zc= #[])else zc=zv.cells))->OpOK P γ ρ base st c w (.slx st.nx 0 n i.size cp) (.new fun t=> .cells t (List.replicate cp zs).flatten) (do pure (.value (<-Instr.makeSlice t (.int k1 n) (.int k2 cp)))):=by
  intro zc hzl hzc;have hcs:=hzl.length;simp only[Array.length_toList,Array.size_map,Array.size_range]at hcs;refine OpOK.made (o:= .cells ((Array.range (cp*i.size)).map fun j=>zc[j%zc.size]!) e) (e:=cp*i.size) (w':=w.alloc (.cells ((Array.range (cp*i.size)).map fun j=>zc[j%zc.size]!) e)) hrel hnx ⟨w.drawn,rfl⟩ (y:= .slice (some ⟨w.heap.size,0,none⟩) n cp) ?_
   ⟨_,_,Jp _ _ _,rfl,hle,fun _=>rfl,by simp⟩ (Jah (hzl.ext (Ext.upd hnx)) (by simp)) (fun h=>h.elim)
  have hc1:¬((cp:Int)<0):=by omega
  have hc2:¬((n:Int)<0):=by omega
  have hc3:¬((n:Int)>(cp:Int)):=by omega
  by_cases h0:cp*i.size=0
  ·rw[if_pos h0]at hzc;subst hzc;simp only[Sem.run_bind,Instr.makeSlice,Jf h1,Result.andThen_ok,asInt,asIntOf,Sem.run_pure,QO h2,jS hlt,jS (Nat.lt_of_le_of_lt hle hlt),hc1,hc2,hc3,hbig,
    decide_false,Bool.or_false,Bool.false_eq_true,if_false,run_askRoom,JQ hsz,Int.toNat_natCast,if_pos h0,YC]
  ·rw[if_neg h0]at hzc;subst hzc;simp only[Sem.run_bind,Instr.makeSlice,Jf h1,Result.andThen_ok,asInt,asIntOf,Sem.run_pure,QO h2,jS hlt,jS (Nat.lt_of_le_of_lt hle hlt),hc1,hc2,hc3,hbig,
    decide_false,Bool.or_false,Bool.false_eq_true,if_false,run_askRoom,JQ hsz,Int.toNat_natCast,if_neg h0,YC,hzr]
 by_cases h0:cp*i.size=0
 ·refine main #[] ?_ (by rw[if_pos h0]);have:(List.replicate cp zs).flatten=[]:=by
   apply List.eq_nil_of_length_eq_zero;simp[hz,h0]
  rw[this,h0];simp[RL]
 ·refine main zv.cells ?_ (by rw[if_neg h0]);rw[hzs,JaW cp i.size zv.cells hzs];exact RL.flat_replicate (hr γ) cp
def bnd (a:Act):Option Operand->Option Value:=Option.map a.eval
theorem JX {x:Option Operand}{y:Option Opd}(h:opdO x=some y)(hfr:FR γ ρ fr a){d n:Nat}(hn:JP d (y.map (Opd.ev fr))=some n):
  (x=none/\n=d)\/∃o k,x=some o/\a.eval o= .int k (n:Int):=by
 cases x with
 |none=>simp[opdO]at h;subst h;simp[JP]at hn;exact .inl ⟨rfl,hn.symm⟩
 | some o=>
   simp only[opdO]at h
   cases ho:opd o with
   |none=>simp[ho]at h
   | some z=>
     simp[ho]at h;subst h;simp only[Option.map_some,JP]at hn;obtain⟨k,e⟩:=qE hn (Jh ho hfr);exact .inr ⟨o,k,rfl,e⟩
theorem KA {k:IntKind}{i y:Nat}(h:i<=y)(code:BoundsCode):(Instr.sliceBound (.int k (i:Int)) y code).run P w= .ok i w:=by
 simp only[Instr.sliceBound,asIntOf,Sem.run_bind,Sem.run_pure,Result.andThen_ok];rw[if_pos (by omega)];simp
theorem KZ {isSlice:Bool}{len cap l h m:Nat}{lo hi mx:Option Operand}(hl:(lo=none/\l=0)\/∃o k,lo=some o/\a.eval o= .int k (l:Int))(hh:(hi=none/\h=len)\/∃o k,hi=some o/\a.eval o= .int k (h:Int))
  (hm:(mx=none/\m=cap)\/∃o k,mx=some o/\a.eval o= .int k (m:Int)) (h1:l<=h) (h2:h<=m) (h3:m<=cap) (h4:mx.isSome->hi.isSome):
  (Instr.sliceBounds isSlice len cap (lo.map a.eval) (hi.map a.eval) (mx.map a.eval)).run P w= .ok (l,h,m) w:=by
 rcases hm with⟨e1,e2⟩|⟨om,km,e1,e2⟩
 ·subst e1;subst e2;rcases hh with⟨e3,e4⟩|⟨oh,kh,e3,e4⟩
  ·subst e3;subst e4;rcases hl with⟨e5,e6⟩|⟨ol,kl,e5,e6⟩
   ·subst e5;subst e6;simp[Instr.sliceBounds]
   ·subst e5;simp[Instr.sliceBounds,e6,KA h1]
  ·subst e3;rcases hl with⟨e5,e6⟩|⟨ol,kl,e5,e6⟩
   ·subst e5;subst e6;simp[Instr.sliceBounds,e4,KA h2]
   ·subst e5;simp[Instr.sliceBounds,e4,e6,KA h1,KA h2]
 ·subst e1;rcases hh with⟨e3,e4⟩|⟨oh,kh,e3,e4⟩
  ·subst e3;simp at h4
  ·subst e3;rcases hl with⟨e5,e6⟩|⟨ol,kl,e5,e6⟩
   ·subst e5;subst e6;simp[Instr.sliceBounds,e2,e4,KA h2,KA h3]
   ·subst e5;simp[Instr.sliceBounds,e2,e4,e6,KA h1,KA h2,KA h3]
theorem JoZ {t:TypeId}{n v l h:Nat}{x:Value}{lo hi:Option Operand}{lo' hi':Option Opd}(hu:P.underlying t=some .string)(hx:R γ ρ (.str n v) x)(h1:opdO lo=some lo')(h2:opdO hi=some hi')
  (hfr:FR γ ρ fr a) (hl:JP 0 (lo'.map (Opd.ev fr))=some l) (hh:JP n (hi'.map (Opd.ev fr))=some h) (hle:l<=h) (hhn:h<=n) (hrel:Rel γ ρ base c w):
  OpOK P γ ρ base st c w (.str (h-l) (scut v l h)) .no (do pure (.value (<-Instr.sliceAt t x (lo.map a.eval) (hi.map a.eval) none))):=by
 obtain⟨s,e1,e2,e3⟩:=hx;subst e1;have hs:s.size=n:=by rw[<-e2];exact(Array.length_toList ..).symm
 refine OpOK.pure hrel (y:= .string (s.extract l h)) ?_ ⟨_,rfl, ?_, ?_⟩
 ·have:=KZ (P:=P) (w:=w) (a:=a) (isSlice:=false) (len:=s.size) (cap:=s.size) (m:=s.size) (mx:=none) (JX h1 hfr hl) (by rw[hs];exact JX h2 hfr hh) (.inl ⟨rfl,rfl⟩) hle (by omega) (Nat.le_refl _) (by simp);simp only[Option.map_none]at this;simp[Instr.sliceAt,Instr.slice,Jf hu,this]
 ·simp[ByteArray.data_extract,e2];omega
 ·rw[ByteArray.data_extract,Array.toList_extract,List.extract_eq_take_drop,<-Jbj,e3]
end
section
variable {P : Program} {γ : Locs} {ρ : Nat -> Value} {base : Bs} {st : St} {c : Pt -> Row} {w : World} {fr : Fr} {a : Act}
theorem Jjc {x:Option Operand}{y:Option Opd}(h:opdO x=some y):y.isSome=x.isSome:=by
 cases x with
 |none=>simp[opdO]at h;subst h;rfl
 | some o=>
   simp only[opdO]at h
   cases ho:opd o with
   |none=>simp[ho]at h
   |some z=>simp[ho]at h;subst h;rfl
theorem ja {t e:TypeId}{z n cp l h m:Nat}{ad:Option Addr}{lo hi mx:Option Operand}(hu:P.underlying t=some (.slice e))(hz:szT P e=some z)
  (hb:(Instr.sliceBounds true n cp (lo.map a.eval) (hi.map a.eval) (mx.map a.eval)).run P w= .ok (l,h,m) w):
  (Instr.sliceAt t (.slice ad n cp) (lo.map a.eval) (hi.map a.eval) (mx.map a.eval)).run P w= .ok (.slice (if m=l then ad else ad.map (·.add (l*z))) (h-l) (m-l)) w:=by
 simp[Instr.sliceAt,Instr.slice,Jf hu,JQ hz,hb]
theorem R.cut {lo:Loc}{o z l h m cp:Nat}{ad:Addr}(k4:cp≠0->ad=⟨lo.b,lo.o+o,none⟩)(k5:o+cp*z<=lo.e)(h2:l<=h)(h3:h<=m)(h4:m<=cp):
  ∃ad',(if m=l then some ad else(some ad).map (·.add (l*z)))=some ad'/\(m-l≠0->ad'=⟨lo.b,lo.o+(o+l*z),none⟩)/\o+l*z+(m-l)*z<=lo.e:=by
 have hfit:o+l*z+(m-l)*z<=lo.e:=by
  have:l*z+(m-l)*z=m*z:=by rw[<-Nat.add_mul];congr 1;omega
  have h6:m*z<=cp*z:=Nat.mul_le_mul_right z h4;omega
 by_cases hm:m=l
 ·exact⟨ad,by rw[if_pos hm],fun h=>absurd (by omega) h,hfit⟩
 ·refine⟨ad.add (l*z),by rw[if_neg hm];rfl,fun _=> ?_,hfit⟩;rw[k4 (by omega),Yh,Nat.add_assoc]
theorem Jo0 {t e:TypeId}{z:Nat}{u v:V}{x:Value}{lo hi mx:Option Operand}{lo' hi' mx':Option Opd}(hu:P.underlying t=some (.slice e))(hz:szT P e=some z)(hx:R γ ρ u x)
  (h1:opdO lo=some lo') (h2:opdO hi=some hi') (h3:opdO mx=some mx') (hm:mx.isSome->hi.isSome) (hfr:FR γ ρ fr a) (h:Qz z u (lo'.map (Opd.ev fr)) (hi'.map (Opd.ev fr)) (mx'.map (Opd.ev fr))=some v) (hrel:Rel γ ρ base c w):
  OpOK P γ ρ base st c w v .no (do pure (.value (<-Instr.sliceAt t x (lo.map a.eval) (hi.map a.eval) (mx.map a.eval)))):=by
 obtain⟨mv,hmv⟩:∃mv,mx'.map (Opd.ev fr)=mv:=⟨_,rfl⟩
 rw[hmv]at h;unfold Qz at h
 split at h
 ·
  simp only[R]at hx;subst hx
  cases hl:JP 0 (lo'.map (Opd.ev fr))with
  |none=>simp[hl]at h
  | some l=>
    cases hh:JP 0 (hi'.map (Opd.ev fr))with
    |none=>simp[hl,hh]at h
    | some hh'=>
      cases hmm:JP 0 mv with
      |none=>simp[hl,hh,hmm]at h
      | some m=>
        simp[hl,hh,hmm]at h;obtain⟨⟨e1,e2,e3⟩,e4⟩:=h;subst e1;subst e2;subst e3;subst e4;have hb:=KZ (P:=P) (w:=w) (a:=a) (isSlice:=true) (len:=0) (cap:=0) (JX h1 hfr hl) (JX h2 hfr hh) (JX h3 hfr (by rw[hmv];exact hmm)) (Nat.le_refl _) (Nat.le_refl _) (Nat.le_refl _) hm;have:=ja (ad:=none) hu hz hb;refine OpOK.pure hrel (y:= .slice none 0 0) ?_ rfl;simp[this]
 ·
  rename_i r o n z'
  obtain⟨lc,ad,cp,k1,k2,k3,k4,k5⟩:=hx;subst k2
  cases hl:JP 0 (lo'.map (Opd.ev fr))with
  |none=>simp[hl]at h
  | some l=>
    cases hh:JP n (hi'.map (Opd.ev fr))with
    |none=>simp[hl,hh]at h
    | some hh'=>
      simp[hl,hh]at h;obtain⟨hzz,h⟩:=h;subst hzz
      cases mv with
      | some vm=>
        simp only[]at h
        cases hmm:KE vm with
        |none=>simp[hmm]at h
        | some m=>
          simp[hmm]at h;obtain⟨⟨q1,q2,q3⟩,q4⟩:=h;subst q4;have hb:=KZ (P:=P) (w:=w) (a:=a) (isSlice:=true) (len:=n) (cap:=cp) (m:=m) (JX h1 hfr hl) (JX h2 hfr hh) (JX h3 hfr (by rw[hmv];exact hmm)) q1 q2 (by omega) hm;have hs:=ja (ad:=some ad) hu hz hb;obtain⟨ad',f1,f2,f3⟩:=R.cut (l:=l) (h:=hh') (m:=m) k4 k5 q1 q2 (by omega);rw[f1]at hs;exact OpOK.pure hrel (y:= .slice (some ad') (hh'-l) (m-l)) (by simp[hs]) ⟨lc,ad',k1,rfl,by omega,f2,f3⟩
      | none=>
        simp only[]at h
        split at h
        ·rename_i hcond
         injection h with h;subst h;have hmx:mx=none:=by
          have:=Jjc h3
          cases mx' with
          |none=>cases mx<;>simp at this⊢
          |some q=>simp at hmv
         have hb:=KZ (P:=P) (w:=w) (a:=a) (isSlice:=true) (len:=n) (cap:=cp) (m:=cp) (JX h1 hfr hl) (JX h2 hfr hh) (.inl ⟨hmx,rfl⟩) hcond.1 (by omega) (Nat.le_refl _) hm;have hs:=ja (ad:=some ad) hu hz hb;obtain⟨ad',f1,f2,f3⟩:=R.cut (l:=l) (h:=hh') (m:=cp) k4 k5 hcond.1 (by omega) (Nat.le_refl _);rw[f1]at hs;exact OpOK.pure hrel (y:= .slice (some ad') (hh'-l) (cp-l)) (by simp[hs]) ⟨lc,ad',cp-l,k1,rfl,by omega,f2,f3⟩
        ·cases h
 ·
  rename_i r o n z' cp
  obtain⟨lc,ad,k1,k2,k3,k4,k5⟩:=hx;subst k2
  cases hl:JP 0 (lo'.map (Opd.ev fr))with
  |none=>simp[hl]at h
  | some l=>
    cases hh:JP n (hi'.map (Opd.ev fr))with
    |none=>simp[hl,hh]at h
    | some hh'=>
      cases hmm:JP cp mv with
      |none=>simp[hl,hh,hmm]at h
      | some m=>
        simp[hl,hh,hmm]at h;obtain⟨⟨q0,q1,q2,q3⟩,q4⟩:=h;subst q0;subst q4;have hb:=KZ (P:=P) (w:=w) (a:=a) (isSlice:=true) (len:=n) (cap:=cp) (m:=m) (JX h1 hfr hl) (JX h2 hfr hh) (JX h3 hfr (by rw[hmv];exact hmm)) q1 q2 q3 hm;have hs:=ja (ad:=some ad) hu hz hb;obtain⟨ad',f1,f2,f3⟩:=R.cut (l:=l) (h:=hh') (m:=m) k4 k5 q1 q2 q3;rw[f1]at hs;refine OpOK.pure hrel (y:= .slice (some ad') (hh'-l) (m-l)) (by simp[hs]) ⟨lc,ad',k1,rfl,by omega,f2,f3⟩
 ·cases h
end
end Eva
