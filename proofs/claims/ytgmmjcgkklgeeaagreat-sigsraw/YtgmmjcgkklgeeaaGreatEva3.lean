/- An evaluator of the model's code, proved to tell what the model does. Operations, one b -/
import Derived.Test.YtgmmjcgkklgeeaaGreatEva2
import GoSem.Instr.MapEntry
set_option linter.unusedVariables false
set_option linter.unusedSimpArgs false
set_option linter.unusedSectionVars false
namespace Eva
open Go Go.RowKit
section
variable {P : Program} {γ : Locs} {ρ : Nat -> Value} {base : Bs} {st : St} {c : Pt -> Row} {w : World} {fr : Fr} {a : Act}
theorem Jo1 {t e:TypeId}{n z o:Nat}{r:Pt}{v:V}{x:Value}{lo hi mx:Option Operand}{lo' hi' mx':Option Opd}(hu:P.underlying t=some (.array n e))(hz:szT P e=some z)(hx:R γ ρ (.ptr r o) x)
  (hfit:∀lc,γ r=some lc->o+n*z<=lc.e)
  (h1:opdO lo=some lo') (h2:opdO hi=some hi') (h3:opdO mx=some mx') (hm:mx.isSome->hi.isSome) (hfr:FR γ ρ fr a) (h:Qz z (.slx r o n z n) (lo'.map (Opd.ev fr)) (hi'.map (Opd.ev fr)) (mx'.map (Opd.ev fr))=some v) (hrel:Rel γ ρ base c w):
  OpOK P γ ρ base st c w v .no (do pure (.value (<-Instr.sliceAt t x (lo.map a.eval) (hi.map a.eval) (mx.map a.eval)))):=by
 obtain⟨lc,k1,k2⟩:=hx;subst k2;unfold Qz at h;simp only[]at h
 cases hl:JP 0 (lo'.map (Opd.ev fr))with
 |none=>simp[hl]at h
 | some l=>
   cases hh:JP n (hi'.map (Opd.ev fr))with
   |none=>simp[hl,hh]at h
   | some hh'=>
     cases hmm:JP n (mx'.map (Opd.ev fr))with
     |none=>simp[hl,hh,hmm]at h
     | some m=>
       simp[hl,hh,hmm]at h;obtain⟨⟨q1,q2,q3⟩,q4⟩:=h;subst q4;have hb:=KZ (P:=P) (w:=w) (a:=a) (isSlice:=false) (len:=n) (cap:=n) (m:=m) (JX h1 hfr hl) (JX h2 hfr hh) (JX h3 hfr hmm) q1 q2 q3 hm;obtain⟨ad',f1,f2,f3⟩:=R.cut (l:=l) (h:=hh') (m:=m) (cp:=n) (ad:=⟨lc.b,lc.o+o,none⟩) (fun _=>rfl) (hfit lc k1) q1 q2 q3;refine OpOK.pure hrel (y:= .slice (some ad') (hh'-l) (m-l)) ?_ ⟨lc,ad',k1,rfl,by omega,f2,f3⟩;have e:(some (if m=l then(⟨lc.b,lc.o+o,none⟩:Addr)else Addr.add ⟨lc.b,lc.o+o,none⟩ (l*z)))=some ad':=by
        rw[<-f1];split<;>rfl
       simp[Instr.sliceAt,Instr.sureAddr,Jf hu,JQ hz,hb,e]
theorem Jmn {s:TypeId}{f:Nat}{fs:Array Field}{fd:Field}{n o:Nat}{r:Pt}{x:Value}(hu:P.underlying s=some (.struct fs))(hf:fs[f]? =some fd)(hn:szT P fd.type=some n)(h0:n≠0)
  (hx:R γ ρ (.ptr r o) x) (hrel:Rel γ ρ base c w):OpOK P γ ρ base st c w (.ptr r (o+fd.offset)) .no (do pure (.value (<-Instr.fieldAt s x f))):=by
 obtain⟨lc,k1,k2⟩:=hx;subst k2;refine OpOK.pure hrel (y:= .pointer (some ⟨lc.b,lc.o+(o+fd.offset),none⟩)) ?_ ⟨lc,k1,rfl⟩;simp[Instr.fieldAt,Jf hu,hf,Instr.sureAddr,fieldPlace,JQ hn,h0,Yh,Nat.add_assoc]
theorem Jjd {s:TypeId}{f:Nat}{fs:Array Field}{fd:Field}{n:Nat}{l:List V}{x:Value}(hu:P.underlying s=some (.struct fs))(hf:fs[f]? =some fd)(hg:J9 P fd.type=some true)(hn:szT P fd.type=some n)
  (hx:R γ ρ (.agg l) x) (hrel:Rel γ ρ base c w):OpOK P γ ρ base st c w (.agg ((l.drop fd.offset).take n)) .no (do pure (.value (<-Instr.field s x f))):=by
 obtain⟨xs,k1,k2⟩:=hx;subst k1;refine OpOK.pure hrel (y:= .agg (xs.toArray.extract fd.offset (fd.offset+n))) ?_ ⟨(xs.drop fd.offset).take n, ?_,(k2.drop _).take _⟩
 ·simp[Instr.field,Jf hu,hf,asAgg,part,kE hg,JQ hn]
 ·congr 1;apply Array.ext';rw[KQ]
theorem Jje {s:TypeId}{f:Nat}{fs:Array Field}{fd:Field}{l:List V}{v:V}{x:Value}(hu:P.underlying s=some (.struct fs))(hf:fs[f]? =some fd)(hg:J9 P fd.type=some false)
  (hx:R γ ρ (.agg l) x) (hv:l[fd.offset]? =some v) (hrel:Rel γ ρ base c w):OpOK P γ ρ base st c w v .no (do pure (.value (<-Instr.field s x f))):=by
 obtain⟨xs,k1,k2⟩:=hx;subst k1;obtain⟨y,e1,e2⟩:=k2.get hv;refine OpOK.pure hrel (y:=y) ?_ e2;have:xs.toArray[fd.offset]? =some y:=by simpa using e1
 simp[Instr.field,Jf hu,hf,asAgg,Yj hg this]
theorem Je2 {t e:TypeId}{z i n cp:Nat}{k:IntKind}{lc:Loc}{r:Pt}{o:Nat}{ad:Addr}(hu:P.underlying t=some (.slice e))(hz:szT P e=some z)(k1:γ r=some lc)(hi:i<n)(hle:n<=cp)(ha:cp≠0->ad=⟨lc.b,lc.o+o,none⟩)
  (hrel:Rel γ ρ base c w):OpOK P γ ρ base st c w (.ptr r (o+i*z)) .no (do pure (.value (<-Instr.indexAt t (.slice (some ad) n cp) (.int k (i:Int))))):=by
 have ha':=ha (by omega);subst ha';refine OpOK.pure hrel (y:= .pointer (some ⟨lc.b,lc.o+(o+i*z),none⟩)) ?_ ⟨lc,k1,rfl⟩;have h1:(0:Int)<=(i:Int)/\(i:Int)<(n:Int):=⟨by omega,by omega⟩
 simp[Instr.indexAt,asIntOf,Jf hu,JQ hz,h1,hi,Yh,Nat.add_assoc]
theorem JlI {t e:TypeId}{z i n:Nat}{k:IntKind}{r:Pt}{o:Nat}{x:Value}(hu:P.underlying t=some (.array n e))(hz:szT P e=some z)(hx:R γ ρ (.ptr r o) x)(hi:i<n)
  (hrel:Rel γ ρ base c w):OpOK P γ ρ base st c w (.ptr r (o+i*z)) .no (do pure (.value (<-Instr.indexAt t x (.int k (i:Int))))):=by
 obtain⟨lc,k1,k2⟩:=hx;subst k2;refine OpOK.pure hrel (y:= .pointer (some ⟨lc.b,lc.o+(o+i*z),none⟩)) ?_ ⟨lc,k1,rfl⟩;have h1:(0:Int)<=(i:Int)/\(i:Int)<(n:Int):=⟨by omega,by omega⟩
 simp[Instr.indexAt,Instr.sureAddr,asIntOf,Jf hu,JQ hz,h1,hi,Yh,Nat.add_assoc]
theorem Jo2 {t:TypeId}{i n v:Nat}{k:IntKind}{x:Value}(hu:P.underlying t=some .string)(hx:R γ ρ (.str n v) x)(hi:i<n)
  (hrel:Rel γ ρ base c w):OpOK P γ ρ base st c w (.int .u8 (Q4 v i)) .no (do pure (.value (<-Instr.index t x (.int k (i:Int))))):=by
 obtain⟨s,e1,e2,e3⟩:=hx;subst e1;have hs:s.size=n:=by rw[<-e2];exact(Array.length_toList ..).symm
 have hlt:i<s.data.toList.length:=by omega
 have hb:=Jbk s.data.toList i _ (List.getElem?_eq_getElem hlt);rw[e3]at hb;have hget:s[i]? =some (s.data.toList[i]):=by
  have hi':i<s.size:=by omega
  rw[getElem?_pos s i hi'];rfl
 refine OpOK.pure hrel (y:= .int .u8 (s.data.toList[i].toNat)) ?_ (by rw[hb];rfl);simp[Instr.index,asIntOf,Jf hu,hget]
theorem Jg1 {t e:TypeId}{z i n:Nat}{k:IntKind}{l:List V}{x:Value}(hu:P.underlying t=some (.array n e))(hz:szT P e=some z)(hg:J9 P e=some true)(hx:R γ ρ (.agg l) x)(hi:i<n)
  (hrel:Rel γ ρ base c w):OpOK P γ ρ base st c w (.agg ((l.drop (i*z)).take z)) .no (do pure (.value (<-Instr.index t x (.int k (i:Int))))):=by
 obtain⟨xs,k1,k2⟩:=hx;subst k1;refine OpOK.pure hrel (y:= .agg (xs.toArray.extract (i*z) (i*z+z))) ?_ ⟨(xs.drop (i*z)).take z, ?_,(k2.drop _).take _⟩
 ·have h1:(0:Int)<=(i:Int)/\(i:Int)<(n:Int):=⟨by omega,by omega⟩
  simp[Instr.index,asIntOf,Jf hu,JQ hz,h1,hi,KP hg hz]
 ·congr 1;apply Array.ext';rw[KQ]
theorem Jg2 {t e:TypeId}{z i n:Nat}{k:IntKind}{l:List V}{v:V}{x:Value}(hu:P.underlying t=some (.array n e))(hz:szT P e=some z)(hg:J9 P e=some false)(hx:R γ ρ (.agg l) x)(hi:i<n)(hv:l[i*z]? =some v)
  (hrel:Rel γ ρ base c w):OpOK P γ ρ base st c w v .no (do pure (.value (<-Instr.index t x (.int k (i:Int))))):=by
 obtain⟨xs,k1,k2⟩:=hx;subst k1;obtain⟨y,e1,e2⟩:=k2.get hv;refine OpOK.pure hrel (y:=y) ?_ e2;have:xs.toArray[i*z]? =some y:=by simpa using e1
 have h1:(0:Int)<=(i:Int)/\(i:Int)<(n:Int):=⟨by omega,by omega⟩
 simp[Instr.index,asIntOf,Jf hu,JQ hz,h1,hi,Yj hg this]
theorem JqY {n:Nat}{l:List V}{v:V}{x:Value}(hx:R γ ρ (.tup l) x)(hv:l[n]? =some v)(hrel:Rel γ ρ base c w):OpOK P γ ρ base st c w v .no (do pure (.value (<-Instr.extract x n))):=by
 obtain⟨xs,k1,k2⟩:=hx;subst k1;obtain⟨y,e1,e2⟩:=k2.get hv;refine OpOK.pure hrel (y:=y) ?_ e2;have:xs.toArray[n]? =some y:=by simpa using e1
 simp only[Instr.extract,this];rfl
theorem Jak (hrel:Rel γ ρ base c w){r:Pt}{x:Value}(hx:R γ ρ (.map r) x)(hc:γ r≠none->st.row r≠ .none->c r=st.row r){t:Nat}{es:List (V×V)}(hs:st.row r= .mob t es):
  ∃l ents,γ r=some l/\x= .map (some l.b)/\c r= .mob t es/\w.heap[l.b]? =some (.map ents es.length)/\ents.size=es.length/\
   ∀i k v,es[i]? =some (k,v)->∃e:MapEntry,ents[i]? =some e/\R γ ρ k e.key/\R γ ρ v e.val/\e.born=i:=by
 obtain⟨l,h1,h2⟩:=hx;have h3:c r= .mob t es:=by rw[hc (by rw[h1];simp) (by rw[hs];intro e;cases e),hs]
 obtain⟨l',k1,k2⟩:=hrel.row r (by rw[h3];intro e;cases e);rw[h1]at k1;injection k1 with k1;subst k1;rw[h3]at k2;obtain⟨ents,e1,e2,e3⟩:=k2;exact⟨l,ents,h1,h2,h3,e1,e2,e3⟩
theorem Kt {b:Nat}{ents:Array MapEntry}{n:Nat}(h:w.heap[b]? =some (.map ents n)):(getObj b).run P w= .ok (.map ents n) w:=by
 simp[getObj,Sem.run,h]
theorem Jjf {t:TypeId}{tys:Array TypeId}{ty:TypeId}{n v:Nat}{x:Value}(ht:tys[0]? =some t)(hu:P.underlying t=some .string)(hx:R γ ρ (.str n v) x)(hrel:Rel γ ρ base c w):
  OpOK P γ ρ base st c w (.int .i64 n) .no (do pure (.value (<-Builtin.len_ tys ty #[x]))):=by
 obtain⟨s,e1,e2,e3⟩:=hx;subst e1;have hs:s.size=n:=by rw[<-e2];exact(Array.length_toList ..).symm
 exact OpOK.pure hrel (y:= .int .i64 n) (by simp[Builtin.len_,ht,Jf hu,goInt,hs]) rfl
theorem Jgg {t e:TypeId}{tys:Array TypeId}{ty:TypeId}{n:Nat}{v:V}{x:Value}(ht:tys[0]? =some t)(hu:P.underlying t=some (.slice e))(hn:slen v=some n)(hx:R γ ρ v x)(hrel:Rel γ ρ base c w):
  OpOK P γ ρ base st c w (.int .i64 n) .no (do pure (.value (<-Builtin.len_ tys ty #[x]))):=by
 obtain⟨ad,cp,e1⟩:=YE hn hx;subst e1;exact OpOK.pure hrel (y:= .int .i64 n) (by simp[Builtin.len_,ht,Jf hu,goInt]) rfl
theorem Jg3 {t kt et:TypeId}{tys:Array TypeId}{ty:TypeId}{x:Value}(ht:tys[0]? =some t)(hu:P.underlying t=some (.map kt et))(hx:R γ ρ .mnil x)(hrel:Rel γ ρ base c w):
  OpOK P γ ρ base st c w (.int .i64 0) .no (do pure (.value (<-Builtin.len_ tys ty #[x]))):=by
 simp only[R]at hx;subst hx;exact OpOK.pure hrel (y:= .int .i64 0) (by simp[Builtin.len_,ht,Jf hu,goInt]) rfl
theorem Jjg {t kt et:TypeId}{tys:Array TypeId}{ty:TypeId}{r:Pt}{x:Value}{tt:Nat}{es:List (V×V)}(ht:tys[0]? =some t)(hu:P.underlying t=some (.map kt et))(hx:R γ ρ (.map r) x)
  (hc:γ r≠none->st.row r≠ .none->c r=st.row r) (hs:st.row r= .mob tt es) (hrel:Rel γ ρ base c w):
  OpOK P γ ρ base st c w (.int .i64 es.length) .no (do pure (.value (<-Builtin.len_ tys ty #[x]))):=by
 obtain⟨l,ents,h1,h2,h3,h4,h5,h6⟩:=Jak hrel hx hc hs;subst h2;exact OpOK.pure hrel (y:= .int .i64 es.length) (by simp[Builtin.len_,ht,Jf hu,goInt,Kt h4,h5]) rfl
theorem Jmo {t e:TypeId}{tys:Array TypeId}{ty:TypeId}{n m:Nat}{ad:Option Addr}(ht:tys[0]? =some t)(hu:P.underlying t=some (.slice e))(hrel:Rel γ ρ base c w):
  OpOK P γ ρ base st c w (.int .i64 m) .no (do pure (.value (<-Builtin.cap_ tys ty #[.slice ad n m]))):=
 OpOK.pure hrel (y:= .int .i64 m) (by simp[Builtin.cap_,ht,Jf hu,goInt]) rfl
theorem JqZ {k:IntKind}{p q:Int}{tys:Array TypeId}{ty:TypeId}{x y:Value}(hx:R γ ρ (.int k p) x)(hy:R γ ρ (.int k q) y)(hrel:Rel γ ρ base c w):
  OpOK P γ ρ base st c w (.int k (if q<p then q else p)) .no (do pure (.value (<-Builtin.min_ tys ty #[x,y]))):=by
 simp only[R]at hx hy;subst hx;subst hy;exact OpOK.pure hrel (y:= .int k (if q<p then q else p)) (by simp[Builtin.min_,Builtin.min2]) rfl
theorem Jq0 {k:IntKind}{p q:Int}{tys:Array TypeId}{ty:TypeId}{x y:Value}(hx:R γ ρ (.int k p) x)(hy:R γ ρ (.int k q) y)(hrel:Rel γ ρ base c w):
  OpOK P γ ρ base st c w (.int k (if q>p then q else p)) .no (do pure (.value (<-Builtin.max_ tys ty #[x,y]))):=by
 simp only[R]at hx hy;subst hx;subst hy;exact OpOK.pure hrel (y:= .int k (if q>p then q else p)) (by simp[Builtin.max_,Builtin.max2]) rfl
end
section
variable {P : Program} {γ : Locs} {ρ : Nat -> Value} {base : Bs} {st : St} {c : Pt -> Row} {w : World} {fr : Fr} {a : Act}
def qF (γ:Locs)(ρ:Nat->Value)(es:List (V×V))(ents:List MapEntry):Prop:=
 ents.length=es.length/\∀(i:Nat) (k v:V),es[i]? =some (k,v)->∃e:MapEntry,ents[i]? =some e/\R γ ρ k e.key/\R γ ρ v e.val
def FRes (γ:Locs)(ρ:Nat->Value):Option (Nat×V)->Option (Nat×Value)->Prop
 |none,none=>True
 |some (i,v),some (j,x)=>i=j/\R γ ρ v x
 |_,_=>False
theorem qF.cons {k v:V}{es:List (V×V)}{e:MapEntry}{ents:List MapEntry}(h:qF γ ρ ((k,v)::es) (e::ents)):R γ ρ k e.key/\R γ ρ v e.val/\qF γ ρ es ents:=by
 obtain⟨h1,h2⟩:=h;obtain⟨e',q1,q2,q3⟩:=h2 0 k v rfl;simp at q1;subst q1;exact⟨q2,q3,by simpa using h1,fun i k v h=>by simpa using h2 (i+1) k v (by simpa using h)⟩
theorem jw {kt:TypeId}{e:EK}(he:eqk P kt=some e){k:V}{x:Value}(hx:R γ ρ k x):∀{es:List (V×V)} {ents:List MapEntry} {i:Nat} {res:Option (Nat×V)},qF γ ρ es ents->Ky e k es i=some res->
  ∃res',(Instr.findAsking kt x ents i).run P w= .ok res' w/\FRes γ ρ res res'
 | [],ents,i,res,hes,h=>by
   have:ents=[]:=List.eq_nil_of_length_eq_zero hes.1;subst this;simp[Ky]at h;subst h;exact⟨none,rfl,trivial⟩
 |(k',v)::es,[],i,res,hes,h=>by have:=hes.1;simp at this
 | (k',v)::es,en::ents,i,res,hes,h=>by
   obtain⟨h1,h2,h3⟩:=hes.cons;simp only[Ky]at h
   cases hq:e.eq k k' with
   |none=>simp[hq]at h
   | some b=>
     have hr:=qA (P:=P) (w:=w) he hq hx h1
     cases b with
     |true=>simp[hq]at h;subst h;exact⟨some (i,en.val),by simp[Instr.findAsking,hr],rfl,h2⟩
     | false=>
       simp[hq]at h;obtain⟨res',q1,q2⟩:=jw he hx h3 h;exact⟨res',by simp[Instr.findAsking,hr,q1],q2⟩
theorem Jg4 {t:TypeId}{d:TypeDesc}(hd:P.underlying t=some d){x y:Value}{b:Bool}(h:Instr.sameNow d x y=some b):(Op.equal t x y).run P w= .ok b w:=by
 suffices h':∀D,(Op.equalIn (D+1) t x y).run P w= .ok b w from h' 9999
 intro D;unfold Instr.sameNow at h
 split at h
 ·split at h
  ·rename_i hk
   injection h with h;subst h;subst hk;simp[Op.equalIn,Jf hd]
  ·cases h
 ·injection h with h;subst h;simp[Op.equalIn,Jf hd]
 ·injection h with h;subst h;simp[Op.equalIn,Jf hd]
 ·cases h
theorem JcG {t:TypeId}{d:TypeDesc}(hd:P.underlying t=some d){x:Value}:∀{ents:List MapEntry} {i:Nat} {r:Option (Nat×Value)},Instr.findNow d x ents i=some r->(Instr.findAsking t x ents i).run P w= .ok r w
 |[],i,r,h=>by simp[Instr.findNow]at h;subst h;rfl
 | e::ents,i,r,h=>by
   simp only[Instr.findNow]at h
   cases hs:Instr.sameNow d x e.key with
   |none=>simp[hs]at h
   | some b=>
     have hr:=Jg4 (P:=P) (w:=w) hd hs
     cases b with
     |true=>simp[hs]at h;subst h;simp[Instr.findAsking,hr]
     |false=>simp[hs]at h;simp[Instr.findAsking,hr,JcG hd h]
theorem Jmp {t:TypeId}{e:EK}(h:eqk P t=some e):∃d,P.underlying t=some d:=by
 unfold eqk at h
 cases hu:P.underlying t with
 |none=>simp[hu]at h
 |some d=>exact⟨d,rfl⟩
theorem Qp {kt:TypeId}{e:EK}(he:eqk P kt=some e){k:V}{x:Value}(hx:R γ ρ k x){es:List (V×V)}{ents:List MapEntry}{res:Option (Nat×V)}(hes:qF γ ρ es ents)(h:Ky e k es 0=some res):
  ∃res',(Instr.findKey kt x ents).run P w= .ok res' w/\FRes γ ρ res res':=by
 obtain⟨res',q1,q2⟩:=jw (P:=P) (w:=w) he hx hes h;obtain⟨d,hd⟩:=Jmp he;refine⟨res', ?_,q2⟩;simp only[Instr.findKey,Sem.run_bind,Jf hd,Result.andThen_ok]
 cases hn:Instr.findNow d x ents 0 with
 |none=>exact q1
 | some r=>
   have:=JcG (P:=P) (w:=w) hd hn;rw[q1]at this;injection this with this _;subst this;rfl
def Jdf (P:Program)(d:Nat)(t:TypeId)(n:Nat):Prop:=
 ∀(em:Bool) (D:Nat),d<=D->∀(xs:Array Value) (off:Nat) (w:World),off+n<=xs.size->∃x,(part t xs off).run P w= .ok x w/\(Instr.checkKey em D t x).run P w= .ok () w
theorem JcH {d:Nat}(ih:∀t ks,leaves P d t=some ks->Jdf P d t ks.length)(em:Bool){D:Nat}(hD:d<=D)(xs:Array Value):∀(fs:List Field) (o:Nat) (ks:List KD) (w:World),QV (leaves P d) fs o=some ks->o+ks.length<=xs.size->
  (forIn fs PUnit.unit fun(f:Field) (_:PUnit)=>(do
   if f.name ≠ "_" then
    let x<-part f.type xs f.offset
    Instr.checkKey em D f.type x
    pure (ForInStep.yield PUnit.unit)
   else pure (ForInStep.yield PUnit.unit):Sem (ForInStep PUnit))).run P w= .ok PUnit.unit w
 |[],o,ks,w,_,_=>rfl
 | f::fs,o,ks,w,h,hle=>by
   simp only[QV]at h
   split at h
   ·cases h
   ·rename_i hf
    simp only[not_or,ne_eq,Decidable.not_not]at hf
    cases hl:leaves P d f.type with
    |none=>simp[hl]at h
    | some l=>
      cases hr:QV (leaves P d) fs (o+l.length)with
      |none=>simp[hl,hr]at h
      | some r=>
        simp[hl,hr]at h;subst h;simp only[List.length_append]at hle;obtain⟨x,e1,e2⟩:=ih _ _ hl em D hD xs o w (by omega);have:=JcH ih em hD xs fs (o+l.length) r w hr (by omega);simp only[List.forIn_cons,Sem.run_bind,if_pos hf.1,hf.2,e1,e2,Result.andThen_ok,Sem.run_pure];exact this
theorem Jdy {d:Nat}{e:TypeId}{n:Nat}(hn:szT P e=some n)(ih:Jdf P d e n)(em:Bool){D:Nat}(hD:d<=D)(xs:Array Value):∀(m i:Nat) (w:World),(i+m)*n<=xs.size->
  (forIn (List.range' i m) PUnit.unit fun(j:Nat) (_:PUnit)=>(do
   let sz<-Go.sizeOf e
   let x<-part e xs (j*sz)
   Instr.checkKey em D e x
   pure (ForInStep.yield PUnit.unit):Sem (ForInStep PUnit))).run P w= .ok PUnit.unit w
 |0,i,w,_=>rfl
 | m+1,i,w,h=>by
   obtain⟨x,e1,e2⟩:=ih em D hD xs (i*n) w (by
    have:(i+1)*n<=(i+(m+1))*n:=Nat.mul_le_mul_right n (by omega);rw[Nat.add_mul,Nat.one_mul]at this;omega)
   have:=Jdy hn ih em hD xs m (i+1) w (by rw[show i+1+m=i+(m+1) by omega];exact h);simp only[List.range'_succ,List.forIn_cons,Sem.run_bind,Sem.run_pure,Result.andThen_ok,e1,e2,JQ hn];exact this
theorem Jdz {d:Nat}{t:TypeId}{td:TypeDesc}(hu:P.underlying t=some td)(hg:J9 P t=some false)(hi:∀ms,td≠ .interface ms):Jdf P (d+1) t 1:=by
 intro em D hD xs off w h;obtain⟨D',rfl⟩:∃D',D=D'+1:=⟨D-1,by omega⟩
 have hx:xs[off]? =some (xs[off]'(by omega)):=Array.getElem?_eq_getElem (by omega);refine⟨_,Yj hg hx, ?_⟩;generalize xs[off]'(by omega)=x;have hna:(∀n e,td≠ .array n e)/\(∀fs,td≠ .struct fs):=by
  constructor
  ·intro n e e1;subst e1;simp[J9,hu]at hg
  ·intro fs e1;subst e1;simp[J9,hu]at hg
 simp only[Instr.checkKey,Sem.run_bind,Jf hu,Result.andThen_ok]
 cases td<;>first|rfl|exact absurd rfl (hi _)|exact absurd rfl (hna.1 _ _)|exact absurd rfl (hna.2 _)
theorem JaY :∀(d:Nat) (t:TypeId) (ks:List KD),leaves P d t=some ks->Jdf P d t ks.length
 |0,t,ks,h=>by simp[leaves]at h
 | d+1,t,ks,h=>by
   simp only[leaves]at h
   split at h
   ·rename_i hu;injection h with h;subst h;exact Jdz hu (Q6 hu (fun _ e=>by cases e) (fun _ _ e=>by cases e)) (fun _ e=>by cases e)
   ·rename_i k hu;injection h with h;subst h;exact Jdz hu (Q6 hu (fun _ e=>by cases e) (fun _ _ e=>by cases e)) (fun _ e=>by cases e)
   ·rename_i hu;injection h with h;subst h;exact Jdz hu (Q6 hu (fun _ e=>by cases e) (fun _ _ e=>by cases e)) (fun _ e=>by cases e)
   ·rename_i fs hu
    split at h
    ·cases h
    ·cases hl:QV (leaves P d) fs.toList 0 with
     |none=>simp[hl]at h
     | some l=>
       simp only[hl]at h
       split at h
       ·rename_i hsz
        injection h with h;subst h;intro em D hD xs off w hle;obtain⟨D',rfl⟩:∃D',D=D'+1:=⟨D-1,by omega⟩
        have hg:J9 P t=some true:=by simp[J9,hu]
        refine⟨_,KP hg hsz, ?_⟩;have:=JcH (fun t ks h=>JaY d t ks h) em (D:=D') (by omega) (xs.extract off (off+l.length)) fs.toList 0 l w hl (by simp;omega);simp only[Instr.checkKey,Sem.run_bind,Jf hu,Result.andThen_ok,<-Array.forIn_toList];exact congrArg (fun r=>Result.andThen r fun(_:PUnit) w'=>(pure ():Sem Unit).run P w') this
       ·cases h
   ·rename_i n e hu
    cases hl:leaves P d e with
    |none=>simp[hl]at h
    | some l=>
      simp only[hl]at h
      split at h
      ·rename_i hsz
       obtain⟨hs1,hs2,_⟩:=hsz;injection h with h;subst h;intro em D hD xs off w hle;obtain⟨D',rfl⟩:∃D',D=D'+1:=⟨D-1,by omega⟩
       have hg:J9 P t=some true:=by simp[J9,hu]
       have hlen:(List.replicate n l).flatten.length=n*l.length:=by simp
       rw[hlen]at hle;refine⟨_,KP hg hs2, ?_⟩;have:=Jdy hs1 (JaY d e l hl) em (D:=D') (by omega) (xs.extract off (off+n*l.length)) n 0 w (by simp;omega);simp only[Instr.checkKey,Sem.run_bind,Jf hu,Result.andThen_ok];rw[Std.Legacy.Range.forIn_eq_forIn_range'];simp only[Std.Legacy.Range.size,Nat.sub_zero,Nat.add_sub_cancel,Nat.div_one];exact congrArg (fun r=>Result.andThen r fun(_:PUnit) w'=>(pure ():Sem Unit).run P w') this
      ·cases h
   ·cases h
end
section
variable {P : Program} {γ : Locs} {ρ : Nat -> Value} {base : Bs} {st : St} {c : Pt -> Row} {w : World} {fr : Fr} {a : Act}
theorem Jdg {kt:TypeId}{e:EK}(he:eqk P kt=some e){k:V}{x:Value}(hx:R γ ρ k x)(hf:e.fit k=true)(em:Bool):(Instr.checkKey em 10000 kt x).run P w= .ok () w:=by
 cases e with
 | one kd=>
   have hk:=Jgf he
   suffices h':∀D,(Instr.checkKey em (D+1) kt x).run P w= .ok () w from h' 9999
   intro D
   cases kd<;>simp only[KDok]at hk
   ·simp[Instr.checkKey,Jf hk]
   ·obtain⟨_,hk⟩:=hk;simp[Instr.checkKey,Jf hk]
   ·simp[Instr.checkKey,Jf hk]
   ·obtain⟨_,hk⟩:=hk;simp[Instr.checkKey,Jf hk]
   ·obtain⟨_,hk⟩:=hk;simp[Instr.checkKey,Jf hk]
   ·obtain⟨_,_,hk⟩:=hk;simp[Instr.checkKey,Jf hk]
   ·obtain⟨_,_,_,hk⟩:=hk;simp[Instr.checkKey,Jf hk]
 | many ks=>
   obtain⟨h1,h2,_⟩:=Jdu he;unfold EK.fit at hf
   split at hf
   ·rename_i heq;cases heq
   ·rename_i xs heq
    cases heq
    obtain⟨ys,e1,e2⟩:=hx;subst e1;have hl:ys.length=ks.length:=by rw[e2.length];simpa using hf
    obtain⟨y,q1,q2⟩:=JaY 8 kt ks h1 em 10000 (by decide) ys.toArray 0 w (by simp[hl]);rw[KP h2 (JcF h1 h2)]at q1;injection q1 with q1 _;have a1:ys.toArray.extract 0 (0+ks.length)=ys.toArray:=by
     apply Array.ext';rw[KQ,List.drop_zero];exact List.take_of_length_le (by simp[hl])
    rw[a1]at q1;rw[<-q1]at q2;exact q2
   ·cases hf
theorem Jbq {n:Nat}{k:KD}{u v:V}{x y:Value}(h:keq k u v=some true)(hx:R γ ρ u x)(hy:R γ ρ v y)(hk:k= .b\/k= .i\/k= .s):Instr.sameBits n y x=true:=by
 rcases hk with rfl|rfl|rfl
 ·unfold keq at h
  split at h<;>first|(cases h;done)|skip
  all_goals first
   |(rename_i heq;cases heq;done)
   |(simp only[Option.some.injEq,beq_iff_eq]at h;subst h;simp only[R]at hx hy;subst hx;subst hy;cases n<;>simp[Instr.sameBits])
 ·unfold keq at h
  split at h<;>first|(cases h;done)|skip
  all_goals first
   |(rename_i heq;cases heq;done)
   |(split at h<;>cases h;done)
   | (split at h
      ·rename_i hkk;simp only[Option.some.injEq,beq_iff_eq]at h;subst h;subst hkk;simp only[R]at hx hy;subst hx;subst hy;cases n<;>simp[Instr.sameBits]
      ·cases h)
 ·unfold keq at h
  split at h<;>first|(cases h;done)|skip
  all_goals first
   |(rename_i heq;cases heq;done)
   | (simp only[Option.some.injEq,Bool.and_eq_true,beq_iff_eq]at h
      obtain⟨h1,h2⟩:=h;obtain⟨x',e1,e2,e3⟩:=hx;obtain⟨y',e4,e5,e6⟩:=hy;subst e1;subst e4;have hd:y'.data.toList=x'.data.toList:=jv (by omega) (by omega);have:y'=x':=by
       cases x';cases y'
       congr 1;exact Array.toList_inj.1 hd
      subst this
      cases n<;>(simp only[Instr.sameBits];rw[beq_toListBytes];exact beq_self_eq_true _))
theorem JaI {n:Nat}:∀{ks:List KD} {us vs:List V} {xs ys:List Value},(ks.all fun k=>k== .b||k== .i||k== .s)=true->keqs ks us vs=some true->us.length=ks.length->vs.length=ks.length->RL γ ρ us xs->RL γ ρ vs ys->
  ((ys.zip xs).all fun(p:Value×Value)=>Instr.sameBits n p.1 p.2)=true
 | [],us,vs,xs,ys,_,_,h1,h2,hx,hy=>by
   have e1:=List.eq_nil_of_length_eq_zero h1;have e2:=List.eq_nil_of_length_eq_zero h2;subst e1;subst e2;simp only[RL]at hx hy;subst hx;subst hy;rfl
 |k::ks,[],vs,xs,ys,_,_,h1,_,_,_=>by simp at h1
 |k::ks,u::us,[],xs,ys,_,_,_,h2,_,_=>by simp at h2
 | k::ks,u::us,v::vs,xs,ys,hp,hq,h1,h2,⟨x,xs',e1,e2,e3⟩,⟨y,ys',e4,e5,e6⟩=>by
   subst e1;subst e4;simp only[List.all_cons,Bool.and_eq_true]at hp;simp only[keqs]at hq
   cases hk:keq k u v with
   |none=>rw[hk]at hq;cases hq
   | some b=>
     rw[hk]at hq
     cases b with
     |false=>cases hq
     | true=>
       have hkk:k= .b\/k= .i\/k= .s:=by simpa[or_assoc]using hp.1
       simp only[List.zip_cons_cons,List.all_cons,Bool.and_eq_true];exact⟨Jbq hk e2 e5 hkk,JaI hp.2 hq (by simpa using h1) (by simpa using h2) e3 e6⟩
theorem qG {e:EK}{u v:V}{x y:Value}(hp:e.plain=true)(h:e.eq u v=some true)(hx:R γ ρ u x)(hy:R γ ρ v y):Instr.sameBits 10000 y x=true:=by
 suffices h':∀n,Instr.sameBits (n+1) y x=true from h' 9999
 intro n;unfold EK.eq at h
 split at h
 ·rename_i k
  refine Jbq h hx hy ?_
  cases k<;>simp[EK.plain]at hp<;>simp
 ·split at h
  ·rename_i ks us vs hl
   obtain⟨xs,e1,e2⟩:=hx;obtain⟨ys,e3,e4⟩:=hy;subst e1;subst e3;simp only[Instr.sameBits,Bool.and_eq_true];refine⟨by simp[e2.length,e4.length,hl.1,hl.2], ?_⟩;exact JaI hp h hl.1 hl.2 e2 e4
  ·cases h
 ·cases h
theorem JaZ {e:EK}{k:V}:∀{es:List (V×V)} {i0 i:Nat} {v:V},Ky e k es i0=some (some (i,v))->i0<=i/\∃k',es[i-i0]? =some (k',v)/\e.eq k k'=some true
 |[],i0,i,v,h=>by simp[Ky]at h
 | (k',v')::es,i0,i,v,h=>by
   simp only[Ky]at h
   cases hq:e.eq k k' with
   |none=>simp[hq]at h
   | some b=>
     cases b with
     |true=>simp[hq]at h;obtain⟨h1,h2⟩:=h;subst h1;subst h2;exact⟨Nat.le_refl _,k',by simp,hq⟩
     | false=>
       simp[hq]at h;obtain⟨h1,k2,h2,h3⟩:=JaZ h;refine⟨by omega,k2, ?_,h3⟩;rw[show i-i0=(i-(i0+1))+1 by omega];simpa using h2
theorem Je3 {t kt et:TypeId}{e:EK}{z:V}{ok:Bool}{u k v:V}{x y:Value}{es:List (V×V)}(hu:P.underlying t=some (.map kt et))(he:eqk P kt=some e)(hz:JeZ P et=some z)(hx:R γ ρ u x)(hy:R γ ρ k y)
  (hc:∀r,rowOf u=some r->γ r≠none->st.row r≠ .none->c r=st.row r) (hes:Yf st u=some es) (hf:e.fit k=true)
  (hv:(∃i w',Ky e k es 0=some (some (i,w'))/\v=(if ok then .tup [w', .bool true]else w'))\/(Ky e k es 0=some none/\v=(if ok then .tup [z, .bool false]else z))) (hrel:Rel γ ρ base c w):
  OpOK P γ ρ base st c w v .no (do pure (.value (<-Instr.lookup t x y ok))):=by
 obtain⟨zv,hzr,hzR⟩:=Jds (ρ:=ρ) hz;have main:∀ents:List MapEntry,qF γ ρ es ents->∃res val b,(Instr.findKey kt y ents).run P w= .ok res w/\((∃j,res=some (j,val)/\b=true)\/(res=none/\val=zv/\b=false))/\R γ ρ v (if ok then .tuple #[val, .bool b]else val):=by
  intro ents hents;rcases hv with⟨i,w',h1,h2⟩|⟨h1,h2⟩
  ·obtain⟨res',q1,q2⟩:=Qp (P:=P) (w:=w) he hy hents h1
   cases res' with
   |none=>exact q2.elim
   | some p=>
     obtain⟨j,val⟩:=p;obtain⟨_,q3⟩:=q2;refine⟨_,val,true,q1, .inl ⟨j,rfl,rfl⟩, ?_⟩;subst h2
     cases ok with
     |true=>exact⟨[val, .bool true],rfl,_,_,rfl,q3,_,_,rfl,rfl,rfl⟩
     |false=>exact q3
  ·obtain⟨res',q1,q2⟩:=Qp (P:=P) (w:=w) he hy hents h1
   cases res' with
   |some p=>exact q2.elim
   | none=>
     refine⟨_,zv,false,q1, .inr ⟨rfl,rfl,rfl⟩, ?_⟩;subst h2
     cases ok with
     |true=>exact⟨[zv, .bool false],rfl,_,_,rfl,hzR γ,_,_,rfl,rfl,rfl⟩
     |false=>exact hzR γ
 unfold Yf at hes
 split at hes
 ·injection hes with hes;subst hes;simp only[R]at hx;subst hx;obtain⟨res,val,b,q1,q2,q3⟩:=main [] ⟨rfl,fun i k v h=>by simp at h⟩;have hck:=Jdg (P:=P) (w:=w) he hy hf true;refine OpOK.pure hrel (y:=if ok then .tuple #[val, .bool b]else val) ?_ q3;rcases q2 with⟨j,e1,e2⟩|⟨e1,e2,e3⟩
  ·subst e1;subst e2;simp[Instr.lookup,Jf hu,hck,q1]
  ·subst e1;subst e2;subst e3;simp[Instr.lookup,Jf hu,hck,q1,hzr]
 ·rename_i r
  split at hes
  ·rename_i tt es' hs
   injection hes with hes;subst hes;obtain⟨l,ents,h1,h2,h3,h4,h5,h6⟩:=Jak hrel hx (hc r rfl) hs;subst h2;obtain⟨res,val,b,q1,q2,q3⟩:=main ents.toList ⟨by simpa using h5,fun i k v h=>by obtain⟨e,a1,a2,a3,_⟩:=h6 i k v h;exact⟨e,by simpa using a1,a2,a3⟩⟩;have hck:=Jdg (P:=P) (w:=w) he hy hf ents.isEmpty;refine OpOK.pure hrel (y:=if ok then .tuple #[val, .bool b]else val) ?_ q3;rcases q2 with⟨j,e1,e2⟩|⟨e1,e2,e3⟩
   ·subst e1;subst e2;simp[Instr.lookup,Jf hu,hck,q1,Kt h4]
   ·subst e1;subst e2;subst e3;simp[Instr.lookup,Jf hu,hck,q1,hzr,Kt h4]
  ·cases hes
 ·cases hes
end
section
variable {P : Program} {γ : Locs} {ρ : Nat -> Value} {base : Bs} {st : St} {c : Pt -> Row} {w : World} {fr : Fr} {a : Act}
theorem Qo {b n:Nat}{ents:Array MapEntry}{o:Obj}(h:w.heap[b]? =some (.map ents n)):(setObj b o).run P w= .ok () (setB w b o):=by
 simp[setObj,Sem.run,h]
theorem jx {x y:Value}(h:Instr.sameBits 10000 x y=true):(Instr.keyThatStays x y).run P w= .ok y w:=by
 simp[Instr.keyThatStays,h]
theorem Jjh {α:Type}(es:Array α)(i j:Nat)(f:α->α):(es.modify i f)[j]? =if i=j then(es[j]?).map f else es[j]? :=by
 rw[Array.getElem?_modify]
theorem Ja0 {l:Loc}{tt:Nat}{es:List (V×V)}{ents:Array MapEntry}{i:Nat}(h5:ents.size=es.length)
  (h6:∀(i:Nat) (k v:V),es[i]? =some (k,v)->∃e:MapEntry,ents[i]? =some e/\R γ ρ k e.key/\R γ ρ v e.val/\e.born=i) (f:V×V->V×V) (g:MapEntry->MapEntry)
  (hb:∀e,(g e).born=e.born) (hfg:∀k v (e:MapEntry),es[i]? =some (k,v)->R γ ρ k e.key->R γ ρ v e.val->R γ ρ (f (k,v)).1 (g e).key/\R γ ρ (f (k,v)).2 (g e).val) (hl:l.b<w.heap.size):
  Ql γ ρ l (.mob tt (es.modify i f)) (setB w l.b (.map (ents.modify i g) es.length)):=by
 refine⟨ents.modify i g,by rw[List.length_modify];exact QF hl,by simp[h5],fun j k' v' hj=> ?_⟩;rw[List.getElem?_modify]at hj;rw[Jjh];by_cases hij:i=j
 ·subst hij;simp only[if_true]at hj⊢
  cases he:es[i]? with
  |none=>simp[he]at hj
  | some kv=>
    obtain⟨k0,v0⟩:=kv;obtain⟨e,q1,q2,q3,q4⟩:=h6 i k0 v0 he;simp[he]at hj;obtain⟨r1,r2⟩:=hfg k0 v0 e he q2 q3;rw[hj]at r1 r2;exact⟨g e,by simp[q1],r1,r2,by rw[hb,q4]⟩
 ·simp only[hij,if_false]at hj⊢;exact h6 j k' v' (by simpa using hj)
theorem Jg5 {l:Loc}{tt:Nat}{es:List (V×V)}{ents:Array MapEntry}{k v:V}{key val:Value}(h5:ents.size=es.length)
  (h6:∀(i:Nat) (k v:V),es[i]? =some (k,v)->∃e:MapEntry,ents[i]? =some e/\R γ ρ k e.key/\R γ ρ v e.val/\e.born=i) (hk:R γ ρ k key) (hv:R γ ρ v val) (hl:l.b<w.heap.size):
  Ql γ ρ l (.mob tt (es++[(k,v)])) (setB w l.b (.map (ents.push {key,val,born:=es.length}) (es.length+1))):=by
 refine⟨ents.push {key,val,born:=es.length},by rw[List.length_append];exact QF hl,by simp[h5],fun j k' v' hj=> ?_⟩;by_cases hjl:j<es.length
 ·rw[List.getElem?_append_left hjl]at hj;obtain⟨e,q1,q2⟩:=h6 j k' v' hj;exact⟨e,by rw[Array.getElem?_push,if_neg (by omega)];exact q1,q2⟩
 ·have hj':j=es.length:=by
   rw[List.getElem?_append_right (by omega)]at hj;have:=(List.getElem?_eq_some_iff.1 hj).1;simp at this;omega
  subst hj';simp at hj;obtain⟨e1,e2⟩:=hj;subst e1;subst e2;exact⟨_,by rw[Array.getElem?_push,if_pos h5.symm],hk,hv,rfl⟩
theorem Jdh {t kt et:TypeId}{e:EK}{k v:V}{r:Pt}{x y z:Value}{tt:Nat}{es es':List (V×V)}(hu:P.underlying t=some (.map kt et))(he:eqk P kt=some e)(hp:e.plain=true)(hx:R γ ρ (.map r) x)(hy:R γ ρ k y)(hz:R γ ρ v z)
  (hc:γ r≠none->st.row r≠ .none->c r=st.row r) (hs:st.row r= .mob tt es) (hf:e.fit k=true)
  (hv:(∃i w',Ky e k es 0=some (some (i,w'))/\es'=es.modify i fun _=>(k,v))\/(Ky e k es 0=some none/\es'=es++[(k,v)])) (hrel:Rel γ ρ base c w):
  OpOK P γ ρ base st c w JR (.wr r tt fun u=> .mob u es') (do Instr.mapUpdate t x y z;pure .skip):=by
 obtain⟨l,ents,h1,h2,h3,h4,h5,h6⟩:=Jak hrel hx hc hs;subst h2;have hents:qF γ ρ es ents.toList:=⟨by simpa using h5,fun i k v h=>by obtain⟨e,a1,a2,a3,_⟩:=h6 i k v h;exact⟨e,by simpa using a1,a2,a3⟩⟩
 have hck:=Jdg (P:=P) (w:=w) he hy hf false;have hl:=hrel.loc r l h1;rcases hv with⟨i,w',q1,q2⟩|⟨q1,q2⟩
 ·obtain⟨res',p1,p2⟩:=Qp (P:=P) (w:=w) he hy hents q1
  cases res' with
  |none=>exact p2.elim
  | some p=>
    obtain⟨j,val⟩:=p;obtain⟨e1,p3⟩:=p2;subst e1;subst q2;obtain⟨_,k',s1,s2⟩:=JaZ q1;rw[Nat.sub_zero]at s1;obtain⟨en,t1,t2,t3,t4⟩:=h6 _ _ _ s1;have hbits:=qG hp s2 hy t2;refine OpOK.wrote (x:= .skip) (w':=setB w l.b (.map (ents.modify i fun e=>{e with key:=y,val:=z}) es.length)) ?_ (.inr ⟨rfl,rfl⟩)
     (hrel.obj h1 (by rw[h3];trivial) (Ja0 h5 h6 _ _ (fun _=>rfl) (fun _ _ _ _ _ _=>⟨hy,hz⟩) hl.2)) (Below.setB (hl.1 (by rw[h3];rfl)))
    simp[Instr.mapUpdate,Jf hu,Kt h4,hck,p1,t1,jx hbits,Qo h4]
 ·obtain⟨res',p1,p2⟩:=Qp (P:=P) (w:=w) he hy hents q1
  cases res' with
  |some p=>exact p2.elim
  | none=>
    subst q2;refine OpOK.wrote (x:= .skip) (w':=setB w l.b (.map (ents.push {key:=y,val:=z,born:=es.length}) (es.length+1))) ?_ (.inr ⟨rfl,rfl⟩)
     (hrel.obj h1 (by rw[h3];trivial) (Jg5 h5 h6 hy hz hl.2)) (Below.setB (hl.1 (by rw[h3];rfl)))
    simp[Instr.mapUpdate,Jf hu,Kt h4,hck,p1,Qo h4]
theorem Jj3 {t kt et:TypeId}{e:EK}{z k v:V}{r:Pt}{x y:Value}{tt:Nat}{es es':List (V×V)}(hu:P.underlying t=some (.map kt et))(he:eqk P kt=some e)(hp:e.plain=true)(hzz:JeZ P et=some z)(hx:R γ ρ (.map r) x)(hy:R γ ρ k y)
  (hc:γ r≠none->st.row r≠ .none->c r=st.row r) (hs:st.row r= .mob tt es) (hf:e.fit k=true)
  (hv:(∃i w',Ky e k es 0=some (some (i,w'))/\v= .tup [w', .int .i64 i]/\es'=es.modify i fun e=>(k,e.2))\/(Ky e k es 0=some none/\v= .tup [z, .int .i64 es.length]/\es'=es++[(k,z)])) (hrel:Rel γ ρ base c w):
  OpOK P γ ρ base st c w v (.wr r tt fun u=> .mob u es') (do pure (.value (<-Instr.mapEntry t x y))):=by
 obtain⟨l,ents,h1,h2,h3,h4,h5,h6⟩:=Jak hrel hx hc hs;subst h2;obtain⟨zv,hzr,hzR⟩:=Jds (ρ:=ρ) hzz;have hents:qF γ ρ es ents.toList:=⟨by simpa using h5,fun i k v h=>by obtain⟨e,a1,a2,a3,_⟩:=h6 i k v h;exact⟨e,by simpa using a1,a2,a3⟩⟩
 have hck:=Jdg (P:=P) (w:=w) he hy hf false;have hl:=hrel.loc r l h1;rcases hv with⟨i,w',q1,q0,q2⟩|⟨q1,q0,q2⟩
 ·obtain⟨res',p1,p2⟩:=Qp (P:=P) (w:=w) he hy hents q1
  cases res' with
  |none=>exact p2.elim
  | some p=>
    obtain⟨j,val⟩:=p;obtain⟨e1,p3⟩:=p2;subst e1;subst q2;subst q0;obtain⟨_,k',s1,s2⟩:=JaZ q1;rw[Nat.sub_zero]at s1;obtain⟨en,t1,t2,t3,t4⟩:=h6 _ _ _ s1;have hbits:=qG hp s2 hy t2;refine OpOK.wrote (x:= .value (.tuple #[val,goInt i])) (w':=setB w l.b (.map (ents.modify i fun e=>{e with key:=y}) es.length)) ?_ (.inl ⟨_,rfl,[val,goInt i],rfl,_,_,rfl,p3,_,_,rfl,rfl,rfl⟩)
     (hrel.obj h1 (by rw[h3];trivial) (Ja0 h5 h6 _ _ (fun _=>rfl) (fun _ _ _ _ _ hv=>⟨hy,hv⟩) hl.2)) (Below.setB (hl.1 (by rw[h3];rfl)))
    simp[Instr.mapEntry,Jf hu,Kt h4,hck,p1,t1,t4,jx hbits,Qo h4]
 ·obtain⟨res',p1,p2⟩:=Qp (P:=P) (w:=w) he hy hents q1
  cases res' with
  |some p=>exact p2.elim
  | none=>
    subst q2;subst q0;refine OpOK.wrote (x:= .value (.tuple #[zv,goInt es.length])) (w':=setB w l.b (.map (ents.push {key:=y,val:=zv,born:=es.length}) (es.length+1))) ?_ (.inl ⟨_,rfl,[zv,goInt es.length],rfl,_,_,rfl,hzR γ,_,_,rfl,rfl,rfl⟩)
     (hrel.obj h1 (by rw[h3];trivial) (Jg5 h5 h6 hy (hzR γ) hl.2)) (Below.setB (hl.1 (by rw[h3];rfl)))
    simp[Instr.mapEntry,Jf hu,Kt h4,hck,p1,hzr,Qo h4]
end
section
variable {P : Program} {γ : Locs} {ρ : Nat -> Value} {base : Bs} {st : St} {c : Pt -> Row} {w : World} {fr : Fr} {a : Act}
theorem Jgh {es:List (V×V)}{ents:Array MapEntry}{i:Nat}(h5:ents.size=es.length)
  (h6:∀(i:Nat) (k v:V),es[i]? =some (k,v)->∃e:MapEntry,ents[i]? =some e/\R γ ρ k e.key/\R γ ρ v e.val/\e.born=i) (hi:i<es.length):
  ents.findIdx? (fun e=>(e.born:Int)==(i:Int))=some i:=by
 have hb:∀j (hj:j<ents.size),ents[j].born=j:=fun j hj=>by
  have hj':j<es.length:=by omega
  obtain⟨e,q1,_,_,q4⟩:=h6 j es[j].1 es[j].2 (by rw[List.getElem?_eq_getElem hj']);rw[Array.getElem?_eq_getElem hj]at q1;injection q1 with q1;rw[q1,q4]
 rw[Array.findIdx?_eq_some_iff_getElem];refine⟨by omega,by simp[hb],fun j hj=> ?_⟩;simp[hb];omega
theorem Jo3 {t:TypeId}{i:Nat}{k:IntKind}{v:V}{r:Pt}{x z:Value}{tt:Nat}{es:List (V×V)}(hx:R γ ρ (.map r) x)(hz:R γ ρ v z)
  (hc:γ r≠none->st.row r≠ .none->c r=st.row r) (hs:st.row r= .mob tt es) (hi:i<es.length) (hrel:Rel γ ρ base c w):
  OpOK P γ ρ base st c w JR (.wr r tt fun u=> .mob u (es.modify i fun e=>(e.1,v))) (do Instr.entryStore t x (.int k (i:Int)) z;pure .skip):=by
 obtain⟨l,ents,h1,h2,h3,h4,h5,h6⟩:=Jak hrel hx hc hs;subst h2;have hl:=hrel.loc r l h1;refine OpOK.wrote (x:= .skip) (w':=setB w l.b (.map (ents.modify i fun e=>{e with val:=z}) es.length)) ?_ (.inr ⟨rfl,rfl⟩)
  (hrel.obj h1 (by rw[h3];trivial) (Ja0 h5 h6 _ _ (fun _=>rfl) (fun _ _ _ _ hk _=>⟨hk,hz⟩) hl.2)) (Below.setB (hl.1 (by rw[h3];rfl)))
 simp[Instr.entryStore,Kt h4,asInt,asIntOf,Jgh h5 h6 hi,Qo h4]
theorem Jo4 {t:TypeId}{n v:Nat}{x:Value}(hu:P.underlying t=some .string)(hx:R γ ρ (.str n v) x)(hrel:Rel γ ρ base c w)(hnx:γ st.nx=none):
  OpOK P γ ρ base st c w (.ptr st.nx 0) (.new fun t=> .sit t n v 0) (do pure (.value (<-Instr.range t x))):=by
 obtain⟨s,e1,e2,e3⟩:=hx;subst e1;refine OpOK.made (o:= .stringIter s 0) (e:=1) (w':=w.alloc (.stringIter s 0)) hrel hnx ⟨w.drawn,rfl⟩ (y:= .pointer (some ⟨w.heap.size,0,none⟩)) ?_ ⟨_,Jp _ _ _,rfl⟩ ⟨s,Yk _,e2,e3⟩ (fun _=>by decide);simp[Instr.range,Jf hu]
theorem Jg6 {t kt et:TypeId}{x:Value}(hu:P.underlying t=some (.map kt et))(hx:R γ ρ .mnil x)(hrel:Rel γ ρ base c w)(hnx:γ st.nx=none):
  OpOK P γ ρ base st c w (.ptr st.nx 0) (.new fun t=> .mit t none 0 0) (do pure (.value (<-Instr.range t x))):=by
 simp only[R]at hx;subst hx;refine OpOK.made (o:= .mapIter none 0 #[] 0) (e:=1) (w':=w.alloc (.mapIter none 0 #[] 0)) hrel hnx ⟨w.drawn,rfl⟩ (y:= .pointer (some ⟨w.heap.size,0,none⟩)) ?_ ⟨_,Jp _ _ _,rfl⟩
  ⟨none, #[],Yk _,rfl,List.nodup_nil,fun b h=>by simp at h,rfl⟩ (fun _=>by decide)
 simp[Instr.range,Jf hu]
theorem Jo5 {t kt et:TypeId}{r:Pt}{x:Value}{tt:Nat}{es:List (V×V)}(hu:P.underlying t=some (.map kt et))(hx:R γ ρ (.map r) x)(hc:γ r≠none->st.row r≠ .none->c r=st.row r)(hs:st.row r= .mob tt es)(hrel:Rel γ ρ base c w)(hnx:γ st.nx=none):
  OpOK P γ ρ base st c w (.ptr st.nx 0) (.new fun t=> .mit t (some r) es.length 0) (do pure (.value (<-Instr.range t x))):=by
 obtain⟨l,ents,h1,h2,h3,h4,h5,h6⟩:=Jak hrel hx hc hs;subst h2;refine OpOK.made (o:= .mapIter (some l.b) es.length #[] es.length) (e:=1) (w':=w.alloc (.mapIter (some l.b) es.length #[] es.length)) hrel hnx ⟨w.drawn,rfl⟩ (y:= .pointer (some ⟨w.heap.size,0,none⟩)) ?_ ⟨_,Jp _ _ _,rfl⟩
  ⟨some l.b, #[],Yk _,rfl,List.nodup_nil,fun b h=>by simp at h,l,Ext.upd hnx r l h1,rfl⟩ (fun _=>by decide)
 simp[Instr.range,Jf hu,Kt h4]
theorem Jbr (hrel:Rel γ ρ base c w){r:Pt}{x:Value}(hx:R γ ρ (.ptr r 0) x)(hc:γ r≠none->st.row r≠ .none->c r=st.row r){row:Row}(hs:st.row r=row)(ho:row.isObj):
  ∃l,γ r=some l/\x= .pointer (some ⟨l.b,0,none⟩)/\c r=row/\Ql γ ρ l row w:=by
 obtain⟨l,h1,h2,h3,h4⟩:=YD hrel hx hc hs (by intro e;rw[e]at ho;exact ho);have:=hrel.one r l h1 (by rw[h3];cases row<;>first|trivial|exact ho.elim);rw[this.2]at h2;exact⟨l,h1,by simpa using h2,h3,h4⟩
theorem Kv {b:Nat}{o:Obj}(h:w.heap[b]? =some o)(hn:∀cs e f,o≠ .cells cs e f):(getObj b).run P w= .ok o w:=by
 cases o<;>first|exact absurd rfl (hn _ _ _)|simp[getObj,Sem.run,h]
theorem YF {b:Nat}{o o':Obj}(h:w.heap[b]? =some o)(hn:∀cs e f,o≠ .cells cs e f):(setObj b o').run P w= .ok () (setB w b o'):=by
 cases o<;>first|exact absurd rfl (hn _ _ _)|simp[setObj,Sem.run,h]
theorem Jgi {s:ByteArray}{pos:Nat}(h:pos<s.data.toList.length)(hb:Q4 (snum s.data.toList) pos<128):Utf8.decode s pos=(Q4 (snum s.data.toList) pos,1):=by
 have hg:=Jbk s.data.toList pos _ (List.getElem?_eq_getElem h);have hget:(s.get! pos).toNat=Q4 (snum s.data.toList) pos:=by
  rw[hg];congr 1;have hs:pos<s.data.size:=by simpa using h
  show s.data[pos]! =_;rw[getElem!_pos s.data pos hs];simp
 unfold Utf8.decode;simp only[Nat.add_zero,hget];rw[if_pos hb]
theorem Jmq {ty:TypeId}{r:Pt}{x:Value}{tt n v pos:Nat}(hx:R γ ρ (.ptr r 0) x)(hc:γ r≠none->st.row r≠ .none->c r=st.row r)(hs:st.row r= .sit tt n v pos)(hp:pos<n)(hb:Q4 v pos<128)(hrel:Rel γ ρ base c w):
  OpOK P γ ρ base st c w (.tup [.bool true, .int .i64 pos, .int .i32 (Q4 v pos)]) (.wr r tt fun u=> .sit u n v (pos+1)) (do pure (.value (<-Instr.next x true ty))):=by
 obtain⟨l,h1,h2,h3,s,h4,h5,h6⟩:=Jbr hrel hx hc hs trivial;subst h2;have hl:=hrel.loc r l h1;have hsz:s.size=n:=by rw[<-h5];exact(Array.length_toList ..).symm
 have hd:=Jgi (s:=s) (pos:=pos) (by omega) (by rw[h6];exact hb);rw[h6]at hd;refine OpOK.wrote (x:= .value (.tuple #[.bool true,goInt pos, .int .i32 (Q4 v pos)])) (w':=setB w l.b (.stringIter s (pos+1))) ?_ (.inl ⟨_,rfl,[.bool true,goInt pos, .int .i32 (Q4 v pos)],rfl,_,_,rfl,rfl,_,_,rfl,rfl,_,_,rfl,rfl,rfl⟩)
  (hrel.obj h1 (by rw[h3];trivial) ⟨s,QF hl.2,h5,h6⟩) (Below.setB (hl.1 (by rw[h3];rfl)))
 simp[Instr.next,Kv h4 (fun _ _ _ e=>by cases e),hsz,hp,hd,YF h4 (fun _ _ _ e=>by cases e)]
theorem JeW {ty:TypeId}{r:Pt}{x:Value}{tt n v pos:Nat}(hx:R γ ρ (.ptr r 0) x)(hc:γ r≠none->st.row r≠ .none->c r=st.row r)(hs:st.row r= .sit tt n v pos)(hp:pos<n)(hrel:Rel γ ρ base c w):
  OpOK P γ ρ base st c w (.tup [.bool true, .int .i64 pos, .int .i32 (Utf8.decode (jm n v) pos).1]) (.wr r tt fun u=> .sit u n v (pos+(Utf8.decode (jm n v) pos).2)) (do pure (.value (<-Instr.next x true ty))):=by
 obtain⟨l,h1,h2,h3,s,h4,h5,h6⟩:=Jbr hrel hx hc hs trivial;subst h2;have hl:=hrel.loc r l h1;have hsz:s.size=n:=by rw[<-h5];exact(Array.length_toList ..).symm
 have hsb:jm n v=s:=by rw[<-h5,<-h6];exact JcD s
 rw[hsb];refine OpOK.wrote (x:= .value (.tuple #[.bool true,goInt pos, .int .i32 (Utf8.decode s pos).1])) (w':=setB w l.b (.stringIter s (pos+(Utf8.decode s pos).2))) ?_ (.inl ⟨_,rfl,[.bool true,goInt pos, .int .i32 (Utf8.decode s pos).1],rfl,_,_,rfl,rfl,_,_,rfl,rfl,_,_,rfl,rfl,rfl⟩)
  (hrel.obj h1 (by rw[h3];trivial) ⟨s,QF hl.2,h5,h6⟩) (Below.setB (hl.1 (by rw[h3];rfl)))
 simp[Instr.next,Kv h4 (fun _ _ _ e=>by cases e),hsz,hp,YF h4 (fun _ _ _ e=>by cases e)]
theorem Jgj {ty:TypeId}{r:Pt}{x:Value}{tt n v pos:Nat}(hx:R γ ρ (.ptr r 0) x)(hc:γ r≠none->st.row r≠ .none->c r=st.row r)(hs:st.row r= .sit tt n v pos)(hp:¬pos<n)(hrel:Rel γ ρ base c w):
  OpOK P γ ρ base st c w (.tup [.bool false]) .no (do pure (.value (<-Instr.next x true ty))):=by
 obtain⟨l,h1,h2,h3,s,h4,h5,h6⟩:=Jbr hrel hx hc hs trivial;subst h2;have hsz:s.size=n:=by rw[<-h5];exact(Array.length_toList ..).symm
 refine OpOK.pure hrel (y:= .tuple #[.bool false]) ?_ ⟨[.bool false],rfl,_,_,rfl,rfl,rfl⟩;simp[Instr.next,Kv h4 (fun _ _ _ e=>by cases e),hsz,hp]
end
section
variable {P : Program} {γ : Locs} {ρ : Nat -> Value} {base : Bs} {st : St} {c : Pt -> Row} {w : World} {fr : Fr} {a : Act}
theorem qH {z n:Nat}{ad:Addr}{m cp:Nat}{ys:Array Value}(h:(loadCells ad (n*z)).run P w= .ok ys w):(Builtin.firstCells z n (.slice (some ad) m cp)).run P w= .ok ys w:=by
 simp[Builtin.firstCells,h]
theorem QP (hrel:Rel γ ρ base c w){v:V}{x:Value}(hx:R γ ρ v x)(hc:∀r,rowOf v=some r->γ r≠none->st.row r≠ .none->c r=st.row r){z n:Nat}{l:List V}(h:JL st z n v=some l):
  l.length=n*z/\∃ys:List Value,RL γ ρ l ys/\(Builtin.firstCells z n x).run P w= .ok ys.toArray w:=by
 obtain⟨h1,h2⟩:=Jdw (P:=P) hrel hx hc h;refine⟨h1, ?_⟩;rcases h2 with⟨e1,e2,m,cp,e3⟩|⟨ad,m,cp,ys,e3,e4,e5⟩
 ·subst e2;subst e3;exact⟨[],by simp[RL],by simp[Builtin.firstCells]⟩
 ·subst e3;exact⟨ys,e4,qH e5⟩
theorem Rel.hand (h:Rel γ ρ base c w){p q:Pt}{l:Loc}(hp:γ p=some l)(hq:γ q=none){t:Nat}{xs:List V}(hc:c p= .cells t xs){arr arr':Array Value}{elem:TypeId}{fz:Nat×Nat}
  (hb:w.heap[l.b]? =some (.cells arr elem fz)) (hs:arr'.size=arr.size) {o:Nat} (hle:o<=l.e)
  (ho:∀i,i<l.o\/l.o+l.e<=i->arr'[i]? =arr[i]?) {u1 u2:Nat} {ys:List V}
  (hr:Ql (upd γ q (some ⟨l.b,l.o+o,l.e-o⟩)) ρ ⟨l.b,l.o+o,l.e-o⟩ (.cells u2 ys) (setB w l.b (.cells arr' elem fz))):
  Rel (upd γ q (some ⟨l.b,l.o+o,l.e-o⟩)) ρ base (upd (upd c p (.dead u1)) q (.cells u2 ys)) (setB w l.b (.cells arr' elem fz)):=by
 have h1:=h.cells hp hb hs ⟨t,xs,hc⟩ ho (row:= .dead u1) trivial (fun e=>e);have hl:=h.loc p l hp;have hpq:p≠q:=fun e=>by rw[e,hq]at hp;cases hp
 have hx:Ext γ (upd γ q (some ⟨l.b,l.o+o,l.e-o⟩)):=Ext.upd hq;refine⟨h1.low,h1.glob,fun r k e=> ?_,fun r e=> ?_,fun r k k1 k2=> ?_,fun r s lr ls hne k1 k2 a1 a2=> ?_,fun r k k1 k2=> ?_⟩
 ·by_cases er:r=q
  ·subst er;rw[Jp]at e;injection e with e;subst e;exact⟨fun _=>hl.1 (by rw[hc];rfl),by simpa[Eva.setB]using hl.2⟩
  ·rw[Jt _ _ er]at e⊢;exact h1.loc r k e
 ·by_cases er:r=q
  ·subst er;refine⟨_,Jp _ _ _, ?_⟩;rw[Jp];exact hr
  ·have ec:upd (upd c p (.dead u1)) q (.cells u2 ys) r=upd c p (.dead u1) r:=Jt _ _ er;rw[ec]at e;obtain⟨k,k1,k2⟩:=h1.row r e;rw[ec];exact⟨k,hx r k k1,k2.ext hx rfl⟩
 ·by_cases er:r=q
  ·subst er;rw[Jp]at k2;exact k2.elim
  ·rw[Jt _ _ er]at k1 k2;exact h1.one r k k1 k2
 ·have key:∀s ls,s≠q->γ s=some ls->(upd c p (.dead u1) s).alive->Ji8 ⟨l.b,l.o+o,l.e-o⟩ ls:=fun s ls hs k al=>by
   have hsp:s≠p:=fun e=>by rw[e,Jp]at al;exact al
   rw[Jt _ _ hsp]at al;rcases h.sep p s l ls (Ne.symm hsp) hp k (by rw[hc];trivial) al with g|g|g
   ·exact .inl g
   ·exact .inr (.inl (by show l.o+o+(l.e-o)<=ls.o;omega))
   ·exact .inr (.inr (by show ls.o+ls.e<=l.o+o;omega))
  by_cases er:r=q
  ·subst er;rw[Jp]at k1;injection k1 with k1;subst k1;have es:s≠r:=Ne.symm hne;rw[Jt _ _ es]at k2 a2;exact key s ls es k2 a2
  ·by_cases es:s=q
   ·subst es;rw[Jp]at k2;injection k2 with k2;subst k2;rw[Jt _ _ er]at k1 a1;rcases key r lr er k1 a1 with g|g|g
    ·exact .inl (Ne.symm g)
    ·exact .inr (.inr g)
    ·exact .inr (.inl g)
   ·rw[Jt _ _ er]at k1 a1;rw[Jt _ _ es]at k2 a2;exact h1.sep r s lr ls hne k1 k2 a1 a2
 ·by_cases er:r=q
  ·subst er;rw[Jp]at k2;cases k2
  ·rw[Jt _ _ er]at k1 k2;exact h1.ro r k k1 k2
theorem Rel.kill (h:Rel γ ρ base c w){p:Pt}{u t:Nat}{xs:List V}(hc:c p= .cells t xs):Rel γ ρ base (upd c p (.dead u)) w:=by
 refine⟨h.low,h.glob,fun r k e=>⟨fun k2=>(h.loc r k e).1 ?_,(h.loc r k e).2⟩,fun r e=> ?_,fun r k k1 k2=> ?_,fun r s lr ls hne k1 k2 a1 a2=> ?_,fun r k k1 k2=> ?_⟩
 ·by_cases er:r=p
  ·subst er;rw[hc];rfl
  ·rwa [Jt _ _ er]at k2
 ·by_cases er:r=p
  ·subst er;obtain⟨l,k1,k2⟩:=h.row r (by rw[hc];intro e;cases e);exact⟨l,k1,by rw[Jp];trivial⟩
  ·rw[Jt _ _ er]at e⊢;exact h.row r e
 ·by_cases er:r=p
  ·subst er;rw[Jp]at k2;exact k2.elim
  ·rw[Jt _ _ er]at k2;exact h.one r k k1 k2
 ·have er:r≠p:=fun e=>by subst e;rw[Jp]at a1;exact a1
  have es:s≠p:=fun e=>by subst e;rw[Jp]at a2;exact a2
  rw[Jt _ _ er]at a1;rw[Jt _ _ es]at a2;exact h.sep r s lr ls hne k1 k2 a1 a2
 ·by_cases er:r=p
  ·subst er;rw[Jp]at k2;cases k2
  ·rw[Jt _ _ er]at k2;exact h.ro r k k1 k2
theorem Jmr {c:Pt->Row}{p q:Pt}{a b:Row}(h:p≠q):upd (upd c p a) q b=upd (upd c q b) p a:=by
 funext r;by_cases h1:r=p
 ·subst h1;rw[Jt _ _ h,Jp,Jp]
 ·by_cases h2:r=q
  ·subst h2;rw[Jp,Jt _ _ h1,Jp]
  ·rw[Jt _ _ h2,Jt _ _ h1,Jt _ _ h1,Jt _ _ h2]
theorem Jg7 (w:World)(need old:Nat)(e:TypeId):need<=grownCap w need old e:=by
 simp[grownCap,Question.cut]
theorem Jb6 {t u ty e e':TypeId}{i:TypeInfo}{n k cp:Nat}{ad:Option Addr}{y:Value}{olds news:Array Value}{z:Value}(h1:P.underlying t=some (.slice e))(h2:P.underlying u=some (.slice e'))(h3:P.info? e=some i)(h4:i.bytes<=65536)
  (hz:i.zero=some z) (hy:(Builtin.lenOf y).run P w= .ok k w) (hgt:¬n+k<=cp) (hsmall:n+k<=2^25) (ho:(Builtin.firstCells i.size n (.slice ad n cp)).run P w.drew= .ok olds w.drew)
  (hn:(Builtin.firstCells i.size k y).run P w.drew= .ok news w.drew):
  (Builtin.append_ #[t,u] ty #[.slice ad n cp,y]).run P w= .ok (.slice (some ⟨w.heap.size,0,none⟩) (n+k) (grownCap w (n+k) cp e))
   (w.drew.alloc (.cells (olds++news++Builtin.zeroCells z.cells (grownCap w (n+k) cp e-(n+k))) e)):=by
 have h63':¬(9223372036854775807<((n:Int)+(k:Int))):=by omega
 have hb:(n+k)*i.bytes<=140737488355328:=by
  have:=Nat.mul_le_mul hsmall h4;omega
 have hfit:=growslice_fits (old:=cp) (need:=n+k) (bytes:=i.bytes) (by omega) hb;have h48':¬(281474976710656<Builtin.nextslicecap (n+k) cp*i.bytes):=by omega
 simp[Builtin.append_,Jf h1,Jf h2,Go.sizeOf,typeInfo,zeroValue,h3,hz,hy,hgt,h63',h48',Question.forced,ho,hn,newRow,grownCap,Array.append_assoc]
theorem JaJ {t u ty e e':TypeId}{i:TypeInfo}{n k cp:Nat}{ad:Addr}{y:Value}{news:List Value}{w':World}(h1:P.underlying t=some (.slice e))(h2:P.underlying u=some (.slice e'))(h3:P.info? e=some i)
  (hy:(Builtin.lenOf y).run P w= .ok k w) (hle:n+k<=cp) (hn:(Builtin.firstCells i.size k y).run P w= .ok news.toArray w)
  (hst:(storeCells (ad.add (n*i.size)) news).run P w= .ok () w'):
  (Builtin.append_ #[t,u] ty #[.slice (some ad) n cp,y]).run P w= .ok (.slice (some ad) (n+k) cp) w':=by
 simp[Builtin.append_,Jf h1,Jf h2,Go.sizeOf,typeInfo,h3,hy,hle,hn,hst]
theorem Jji {elem:TypeId}{pre:List Value}{arr:Array Value}{t:Nat}{vs:List V}{γ':Locs}(hy:RL γ' ρ vs pre)(ha:∃rest,arr.toList=pre++rest){e:Nat}(he:e=arr.size){w:World}:
  Ql γ' ρ ⟨w.heap.size,0,e⟩ (.cells t vs) (w.alloc (.cells arr elem)):=by
 subst he;obtain⟨rest,ha⟩:=ha;have hl:=hy.length;have hsz:arr.size=pre.length+rest.length:=by rw[<-Array.length_toList,ha];simp
 refine⟨arr,elem,(0,0), ?_,by simp,by show vs.length<=arr.size;omega,fun i v hv=> ?_,fun i _=>by simp⟩
 ·show(w.heap.push _)[w.heap.size]? =_;simp
 ·obtain⟨x,hx,hr⟩:=hy.get hv;refine⟨x, ?_,hr⟩;have hi:i<pre.length:=(List.getElem?_eq_some_iff.1 hx).1;rw[Nat.zero_add,<-Array.getElem?_toList,ha,List.getElem?_append_left hi];exact hx
theorem JdA (z:Array Value)(n:Nat):(Builtin.zeroCells z n).size=n*z.size:=by simp[Builtin.zeroCells]
theorem Below.fields {B:Nat}{w w' w'':World}(h:Below B w w')(e1:w''.heap=w'.heap)(e2:w''.os=w'.os)(e3:w''.tape=w'.tape)(e4:w''.output=w'.output):Below B w w'':=
 ⟨by rw[e2];exact h.os,by rw[e3];exact h.tape,by rw[e4];exact h.output,by rw[e1];exact h.size,fun b k=>by rw[e1];exact h.block b k⟩
theorem JlJ (hrel:Rel γ ρ base c w)(hnx:γ st.nx=none){e:TypeId}{z k n cap:Nat}{ols new:List V}{olds news:List Value}(ho:RL γ ρ ols olds)(hn:RL γ ρ new news)(hol:ols.length=n*z)(hnl:new.length=k*z)
  (hcap:n+k<=cap) {rest:Array Value} (hrest:rest.size=(cap-(n+k))*z):
  ∃γ',R γ' ρ (.sl st.nx 0 (n+k) z) (.slice (some ⟨w.heap.size,0,none⟩) (n+k) cap)/\(∀u,Rel γ' ρ base (upd c st.nx (.cells u (ols++new))) (w.drew.alloc (.cells (olds.toArray++news.toArray++rest) e)))/\Ext γ γ'/\
   (∀r,γ' r≠none->γ r≠none\/r=st.nx)/\Below base.n w (w.drew.alloc (.cells (olds.toArray++news.toArray++rest) e)):=by
 have hx:Ext γ (upd γ st.nx (some ⟨w.heap.size,0,(olds.toArray++news.toArray++rest).size⟩)):=Ext.upd hnx;have hsz:(olds.toArray++news.toArray++rest).size=cap*z:=by
  have h1:=ho.length;have h2:=hn.length;simp only[Array.size_append,List.size_toArray,h1,h2,hol,hnl,hrest];rw[<-Nat.add_mul,<-Nat.add_mul];congr 1;omega
 refine⟨_,⟨_,⟨w.heap.size,0,none⟩,cap,Jp _ _ _,rfl,hcap,fun _=>rfl, ?_⟩,fun u=> ?_,hx,fun r k=> ?_, ?_⟩
 ·simp only[hsz,Nat.zero_add,Nat.le_refl]
 ·refine(hrel.heap (w':=w.drew) rfl).alloc hnx (Jji (pre:=olds++news) ((RL.append ho hn).ext hx) ⟨rest.toList,by simp⟩ rfl) (fun h=>h.elim)
 ·by_cases er:r=st.nx
  ·exact .inr er
  ·rw[Jt _ _ er]at k;exact .inl k
 ·exact Eva.Below.fields ((Below.refl base.n w).alloc hrel.low _) rfl rfl rfl rfl
theorem Jo6 {v:V}{x:Value}{n:Nat}(h:slen v=some n)(hx:R γ ρ v x):∃ad cp,x= .slice ad n cp/\n<=cp:=by
 unfold slen at h
 split at h
 ·injection h with h;subst h;simp only[R]at hx;exact⟨_,_,hx,Nat.le_refl _⟩
 ·injection h with h;subst h;obtain⟨l,a,cp,_,k,k2,_⟩:=hx;exact⟨_,_,k,k2⟩
 ·injection h with h;subst h;obtain⟨l,a,_,k,k2,_⟩:=hx;exact⟨_,_,k,k2⟩
 ·cases h
theorem Jdd {t u ty e e':TypeId}{i:TypeInfo}{n cp:Nat}{ad:Option Addr}{y:Value}(h1:P.underlying t=some (.slice e))(h2:P.underlying u=some (.slice e'))(h3:P.info? e=some i)
  (hy:(Builtin.lenOf y).run P w= .ok 0 w) (hle:n<=cp) (hn:(Builtin.firstCells i.size 0 y).run P w= .ok #[] w):
  (Builtin.append_ #[t,u] ty #[.slice ad n cp,y]).run P w= .ok (.slice ad n cp) w:=by
 cases ad<;>simp[Builtin.append_,Jf h1,Jf h2,Go.sizeOf,typeInfo,h3,hy,hle,hn,storeCells]
theorem Jq1 (hρ:∀i,(ρ i).oneCell'=true){t u ty e e':TypeId}{i:TypeInfo}{zv:Value}(h1:P.underlying t=some (.slice e))(h2:P.underlying u=some (.slice e'))(h3:P.info? e=some i)(h4:i.bytes<=65536)
  (hz:i.zero=some zv) (hzs:zv.cells.size=i.size) {s x v:V} {ef:Eff} {xs xx:Value} (hs:R γ ρ s xs) (hx:R γ ρ x xx)
  (hcs:∀r,rowOf s=some r->γ r≠none->st.row r≠ .none->c r=st.row r) (hcx:∀r,rowOf x=some r->γ r≠none->st.row r≠ .none->c r=st.row r) (hrel:Rel γ ρ base c w)
  (hnx:ef.makes=true->γ st.nx=none) {k:Nat} {new:List V} (hk:slen x=some k) (hn:JL st i.size k x=some new) (hk2:k<2^20) (hsc:Km new=true) (h:JE st i.size k new s=some (v,ef)):
  OpOK P γ ρ base st c w v ef (do pure (.value (<-Builtin.append_ #[t,u] ty #[xs,xx]))):=by
 obtain⟨hnl,news,hnew,hnr⟩:=QP (P:=P) hrel hx hcx hn;obtain⟨_,news',hnew',hnr'⟩:=QP (P:=P) (hrel.heap (w':=w.drew) rfl) hx hcx hn;obtain⟨adx,cpx,ex⟩:=YE hk hx;have hlen:(Builtin.lenOf xx).run P w= .ok k w:=by subst ex;rfl
 have hone:∀v∈news,v.oneCell'=true:=fun v hv=>by
  obtain⟨i,hi⟩:=List.mem_iff_getElem?.1 hv;have hi':i<new.length:=by have:=(List.getElem?_eq_some_iff.1 hi).1;have:=hnew.length;omega
  obtain⟨x,hx,hr⟩:=hnew.get (List.getElem?_eq_getElem hi');rw[hi]at hx;injection hx with hx;subst hx;exact Je1 hρ (List.all_eq_true.1 hsc _ (List.getElem_mem hi')) hr
 have grow:∀{n:Nat} {ad:Option Addr} {cp:Nat} {ols:List V} {olds:List Value},xs= .slice ad n cp->n+k<=2^25->¬n+k<=cp->RL γ ρ ols olds->ols.length=n*i.size->(Builtin.firstCells i.size n (.slice ad n cp)).run P w.drew= .ok olds.toArray w.drew->γ st.nx=none->
   ∃γ' y w',(Builtin.append_ #[t,u] ty #[xs,xx]).run P w= .ok y w'/\R γ' ρ (.sl st.nx 0 (n+k) i.size) y/\(∀u,Rel γ' ρ base (upd c st.nx (.cells u (ols++new))) w')/\Ext γ γ'/\
    (∀r,γ' r≠none->γ r≠none\/r=st.nx)/\Below base.n w w':=by
  intro n ad cp ols olds exs hsm hgt hol hll hof hnn;have hg:=Jb6 (P:=P) (ty:=ty) h1 h2 h3 h4 hz hlen hgt hsm hof hnr';obtain⟨γ',a1,a2,a3,a4,a5⟩:=JlJ (e:=e) hrel hnn hol hnew' hll hnl (Jg7 w (n+k) cp e) (rest:=Builtin.zeroCells zv.cells (grownCap w (n+k) cp e-(n+k))) (by rw[JdA,hzs]);subst exs;exact⟨γ',_,_,hg,a1,a2,a3,a4,a5⟩
 unfold JE at h;by_cases hk0:k=0
 ·rw[if_pos hk0]at h
  split at h
  ·rename_i hsome
   injection h with h;injection h with ha hb;subst ha;subst hb;obtain⟨n,hsl⟩:=Option.isSome_iff_exists.1 hsome;obtain⟨ad,cp,exs,hle⟩:=Jo6 hsl hs;subst hk0;have hnews:news=[]:=List.eq_nil_of_length_eq_zero (by rw[hnew.length,hnl];simp);subst hnews;have:=Jdd (P:=P) (ty:=ty) (ad:=ad) h1 h2 h3 hlen hle hnr;exact OpOK.pure hrel (y:=xs) (by subst exs;simp[this]) hs
  ·cases h
 ·rw[if_neg hk0]at h
  split at h
  ·injection h with h;injection h with ha hb;subst ha;subst hb;simp only[R]at hs;obtain⟨γ',y,w',a1,a2,a3,a4,a5,a6⟩:=grow (n:=0) (ols:=[]) (olds:=[]) hs (by omega) (by omega) (by simp[RL]) (by simp) (by simp[Builtin.firstCells]) (hnx rfl);rw[Nat.zero_add]at a2;exact⟨_,w',γ',by simp[a1], .inl ⟨y,rfl,a2⟩,by simpa[Eff.on]using a3 st.t,a4,fun r k=>(a5 r k).imp id fun e=>⟨e,rfl⟩,a6⟩
  ·rename_i r o n z'
   split at h
   ·cases h
   ·rename_i hcond
    simp only[not_or,Nat.not_lt,ne_eq,Decidable.not_not]at hcond;obtain⟨hzz,hsm⟩:=hcond;subst hzz
    split at h
    ·rename_i tt l hrow
     split at h
     ·rename_i hll
      injection h with h;injection h with ha hb;subst ha;subst hb;have hs':=hs;obtain⟨lo,ad,cp,g1,g2,g3,g4,g5⟩:=hs';have hnn:=hnx rfl;have hcr:c r= .cells tt l:=by rw[hcs r rfl (by rw[g1];simp) (by rw[hrow];intro e;cases e),hrow]
      have hrn:r≠st.nx:=fun e=>by rw[e,hnn]at g1;cases g1
      by_cases hroom:n+k<=cp
      ·have had:=g4 (by omega);subst had;obtain⟨lo',k1,k2⟩:=hrel.row r (by rw[hcr];intro e;cases e);rw[g1]at k1;injection k1 with k1;subst k1;rw[hcr]at k2;obtain⟨arr,elem,fz,m1,m2,m3,m4,m5⟩:=k2;have hl:=hrel.loc r lo g1;have hnw:=hnew.length;have hmul:(n+k)*i.size<=cp*i.size:=Nat.mul_le_mul_right _ hroom;rw[Nat.add_mul]at hmul;obtain⟨arr',e1,e2,e3,e4⟩:=Yi (P:=P) (b:=lo.b) (o:=lo.o+o+n*i.size) (elem:=elem) (fz:=fz) news 0 w arr m1 (by omega)
        (fun j hj=>by have:=m5 (o+n*i.size+j) (by omega);rwa [show lo.o+o+n*i.size+0+j=lo.o+(o+n*i.size+j) by omega]) hone
       simp only[Nat.add_zero]at e2 e3;have hrun:=JaJ (P:=P) (ty:=ty) h1 h2 h3 hlen hroom hnr (ad:=⟨lo.b,lo.o+o,none⟩) (w':=setB w lo.b (.cells arr' elem fz)) (by rw[Yh];exact e4);have hx2:Ext γ (upd γ st.nx (some ⟨lo.b,lo.o+o,lo.e-o⟩)):=Ext.upd hnn;have hold:((l.drop o).take (n*i.size)).length=n*i.size:=by simp;omega
       have hrow2:Ql (upd γ st.nx (some ⟨lo.b,lo.o+o,lo.e-o⟩)) ρ ⟨lo.b,lo.o+o,lo.e-o⟩ (.cells (st.t+1) ((l.drop o).take (n*i.size)++new)) (setB w lo.b (.cells arr' elem fz)):=by
        refine⟨arr',elem,fz,QF hl.2,by show lo.o+o+(lo.e-o)<=_;omega,by show _<=lo.e-o;rw[List.length_append,hold];omega,fun j v hv=> ?_,fun j hj=> ?_⟩
        ·show∃x,arr'[lo.o+o+j]? =some x/\_;by_cases hj:j<n*i.size
         ·rw[List.getElem?_append_left (by omega),List.getElem?_take_of_lt hj,List.getElem?_drop]at hv;obtain⟨x,p1,p2⟩:=m4 _ _ hv;refine⟨x, ?_,p2.ext hx2⟩;rw[e2 _ (by omega),Nat.add_assoc];exact p1
         ·rw[List.getElem?_append_right (by omega),hold]at hv;obtain⟨x,p1,p2⟩:=hnew.get hv;have:=e3 _ _ p1;rw[show lo.o+o+n*i.size+(j-n*i.size)=lo.o+o+j by omega]at this;exact⟨x,this,p2.ext hx2⟩
        ·have hj':j<lo.e-o:=hj;have:=m5 (o+j) (by omega);show¬(fz.1<=lo.o+o+j/\lo.o+o+j<fz.2)
         rwa [Nat.add_assoc]
       refine⟨_,_,_,by subst g2;simp[hrun], .inl ⟨_,rfl,⟨_,⟨lo.b,lo.o+o,none⟩,cp,Jp _ _ _,rfl,hroom,fun _=>rfl, ?_⟩⟩,
        Rel.hand (u1:=st.t) hrel g1 hnn hcr m1 e1 (o:=o) (by omega) (fun j hj=>e2 j (by omega)) hrow2,hx2,fun q hq=> ?_,Below.setB (hl.1 (by rw[hcr];rfl))⟩
       ·show 0+cp*i.size<=lo.e-o;omega
       ·by_cases er:q=st.nx
        ·exact .inr ⟨er,rfl⟩
        ·rw[Jt _ _ er]at hq;exact .inl hq
      ·obtain⟨q1,olds,q2,q3⟩:=QP (P:=P) (w:=w.drew) (z:=i.size) (n:=n) (l:=(l.drop o).take (n*i.size)) (hrel.heap rfl) hs hcs (by simp[JL,KG,hrow,hll]);subst g2;obtain⟨γ',y,w',a1,a2,a3,a4,a5,a6⟩:=grow rfl (by omega) hroom q2 q1 q3 hnn;refine⟨_,w',γ',by simp[a1], .inl ⟨y,rfl,a2⟩, ?_,a4,fun r k=>(a5 r k).imp id fun e=>⟨e,rfl⟩,a6⟩;show Rel γ' ρ base (upd (upd c r (.dead st.t)) st.nx (.cells (st.t+1) ((l.drop o).take (n*i.size)++new))) w';rw[Jmr hrn];exact(a3 (st.t+1)).kill (t:=tt) (xs:=l) (by rw[Jt _ _ hrn];exact hcr)
     ·cases h
    ·cases h
  ·rename_i r o n z' cc
   split at h
   ·cases h
   ·rename_i hcond
    simp only[not_or,Nat.not_lt,ne_eq,Decidable.not_not]at hcond;obtain⟨hzz,hsm⟩:=hcond;subst hzz
    split at h
    ·rename_i tt l hrow
     split at h
     ·rename_i hll
      have hs':=hs;obtain⟨lo,ad,g1,g2,g3,g4,g5⟩:=hs';have hcr:c r= .cells tt l:=by rw[hcs r rfl (by rw[g1];simp) (by rw[hrow];intro e;cases e),hrow]
      split at h
      ·rename_i hroom
       split at h
       ·rename_i hl2
        injection h with h;injection h with ha hb;subst ha;subst hb;have had:=g4 (by omega);subst had;rw[Nat.add_mul]at hl2;obtain⟨w',e1,e2,e3⟩:=jn (P:=P) (u:=st.t) hρ hrel g1 hcr (o:=o+n*i.size) (by omega) hsc hnew;have hrun:=JaJ (P:=P) (ty:=ty) h1 h2 h3 hlen hroom hnr (ad:=⟨lo.b,lo.o+o,none⟩) (w':=w') (by rw[Yh,Nat.add_assoc];exact e1);exact OpOK.wrote (by subst g2;simp[hrun]) (.inl ⟨_,rfl,⟨lo,_,g1,rfl,hroom,fun _=>rfl,g5⟩⟩) e2 e3
       ·cases h
      ·rename_i hroom
       injection h with h;injection h with ha hb;subst ha;subst hb;obtain⟨q1,olds,q2,q3⟩:=QP (P:=P) (w:=w.drew) (z:=i.size) (n:=n) (l:=(l.drop o).take (n*i.size)) (hrel.heap rfl) hs hcs (by simp[JL,KG,hrow,hll]);subst g2;obtain⟨γ',y,w',a1,a2,a3,a4,a5,a6⟩:=grow rfl (by omega) hroom q2 q1 q3 (hnx rfl);exact⟨_,w',γ',by simp[a1], .inl ⟨y,rfl,a2⟩,by simpa[Eff.on]using a3 st.t,a4,fun r k=>(a5 r k).imp id fun e=>⟨e,rfl⟩,a6⟩
     ·cases h
    ·cases h
  ·cases h
end
section
variable {P : Program} {γ : Locs} {ρ : Nat -> Value} {base : Bs} {st : St} {c : Pt -> Row} {w : World} {fr : Fr} {a : Act}
theorem JcI {v p:V}{x:Value}{n:Nat}(h:qu v=some p)(hs:slen v=some n)(hn:n≠0)(hx:R γ ρ v x):∃ad cp,x= .slice (some ad) n cp/\R γ ρ p (.pointer (some ad))/\rowOf p=rowOf v:=by
 unfold qu at h
 split at h
 ·injection h with h;subst h;simp only[slen,Option.some.injEq]at hs;subst hs;obtain⟨l,a,cp,k1,k2,k3,k4,_⟩:=hx;exact⟨a,cp,k2,⟨l,k1,by rw[k4 (by omega)]⟩,rfl⟩
 ·injection h with h;subst h;simp only[slen,Option.some.injEq]at hs;subst hs;obtain⟨l,a,k1,k2,k3,k4,_⟩:=hx;exact⟨a,_,k2,⟨l,k1,by rw[k4 (by omega)]⟩,rfl⟩
 ·cases h
theorem JaK (hρ:∀i,(ρ i).oneCell'=true){p:V}{ad:Addr}{vs:List V}{ys:List Value}{e:Eff}(hp:R γ ρ p (.pointer (some ad)))(hc:∀r,rowOf p=some r->γ r≠none->st.row r≠ .none->c r=st.row r)
  (hrel:Rel γ ρ base c w) (hy:RL γ ρ vs ys) (h:JN st p vs=some e):
  ∃r tt f w',e= .wr r tt f/\(storeCells ad ys).run P w= .ok () w'/\Rel γ ρ base (upd c r (f st.t)) w'/\Below base.n w w':=by
 unfold JN at h
 split at h
 ·rename_i r o
  split at h
  ·rename_i tt xs hs
   split at h
   ·rename_i hle
    injection h with h;subst h;obtain⟨lo,k1,k2,k3,k4⟩:=YD hrel hp (hc r rfl) hs (by intro e;cases e);injection k2 with k2;injection k2 with k2;subst k2;obtain⟨w',e1,e2,e3⟩:=jn (P:=P) (u:=st.t) hρ hrel k1 k3 hle.1 hle.2 hy;exact⟨_,_,_,w',rfl,e1,e2,e3⟩
   ·cases h
  ·cases h
 ·cases h
theorem JcJ {γ:Locs}{ρ:Nat->Value}:∀(k:Nat) (l:List UInt8),k<=l.length->RL γ ρ (QN k (snum l)) ((l.take k).map fun b=>Value.int .u8 b.toNat)
 |0,_,_=>rfl
 |k+1,[],h=>absurd h (by simp)
 | k+1,b::l,h=>by
   have hb:b.toNat<256:=b.toNat_lt;rw[QN,snum,show(b.toNat+256*snum l)%256=b.toNat by omega,show(b.toNat+256*snum l)/256=snum l by omega];exact⟨_,_,rfl,rfl,JcJ k l (by simpa using h)⟩
theorem Jbs :∀k v:Nat,(QN k v).length=k
 |0,_=>rfl
 |k+1,v=>by rw[QN,List.length_cons,Jbs k]
theorem JlK (hrel:Rel γ ρ base c w){v:V}{x:Value}(hx:R γ ρ v x)(hc:∀r,rowOf v=some r->γ r≠none->st.row r≠ .none->c r=st.row r){z n:Nat}{l:List V}(h:cellsX st z n v=some l):
  l.length=n*z/\∃ys:List Value,RL γ ρ l ys/\(Builtin.firstCells z n x).run P w= .ok ys.toArray w:=by
 unfold cellsX at h
 split at h
 ·rename_i m s
  split at h
  ·rename_i hz
   obtain⟨rfl,hm⟩:=hz;injection h with h;subst h;obtain⟨b,rfl,h1,h2⟩:=hx;refine⟨by rw[Jbs,Nat.mul_one],_,by rw[<-h2];exact JcJ n _ (by omega), ?_⟩;have e:(b.extract 0 n).data=(b.data.toList.take n).toArray:=by
    apply Array.ext';simp[ByteArray.data_extract,Array.toList_extract,List.extract_eq_take_drop]
   simp only[Builtin.firstCells,e,List.map_toArray];rfl
  ·cases h
 ·exact QP hrel hx hc h
theorem Jo7 {v:V}{x:Value}{k:Nat}(h:slenX v=some k)(hx:R γ ρ v x):(Builtin.lenOf x).run P w= .ok k w:=by
 unfold slenX at h
 split at h
 ·injection h with h;subst h;obtain⟨b,rfl,h1,h2⟩:=hx;rw[<-h1,show b.data.toList.length=b.size by rw[Array.length_toList,ByteArray.size_data]];rfl
 ·obtain⟨adx,cpx,ex⟩:=YE h hx;subst ex;rfl
theorem Jj4 (hρ:∀i,(ρ i).oneCell'=true){t ty e:TypeId}{z:Nat}(h1:P.underlying t=some (.slice e))(h3:szT P e=some z){d x:V}{xd xx:Value}(hd:R γ ρ d xd)(hx:R γ ρ x xx)
  {tys:Array TypeId} (ht:tys[0]? =some t)
  (hcd:∀r,rowOf d=some r->γ r≠none->st.row r≠ .none->c r=st.row r) (hcx:∀r,rowOf x=some r->γ r≠none->st.row r≠ .none->c r=st.row r) (hrel:Rel γ ρ base c w)
  {n k:Nat} {vs:List V} (hn:slen d=some n) (hk:slenX x=some k) (hvs:cellsX st z (Nat.min k n) x=some vs) {v:V} {ef:Eff}
  (h:(if Nat.min k n=0 then some (V.int .i64 0,Eff.no)else match qu d with
    |some p=>(JN st p vs).map fun e=>(V.int .i64 (Nat.min k n),e)
    |none=>none)=some (v,ef)):
  OpOK P γ ρ base st c w v ef (do pure (.value (<-Builtin.copy_ tys ty #[xd,xx]))):=by
 obtain⟨hnl,news,hnew,hnr⟩:=JlK (P:=P) hrel hx hcx hvs;have hlen:(Builtin.lenOf xx).run P w= .ok k w:=Jo7 hk hx
 split at h
 ·rename_i h0
  injection h with h;injection h with ha hb;subst ha;subst hb;obtain⟨ad,cp,ed⟩:=YE hn hd;have hnews:news=[]:=List.eq_nil_of_length_eq_zero (by rw[hnew.length,hnl,h0];simp);subst hnews;rw[h0]at hnr;refine OpOK.pure hrel (y:=goInt 0) ?_ rfl;subst ed;have h0':min k n=0:=h0
  cases ad<;>simp[Builtin.copy_,ht,Jf h1,hlen,JQ h3,hnr,h0',storeCells]
 ·rename_i h0
  split at h
  ·rename_i p hp
   cases hst:JN st p vs with
   |none=>simp[hst]at h
   | some e=>
     simp only[hst,Option.map_some,Option.some.injEq,Prod.mk.injEq]at h;obtain⟨ha,hb⟩:=h;subst ha;subst hb;obtain⟨ad,cp,ed,hpr,hro⟩:=JcI hp hn (fun e=>h0 (by subst e;simp)) hd;obtain⟨r,tt,f,w',e1,e2,e3,e4⟩:=JaK (P:=P) hρ hpr (by rw[hro];exact hcd) hrel hnew hst;subst e1;refine OpOK.wrote (x:= .value (goInt (Nat.min k n))) ?_ (.inl ⟨_,rfl,rfl⟩) e3 e4;subst ed;have hnr':(Builtin.firstCells z (min k n) xx).run P w= .ok news.toArray w:=hnr;simp[Builtin.copy_,ht,Jf h1,hlen,JQ h3,hnr',e2]
  ·cases h
theorem Jms (hρ:∀i,(ρ i).oneCell'=true){t ty e:TypeId}{z:Nat}{zs:List V}(h1:P.underlying t=some (.slice e))(h3:KI P e=some zs){x:V}{xx:Value}(hx:R γ ρ x xx)
  {tys:Array TypeId} (ht:tys[0]? =some t)
  (hcx:∀r,rowOf x=some r->γ r≠none->st.row r≠ .none->c r=st.row r) (hrel:Rel γ ρ base c w)
  {n:Nat} (hn:slen x=some n) {v:V} {ef:Eff}
  (h:(if n=0 then some (JR,Eff.no)else match qu x with
    |some p=>if zs.length=z then(JN st p (List.replicate n zs).flatten).map fun e=>(JR,e)else none
    |none=>none)=some (v,ef)):
  OpOK P γ ρ base st c w v ef (do pure (.value (<-Builtin.clear_ tys ty #[xx]))):=by
 split at h
 ·rename_i h0
  injection h with h;injection h with ha hb;subst ha;subst hb;subst h0;obtain⟨ad,cp,ed⟩:=YE hn hx;refine OpOK.pure hrel (y:= .tuple #[]) ?_ ⟨[],rfl,rfl⟩;subst ed
  cases ad<;>simp[Builtin.clear_,ht,Jf h1]
 ·rename_i h0
  split at h
  ·rename_i p hp
   split at h
   ·cases hst:JN st p (List.replicate n zs).flatten with
    |none=>simp[hst]at h
    | some e=>
      simp only[hst,Option.map_some,Option.some.injEq,Prod.mk.injEq]at h;obtain⟨ha,hb⟩:=h;subst ha;subst hb;obtain⟨zv,hzr,hr⟩:=KY (ρ:=ρ) h3;obtain⟨ad,cp,ed,hpr,hro⟩:=JcI hp hn h0 hx;have hfl:RL γ ρ (List.replicate n zs).flatten (Builtin.zeroCells zv.cells n).toList:=by
       unfold Builtin.zeroCells;rw[JaW n zv.cells.size zv.cells rfl];exact RL.flat_replicate (hr γ) n
      obtain⟨r,tt,f,w',e1,e2,e3,e4⟩:=JaK (P:=P) hρ hpr (by rw[hro];exact hcx) hrel hfl hst;subst e1;refine OpOK.wrote (x:= .value (.tuple #[])) ?_ (.inl ⟨_,rfl,[],rfl,rfl⟩) e3 e4;subst ed;obtain⟨n,rfl⟩:∃m,n=m+1:=⟨n-1,by omega⟩
      simp[Builtin.clear_,ht,Jf h1,hzr,e2]
   ·cases h
  ·cases h
theorem jT {l:List Nat}:∀{q:List Nat},l.Nodup->(∀b∈l,b∈q)->l.length<=q.length:=by
 induction l with
 |nil=>intro q _ _;simp
 | cons a l ih=>
   intro q hn hs;rw[List.nodup_cons]at hn;have ha:a∈q:=hs a (by simp);have:=ih (q:=q.erase a) hn.2 fun b hb=>(List.mem_erase_of_ne (fun e=>hn.1 (by rw[<-e];exact hb))).2 (hs b (by simp[hb]));rw[List.length_erase_of_mem ha]at this;have hq:0<q.length:=List.length_pos_of_mem ha;simp only[List.length_cons];omega
theorem Jq2 {l:List Nat}{n:Nat}(h1:l.Nodup)(h2:∀b∈l,b<n)(h3:l.length=n){i:Nat}(hi:i<n):i∈l:=by
 apply Decidable.byContradiction;intro hni;have:=jT (l:=i::l) (q:=List.range n) (List.nodup_cons.2 ⟨hni,h1⟩) fun b hb=>by
  rw[List.mem_range];rcases List.mem_cons.1 hb with e|e
  ·subst e;exact hi
  ·exact h2 b e
 simp at this;omega
theorem Jo8 {l:List Nat}{n:Nat}(h3:l.length<n):∃i,i<n/\i∉l:=by
 apply Decidable.byContradiction;intro hno;have:=jT (l:=List.range n) (q:=l) List.nodup_range fun b hb=>by
  rw[List.mem_range]at hb;exact Decidable.byContradiction fun hni=>hno ⟨b,hb,hni⟩
 simp at this;omega
theorem Jq3 {l:List Nat}{n:Nat}(h1:l.Nodup)(h2:∀b∈l,b<n):l.length<=n:=by
 have:=jT (l:=l) (q:=List.range n) h1 fun b hb=>by rw[List.mem_range];exact h2 b hb
 simpa using this
theorem Jgk {ty:TypeId}{r:Pt}{x:Value}{tt n0 cnt:Nat}(hx:R γ ρ (.ptr r 0) x)(hc:γ r≠none->st.row r≠ .none->c r=st.row r)(hs:st.row r= .mit tt none n0 cnt)(hrel:Rel γ ρ base c w):
  OpOK P γ ρ base st c w (.tup [.bool false]) .no (do pure (.value (<-Instr.next x false ty))):=by
 obtain⟨l,h1,h2,h3,mm,seen,h4,_,_,_,h5⟩:=Jbr hrel hx hc hs trivial;subst h2;have h5:mm=none:=h5;subst h5;refine OpOK.pure hrel (y:= .tuple #[.bool false]) ?_ ⟨[.bool false],rfl,_,_,rfl,rfl,rfl⟩;simp[Instr.next,Kv h4 (fun _ _ _ e=>by cases e)]
theorem Jde {n:Nat}(hn:0<n):∃i w',(choose (.mapNext n)).run P w= .ok i w'/\i<n/\w'.heap=w.heap/\w'.os=w.os/\w'.tape=w.tape/\w'.output=w.output:=by
 by_cases h:n<=1
 ·exact⟨0,w,by simp[Question.forced,h],hn,rfl,rfl,rfl,rfl⟩
 ·exact⟨_,w.drew,by simp[Question.forced,h];rfl,by simp[Question.cut];exact Nat.mod_lt _ hn,rfl,rfl,rfl,rfl⟩
theorem Jmt {ty:TypeId}{r m:Pt}{x:Value}{tt t2 n0 cnt:Nat}{es:List (V×V)}(hx:R γ ρ (.ptr r 0) x)(hc:∀r,γ r≠none->st.row r≠ .none->c r=st.row r)(hs:st.row r= .mit tt (some m) n0 cnt)(hm:st.row m= .mob t2 es)
  (hn:es.length=n0) (hrel:Rel γ ρ base c w) {v:V} {ef:Eff}
  (h:(if cnt<n0 then some (V.tup [.bool true, .any, .any],Eff.wr r tt fun u=> .mit u (some m) n0 (cnt+1))else some (.tup [.bool false], .no))=some (v,ef)):
  OpOK P γ ρ base st c w v ef (do pure (.value (<-Instr.next x false ty))):=by
 obtain⟨l,h1,h2,h3,mm,seen,h4,h5,h6,h7,lm,h8,h9⟩:=Jbr hrel hx (hc r) hs trivial;subst h2;subst h9;have hl:=hrel.loc r l h1;have hcm:c m= .mob t2 es:=by rw[hc m (by rw[h8];simp) (by rw[hm];intro e;cases e),hm]
 have hrow:=hrel.row m (by rw[hcm];intro e;cases e);rw[hcm]at hrow;obtain⟨lm',k1,ents,k2,k3,k4⟩:=hrow;rw[h8]at k1;injection k1 with k1;subst k1;have hborn:∀i,i<n0->∃e,ents[i]? =some e/\e.born=i:=fun i hi=>by
  obtain⟨e,q1,_,_,q2⟩:=k4 i _ _ (List.getElem?_eq_getElem (by omega));exact⟨e,q1,q2⟩
 have hlt:∀e∈ents.toList,e.born<n0:=fun e he=>by
  obtain⟨i,hi⟩:=List.mem_iff_getElem?.1 he;rw[Array.getElem?_toList]at hi;have hi':i<ents.size:=(Array.getElem?_eq_some_iff.1 hi).1;obtain⟨e',q1,q2⟩:=hborn i (by omega);rw[hi]at q1;injection q1 with q1;rw[q1,q2];omega
 have hsl:seen.toList.length=cnt:=by rw[Array.length_toList,h5]
 have hgone:(!seen.isEmpty&& !ents.isEmpty&&ents.all (fun e=>decide (e.born≥n0)))=false:=by
  by_cases he:ents.size=0
  ·simp[Array.isEmpty,he]
  ·obtain⟨e,q1,q2⟩:=hborn 0 (by omega);have:ents.all (fun e=>decide (e.born≥n0))=false:=by
    rw[Array.all_eq_false];refine⟨0,by omega, ?_⟩;have q3:ents[0]=e:=(Array.getElem?_eq_some_iff.1 q1).2;simp[q3,q2];omega
   rw[this,Bool.and_false]
 have hold:(ents.filter fun e:MapEntry=> !seen.contains e.born).filter (fun e=>decide (e.born<n0))=ents.filter fun e:MapEntry=> !seen.contains e.born:=by
  apply Array.filter_eq_self.2;intro e he;simp only[Array.mem_filter]at he;exact decide_eq_true (hlt e (Array.mem_toList_iff.2 he.1))
 have hnew:(ents.filter fun e:MapEntry=> !seen.contains e.born).filter (fun e=>decide (e.born≥n0))= #[]:=by
  apply Array.filter_eq_empty_iff.2;intro e he;simp only[Array.mem_filter]at he;have:=hlt e (Array.mem_toList_iff.2 he.1);simp;omega
 split at h
 ·rename_i hcn
  injection h with h;injection h with ha hb;subst ha;subst hb;obtain⟨i,hi,hni⟩:=Jo8 (l:=seen.toList) (n:=n0) (by omega);obtain⟨e0,q1,q2⟩:=hborn i hi;have hne:(ents.filter fun e:MapEntry=> !seen.contains e.born).size≠0:=fun e=>by
   have:e0∈ents.filter fun e:MapEntry=> !seen.contains e.born:=by
    rw[Array.mem_filter];refine⟨Array.mem_of_getElem? q1, ?_⟩;rw[q2];simpa using hni
   rw[Array.size_eq_zero_iff.1 e]at this;simp at this
  have hne':(ents.filter fun e:MapEntry=> !seen.contains e.born).isEmpty=false:=by simpa[Array.isEmpty]using hne
  obtain⟨j,w',c1,c2,c3,c4,c5,c6⟩:=Jde (P:=P) (w:=w) (n:=(ents.filter fun e:MapEntry=> !seen.contains e.born).size) (by omega);have hj:(ents.filter fun e:MapEntry=> !seen.contains e.born)[j]? =some (ents.filter fun e:MapEntry=> !seen.contains e.born)[j]:=Array.getElem?_eq_getElem c2;have hmem:(ents.filter fun e:MapEntry=> !seen.contains e.born)[j]∈ents.filter fun e:MapEntry=> !seen.contains e.born:=Array.getElem_mem c2;generalize (ents.filter fun e:MapEntry=> !seen.contains e.born)[j]=ej at hj hmem;rw[Array.mem_filter]at hmem;have hlow:w'.heap[l.b]? =some (.mapIter (some lm.b) n0 seen n0):=by rw[c3];exact h4
  refine OpOK.wrote (x:= .value (.tuple #[.bool true,ej.key,ej.val])) (w':=setB w' l.b (.mapIter (some lm.b) n0 (seen.push ej.born) n0)) ?_ (.inl ⟨_,rfl,[.bool true,ej.key,ej.val],rfl,_,_,rfl,rfl,_,_,rfl,trivial,_,_,rfl,trivial,rfl⟩)
   ((hrel.heap c3).obj h1 (by rw[h3];trivial) ⟨some lm.b,seen.push ej.born,QF (by rw[c3];exact hl.2),by simp[h5], ?_, ?_,lm,h8,rfl⟩) ?_
  ·have hcand:((((if(ents.filter fun e:MapEntry=> !seen.contains e.born).isEmpty then #[(none:Option MapEntry)]else #[])++((ents.filter fun e:MapEntry=> !seen.contains e.born)++ #[]).map some)))[j]? =some (some ej):=by
    rw[hne',if_neg (by decide),Array.empty_append,Array.append_empty,Array.getElem?_map,hj];rfl
   have hsize:(((if(ents.filter fun e:MapEntry=> !seen.contains e.born).isEmpty then #[(none:Option MapEntry)]else #[])++((ents.filter fun e:MapEntry=> !seen.contains e.born)++ #[]).map some)).size=(ents.filter fun e:MapEntry=> !seen.contains e.born).size:=by
    rw[hne'];simp
   simp only[Instr.next,Sem.run_bind,Kv h4 (fun _ _ _ e=>by cases e),Kv k2 (fun _ _ _ e=>by cases e),Result.andThen_ok,hgone,Bool.false_eq_true,if_false,Sem.run_pure,hold,hnew,hsize,c1];rw[hcand];simp[YF hlow (fun _ _ _ e=>by cases e),hn]
  ·rw[Array.toList_push,List.nodup_append];refine⟨h6,by simp,fun a ha b hb e=> ?_⟩;simp only[List.mem_singleton]at hb;subst hb;subst e;have:=hmem.2;simp only[Bool.not_eq_true']at this;have hmm:seen.contains ej.born=true:=by simpa using ha
   rw[this]at hmm
   cases hmm
  ·intro b hb;rw[Array.toList_push,List.mem_append,List.mem_singleton]at hb;rcases hb with hb|hb
   ·exact h7 b hb
   ·subst hb;exact hlt _ (Array.mem_toList_iff.2 hmem.1)
  ·exact(Eva.Below.fields (Below.refl base.n w) c3 c4 c5 c6).trans (Below.setB (hl.1 (by rw[h3];rfl)))
 ·rename_i hcn
  injection h with h;injection h with ha hb;subst ha;subst hb;have hle:=Jq3 h6 h7;have hemp:(ents.filter fun e:MapEntry=> !seen.contains e.born)= #[]:=by
   apply Array.filter_eq_empty_iff.2;intro e he;have:=Jq2 h6 h7 (by omega) (hlt e (Array.mem_toList_iff.2 he));simpa using this
  have hch:(choose (.mapNext 1)).run P w= .ok 0 w:=by simp[Question.forced]
  rw[hemp]at hold hnew;refine OpOK.pure hrel (y:= .tuple #[.bool false]) ?_ ⟨[.bool false],rfl,_,_,rfl,rfl,rfl⟩;simp only[Instr.next,Sem.run_bind,Kv h4 (fun _ _ _ e=>by cases e),Kv k2 (fun _ _ _ e=>by cases e),Result.andThen_ok,hgone,Bool.false_eq_true,if_false,Sem.run_pure,hemp,hold,hnew];simp[Question.forced]
end
end Eva
