/- An evaluator of the model's code, proved to tell what the model does. Operations, one b -/
import Derived.Test.YtdajkeoobbonjaaGreatEva2
import GoSem.Instr.MapEntry
set_option linter.constructorNameAsVariable false
set_option linter.unusedVariables false
set_option linter.unusedSimpArgs false
set_option linter.unusedSectionVars false
namespace Eva
open Go Go.RowKit
variable {s r:Value}{v n i h:Nat}{e k d S T:TypeId}{t X:List (V×V)}{z m:V}{b:List V}{q:Pt}{p:Array MapEntry}{f M:Array Value}{l:Array TypeId}{g:List Value}{j:EK}{u:TypeInfo}{x:List Nat}{y:Array Field}{Q:TypeDesc}{W:Eff}{U:List MapEntry}{K:IntKind}{L:Addr}{N:Option Addr}{O:Loc}{Y:Field}{Z:World}
section
variable {P : Program} {γ : Locs} {ρ : Nat -> Value} {base : Bs} {st : St} {c : Pt -> Row} {w : World} {fr : Fr} {a : Act}
theorem JqO {S O Q:Option Operand}{f j p:Option Opd}(hu:P.underlying e=some (.array v k))(hz:szT P k=some n)(hx:R γ ρ (.g q i) s)
  (K:∀d,γ q=some d->i+v*n<=d.e)
  (h1:opdO S=some f) (h2:opdO O=some j) (h3:opdO Q=some p) (hm:Q.isSome->O.isSome) (u:FR γ ρ fr a) (h:Y0 n (.m q i v n v) (f.map (Opd.A fr)) (j.map (Opd.A fr)) (p.map (Opd.A fr))=some z) (L:Rel γ ρ base c w):
  OpOK P γ ρ base st c w z .a (do pure (.value (<-Instr.sliceAt e s (S.map a.eval) (O.map a.eval) (Q.map a.eval)))):=by
 obtain⟨d,T,k2⟩:=hx;subst k2;unfold Y0 at h;simp at h
 cases U:JZ 0 (f.map (Opd.A fr))with
 |none=>grind
 | some l=>
   cases W:JZ v (j.map (Opd.A fr))with
   |none=>grind
   | some M=>
     cases N:JZ v (p.map (Opd.A fr))with
     |none=>grind
     | some m=>
       simp[U,W,N]at h;obtain⟨⟨X,Y,Z⟩,q4⟩:=h;subst q4;have hb:=KZ (P:=P) (w:=w) (a:=a) (isSlice:=false) (len:=v) (cap:=v) (m:=m) (JV h1 u U) (JV h2 u W) (JV h3 u N) X Y Z hm;obtain⟨J,f1,f2,f3⟩:=R.F (l:=l) (h:=M) (m:=m) (cp:=v) (ad:=⟨d.b,d.o+i,none⟩) (fun _=>rfl) (K d T) X Y Z;refine OpOK.A L (y:= .slice (some J) (M-l) (m-l)) ?_ ⟨d,J,T,rfl,by omega,f2,f3⟩;have k:(some (if m=l then(⟨d.b,d.o+i,none⟩:Addr)else Addr.add ⟨d.b,d.o+i,none⟩ (l*n)))=some J:=by grind
       simp[Instr.sliceAt,Instr.sureAddr,Jf hu,JT hz,hb,k]
theorem Jn6 (j:P.underlying e=some (.struct y))(k:y[v]? =some Y)(l:szT P Y.type=some n)(m:n≠0)
  (p:R γ ρ (.g q i) s) (d:Rel γ ρ base c w):OpOK P γ ρ base st c w (.g q (i+Y.offset)) .a (do pure (.value (<-Instr.fieldAt e s v))):=by
 obtain⟨h,t,u⟩:=p;subst u;refine OpOK.A d (y:= .pointer (some ⟨h.b,h.o+(i+Y.offset),none⟩)) ?_ ⟨h,t,rfl⟩;simp[Instr.fieldAt,Jf j,k,Instr.sureAddr,fieldPlace,JT l,m,Y1,ZZ]
theorem JkN (h:P.underlying e=some (.struct y))(i:y[v]? =some Y)(k:Kf P Y.type=some true)(m:szT P Y.type=some n)
  (o:R γ ρ (.j b) s) (d:Rel γ ρ base c w):OpOK P γ ρ base st c w (.j ((b.drop Y.offset).take n)) .a (do pure (.value (<-Instr.field e s v))):=by
 obtain⟨g,p,q⟩:=o;subst p;refine OpOK.A d (y:= .agg (g.toArray.extract Y.offset (Y.offset+n))) ?_ ⟨(g.drop Y.offset).take n, ?_,(q.G _).I _⟩
 ·simp[Instr.field,Jf h,i,asAgg,part,jc k,JT m]
 simp
theorem JkO (h:P.underlying e=some (.struct y))(i:y[v]? =some Y)(k:Kf P Y.type=some false)
  (m:R γ ρ (.j b) s) (n:b[Y.offset]? =some z) (g:Rel γ ρ base c w):OpOK P γ ρ base st c w z .a (do pure (.value (<-Instr.field e s v))):=by
 obtain⟨o,p,q⟩:=m;subst p;obtain⟨d,t,r⟩:=q.H n;refine OpOK.A g (y:=d) ?_ r;have:o.toArray[Y.offset]? =some d:=by grind
 simp[Instr.field,Jf h,i,asAgg,kH k this]
theorem Jgi {o:Nat}(j:P.underlying e=some (.slice k))(l:szT P k=some v)(m:γ q=some O)(p:n<i)(s:i<=h)(u:h≠0->L=⟨O.b,O.o+o,none⟩)
  (d:Rel γ ρ base c w):OpOK P γ ρ base st c w (.g q (o+n*v)) .a (do pure (.value (<-Instr.indexAt e (.slice (some L) i h) (.int K (n:Int))))):=by
 have f:=u (by omega);subst f;refine OpOK.A d (y:= .pointer (some ⟨O.b,O.o+(o+n*v),none⟩)) ?_ ⟨O,m,rfl⟩;have x:(0:Int)<=(n:Int)/\(n:Int)<(i:Int):=⟨by omega,by omega⟩
 simp[Instr.indexAt,asIntOf,Jf j,JT l,x,p,Y1,ZZ]
theorem JqP (m:P.underlying e=some .string)(o:R γ ρ (.t n i) s)(r:v<n)
  (f:Rel γ ρ base c w):OpOK P γ ρ base st c w (.d .u8 (Yi i v)) .a (do pure (.value (<-Instr.index e s (.int K (v:Int))))):=by
 obtain⟨b,p,u,q⟩:=o;subst p;have z:b.size=n:=by simp_all
 have h:v<b.data.toList.length:=by omega
 have l:=Jb3 b.data.toList v _ (Xg h);rw[q]at l;have g:b[v]? =some (b.data.toList[v]):=by
  have j:v<b.size:=by omega
  rw[getElem?_pos b v j];rfl
 refine OpOK.A f (y:= .int .u8 (b.data.toList[v].toNat)) ?_ (by rw[l];rfl);simp[Instr.index,asIntOf,Jf m,g]
theorem Js7 (e:R γ ρ (.p b) s)(f:b[v]? =some z)(d:Rel γ ρ base c w):OpOK P γ ρ base st c w z .a (do pure (.value (<-Instr.extract s v))):=by
 obtain⟨g,h,i⟩:=e;subst h;obtain⟨y,k,j⟩:=i.H f;refine OpOK.A d (y:=y) ?_ j;have:g.toArray[v]? =some y:=by grind
 simp only[Instr.extract,this];rfl
theorem Jb9 (g:Rel γ ρ base c w)(m:R γ ρ (.q q) s)(p:γ q≠none->st.A q≠ .none->c q=st.A q)(u:st.A q= .b v t):
  ∃l d,γ q=some l/\s= .map (some l.b)/\c q= .b v t/\w.heap[l.b]? =some (.map d t.length)/\d.size=t.length/\
   ∀i k a,t[i]? =some (k,a)->∃e:MapEntry,d[i]? =some e/\R γ ρ k e.key/\R γ ρ a e.val/\e.born=i:=by
 obtain⟨l,n,y⟩:=m;have o:c q= .b v t:=by grind
 obtain⟨z,h,j⟩:=g.f q (by grind);rw[n]at h;injection h with h;subst h;rw[o]at j;obtain⟨d,J,K,L⟩:=j
 grind
theorem Kw (h:w.heap[v]? =some (.map p n)):(getObj v).run P w= .ok (.map p n) w:=by
 simp[getObj,Sem.run,h]
theorem JkP (g:l[0]? =some e)(h:P.underlying e=some .string)(i:R γ ρ (.t v n) s)(f:Rel γ ρ base c w):
  OpOK P γ ρ base st c w (.d .i64 v) .a (do pure (.value (<-Builtin.len_ l k #[s]))):=by
 obtain⟨b,j,o,p⟩:=i;subst j;have m:b.size=v:=by simp_all
 exact OpOK.A f (y:= .int .i64 v) (by simp[Builtin.len_,g,Jf h,goInt,m]) rfl
theorem JhR (f:l[0]? =some e)(g:P.underlying e=some (.slice k))(h:slen z=some v)(i:R γ ρ z s)(b:Rel γ ρ base c w):
  OpOK P γ ρ base st c w (.d .i64 v) .a (do pure (.value (<-Builtin.len_ l d #[s]))):=by
 obtain⟨m,o,j⟩:=YL h i;subst j;exact OpOK.A b (y:= .int .i64 v) (by simp[Builtin.len_,f,Jf g,goInt]) rfl
end
section
variable {P : Program} {γ : Locs} {ρ : Nat -> Value} {base : Bs} {st : St} {c : Pt -> Row} {w : World} {fr : Fr} {a : Act}
def Jat (γ:Locs)(ρ:Nat->Value)(es:List (V×V))(ents:List MapEntry):Prop:=
 ents.length=es.length/\∀(i:Nat) (k v:V),es[i]? =some (k,v)->∃e:MapEntry,ents[i]? =some e/\R γ ρ k e.key/\R γ ρ v e.val
def FRes (γ:Locs)(ρ:Nat->Value):Option (Nat×V)->Option (Nat×Value)->Prop
 |none,none=>True
 |some (i,v),some (j,x)=>i=j/\R γ ρ v x
 |_,_=>False
theorem Jat.A {e:MapEntry}(h:Jat γ ρ ((z,m)::t) (e::U)):R γ ρ z e.key/\R γ ρ m e.val/\Jat γ ρ t U:=by
 obtain⟨f,a⟩:=h;obtain⟨g,b,c,d⟩:=a 0 z m rfl;simp at b;subst b;exact⟨c,d,by grind,fun i z m h=>by simpa using a (i+1) z m (by grind)⟩
theorem j7 {l:TypeId}{e:EK}(m:eqk P l=some e){k:V}{x:Value}(n:R γ ρ k x):∀{g:List (V×V)} {a:List MapEntry} {i:Nat} {d:Option (Nat×V)},Jat γ ρ g a->KJ e k g i=some d->
  ∃c,(Instr.findAsking l x a i).run P w= .ok c w/\FRes γ ρ d c
 | [],a,i,d,f,h=>by
   have:a=[]:=Xo f.1;subst this;simp[KJ]at h;subst h;exact⟨none,rfl,trivial⟩
 |(o,v)::g,[],i,d,f,h=>by have:=f.1;grind
 | (o,v)::g,q::a,i,d,f,h=>by
   obtain⟨r,s,t⟩:=f.A;simp[KJ]at h
   cases j:e.B k o with
   |none=>grind
   | some b=>
     have p:=Jai (P:=P) (w:=w) m j n r
     cases b with
     |true=>simp[j]at h;subst h;exact⟨some (i,q.val),by simp[Instr.findAsking,p],rfl,s⟩
     | false=>
       simp[j]at h;obtain⟨c,u,y⟩:=j7 m n t h;exact⟨c,by simp[Instr.findAsking,p,u],y⟩
theorem Jiz (a:P.underlying e=some Q){b:Bool}(h:Instr.sameNow Q s r=some b):(Op.equal e s r).run P w= .ok b w:=by
 suffices c:∀D,(Op.equalIn (D+1) e s r).run P w= .ok b w from c 9999
 intro D;unfold Instr.sameNow at h
 split at h
 ·split at h
  ·rename_i f
   injection h with h;subst h;subst f;simp[Op.equalIn,Jf a]
  grind
 ·injection h with h;subst h;simp[Op.equalIn,Jf a]
 ·injection h with h;subst h;simp[Op.equalIn,Jf a]
 grind
theorem JdD {t:TypeId}{d:TypeDesc}(f:P.underlying t=some d){x:Value}:∀{a:List MapEntry} {i:Nat} {r:Option (Nat×Value)},Instr.findNow d x a i=some r->(Instr.findAsking t x a i).run P w= .ok r w
 |[],i,r,h=>by simp[Instr.findNow]at h;subst h;rfl
 | e::a,i,r,h=>by
   simp[Instr.findNow]at h
   cases c:Instr.sameNow d x e.key with
   |none=>grind
   | some b=>
     have g:=Jiz (P:=P) (w:=w) f c
     cases b with
     |true=>simp[c]at h;subst h;simp[Instr.findAsking,g]
     |false=>simp[c]at h;simp[Instr.findAsking,g,JdD f h]
theorem Jn7 (h:eqk P e=some j):∃d,P.underlying e=some d:=by
 unfold eqk at h
 grind
theorem QB (f:eqk P e=some j)(i:R γ ρ z s){b:Option (Nat×V)}(c:Jat γ ρ t U)(h:KJ j z t 0=some b):
  ∃a,(Instr.findKey e s U).run P w= .ok a w/\FRes γ ρ b a:=by
 obtain⟨a,l,m⟩:=j7 (P:=P) (w:=w) f i c h;obtain⟨d,g⟩:=Jn7 f;refine⟨a, ?_,m⟩;simp[Instr.findKey,Sem.run_bind,Jf g,Result.andThen_ok]
 cases n:Instr.findNow d s U 0 with
 |none=>exact l
 | some r=>
   have:=JdD (P:=P) (w:=w) g n
   simp_all
def Jeg (P:Program)(d:Nat)(t:TypeId)(n:Nat):Prop:=
 ∀(em:Bool) (D:Nat),d<=D->∀(xs:Array Value) (off:Nat) (w:World),off+n<=xs.size->∃x,(part t xs off).run P w= .ok x w/\(Instr.checkKey em D t x).run P w= .ok () w
theorem JdE {d:Nat}(ih:∀t ks,leaves P d t=some ks->Jeg P d t ks.length)(em:Bool){D:Nat}(hD:d<=D)(xs:Array Value):∀(fs:List Field) (o:Nat) (ks:List KD) (w:World),Yr (leaves P d) fs o=some ks->o+ks.length<=xs.size->
  (forIn fs PUnit.unit fun(f:Field) (_:PUnit)=>(do
   if f.name ≠ "_" then
    let x<-part f.type xs f.offset
    Instr.checkKey em D f.type x
    pure (ForInStep.yield PUnit.unit)
   else pure (ForInStep.yield PUnit.unit):Sem (ForInStep PUnit))).run P w= .ok PUnit.unit w
 |[],o,ks,w,_,_=>rfl
 | f::fs,o,ks,w,h,hle=>by
   simp only[Yr]at h
   split at h
   ·cases h
   ·rename_i hf
    simp[Hc,Z4]at hf
    cases hl:leaves P d f.type with
    |none=>grind
    | some l=>
      cases hr:Yr (leaves P d) fs (o+l.length)with
      |none=>grind
      | some r=>
        simp[hl,hr]at h;subst h;simp at hle;obtain⟨x,e1,e2⟩:=ih _ _ hl em D hD xs o w (by omega);have:=JdE ih em hD xs fs (o+l.length) r w hr (by omega)
        simp_all
theorem JeC {d:Nat}{e:TypeId}{n:Nat}(c:szT P e=some n)(f:Jeg P d e n)(b:Bool){D:Nat}(g:d<=D)(a:Array Value):∀(m i:Nat) (w:World),(i+m)*n<=a.size->
  (forIn (List.range' i m) PUnit.unit fun(j:Nat) (_:PUnit)=>(do
   let k<-Go.sizeOf e
   let x<-part e a (j*k)
   Instr.checkKey b D e x
   pure (ForInStep.yield PUnit.unit):Sem (ForInStep PUnit))).run P w= .ok PUnit.unit w
 |0,i,w,_=>rfl
 | m+1,i,w,h=>by
   obtain⟨x,l,o⟩:=f b D g a (i*n) w (by
    grind)
   have:=JeC c f b g a m (i+1) w (by grind);simp only[GY,List.forIn_cons,Sem.run_bind,Sem.run_pure,Result.andThen_ok,l,o,JT c];omega
theorem JeD (c:P.underlying e=some Q)(f:Kf P e=some false)(p:∀l,Q≠ .interface l):Jeg P (v+1) e 1:=by
 intro q D r g b w h;obtain⟨j,rfl⟩:∃j,D=j+1:=⟨D-1,by omega⟩
 have m:g[b]? =some (g[b]'(by omega)):=X5 (by omega);refine⟨_,kH f m, ?_⟩;generalize g[b]'(by omega)=x;have o:(∀n a,Q≠ .array n a)/\(∀k,Q≠ .struct k):=by
  constructor
  ·intro n a i;subst i;simp[Kf,c]at f
  ·intro k i;subst i;simp[Kf,c]at f
 simp[Instr.checkKey,Sem.run_bind,Jf c,Result.andThen_ok]
 simp_all
theorem JbB :∀(d:Nat) (t:TypeId) (ks:List KD),leaves P d t=some ks->Jeg P d t ks.length
 |0,t,ks,h=>by simp[leaves]at h
 | d+1,t,ks,h=>by
   simp[leaves]at h
   split at h
   ·rename_i a;injection h with h;subst h;exact JeD a (Yk a (fun _ e=>by cases e) (fun _ _ e=>by cases e)) (fun _ e=>by cases e)
   ·rename_i k a;injection h with h;subst h;exact JeD a (Yk a (fun _ e=>by cases e) (fun _ _ e=>by cases e)) (fun _ e=>by cases e)
   ·rename_i a;injection h with h;subst h;exact JeD a (Yk a (fun _ e=>by cases e) (fun _ _ e=>by cases e)) (fun _ e=>by cases e)
   ·rename_i s a
    split at h
    ·cases h
    ·cases g:Yr (leaves P d) s.toList 0 with
     |none=>grind
     | some l=>
       simp only[g]at h
       split at h
       ·rename_i c
        injection h with h;subst h;intro m D u o b w i;obtain⟨f,rfl⟩:∃f,D=f+1:=⟨D-1,by omega⟩
        have p:Kf P t=some true:=by simp[Kf,a]
        refine⟨_,Qa p c, ?_⟩;have:=JdE (fun t ks h=>JbB d t ks h) m (D:=f) (by omega) (o.extract b (b+l.length)) s.toList 0 l w g (by grind);simp[Instr.checkKey,Sem.run_bind,Jf a,Result.andThen_ok,<-Array.forIn_toList]
        simp_all
       grind
   ·rename_i n e a
    cases g:leaves P d e with
    |none=>grind
    | some l=>
      simp only[g]at h
      split at h
      ·rename_i c
       obtain⟨q,r,_⟩:=c;injection h with h;subst h;intro m D u o b w i;obtain⟨f,rfl⟩:∃f,D=f+1:=⟨D-1,by omega⟩
       have p:Kf P t=some true:=by simp[Kf,a]
       have j:(List.replicate n l).flatten.length=n*l.length:=by simp
       rw[j]at i;refine⟨_,Qa p r, ?_⟩;have:=JeC q (JbB d e l g) m (D:=f) (by omega) (o.extract b (b+n*l.length)) n 0 w (by grind);simp[Instr.checkKey,Sem.run_bind,Jf a,Result.andThen_ok]
       simp_all
      grind
   grind
end
section
variable {P : Program} {γ : Locs} {ρ : Nat -> Value} {base : Bs} {st : St} {c : Pt -> Row} {w : World} {fr : Fr} {a : Act}
theorem Jeh (g:eqk P e=some j)(o:R γ ρ z s)(h:j.A z=true)(d:Bool):(Instr.checkKey d 10000 e s).run P w= .ok () w:=by
 cases j with
 | a p=>
   have c:=JhQ g
   suffices q:∀D,(Instr.checkKey d (D+1) e s).run P w= .ok () w from q 9999
   intro D
   cases p<;>simp only[KDok]at c
   ·simp[Instr.checkKey,Jf c]
   ·obtain⟨_,c⟩:=c;simp[Instr.checkKey,Jf c]
   ·simp[Instr.checkKey,Jf c]
   ·obtain⟨_,c⟩:=c;simp[Instr.checkKey,Jf c]
   ·obtain⟨_,c⟩:=c;simp[Instr.checkKey,Jf c]
   ·obtain⟨_,_,c⟩:=c;simp[Instr.checkKey,Jf c]
   ·obtain⟨_,_,_,c⟩:=c;simp[Instr.checkKey,Jf c]
 | b i=>
   obtain⟨l,m,_⟩:=Jez g;unfold EK.A at h
   split at h
   ·grind
   ·rename_i J f
    cases f
    obtain⟨n,r,t⟩:=o;subst r;have u:n.length=i.length:=by rw[t.A];grind
    obtain⟨y,v,K⟩:=JbB 8 e i l d 10000 (by decide) n.toArray 0 w (by simp[u]);rw[Qa m (JdC l m)]at v
    grind
   grind
theorem Jca {k:KD}(h:keq k z m=some true)(c:R γ ρ z s)(d:R γ ρ m r)(j:k= .b\/k= .i\/k= .s):Instr.sameBits v r s=true:=by
 rcases j with rfl|rfl|rfl
 ·unfold keq at h
  split at h<;>first|(cases h;done)|skip
  all_goals first
   |(rename_i a;cases a;done)
   |(simp[ZF]at h;subst h;simp[R]at c d;subst c;subst d;cases v<;>simp[Instr.sameBits])
 ·unfold keq at h
  split at h<;>first|grind|skip
  all_goals first
   |(rename_i a;cases a;done)
   |(split at h<;>cases h;done)
   | (split at h
      ·rename_i e;simp[ZF]at h;subst h;subst e;simp[R]at c d;subst c;subst d;cases v<;>simp[Instr.sameBits]
      ·cases h)
 ·unfold keq at h
  split at h<;>first|grind|skip
  all_goals first
   |(rename_i a;cases a;done)
   | (simp[ZF]at h
      obtain⟨q,t⟩:=h;obtain⟨f,l,w,J⟩:=c;obtain⟨g,o,K,L⟩:=d;subst l;subst o;have p:g.data.toList=f.data.toList:=jb (by omega) (by omega);have:g=f:=by
       cases f;cases g
       congr 1;exact Array.toList_inj.1 p
      subst this
      cases v<;>(simp[Instr.sameBits];rw[beq_toListBytes];exact beq_self_eq_true _))
theorem Jbk {n:Nat}:∀{ks:List KD} {a c:List V} {d e:List Value},(ks.all fun k=>k== .b||k== .i||k== .s)=true->keqs ks a c=some true->a.length=ks.length->c.length=ks.length->RL γ ρ a d->RL γ ρ c e->
  ((e.zip d).all fun(p:Value×Value)=>Instr.sameBits n p.1 p.2)=true
 | [],a,c,d,e,_,_,g,h,r,t=>by
   have j:=Xo g;have l:=Xo h;subst j;subst l;simp[RL]at r t
   simp_all
 |k::ks,[],c,d,e,_,_,g,_,_,_=>by grind
 |k::ks,u::a,[],d,e,_,_,_,h,_,_=>by grind
 | k::ks,u::a,v::c,d,e,o,f,g,h,⟨x,w,j,l,z⟩,⟨y,J,K,L,M⟩=>by
   subst j;subst K;simp only[ZG,Xk]at o;simp only[keqs]at f
   cases q:keq k u v with
   |none=>grind
   | some b=>
     rw[q]at f
     cases b with
     |false=>cases f
     | true=>
       have m:k= .b\/k= .i\/k= .s:=by grind
       simp only[List.zip_cons_cons,ZG,Xk];exact⟨Jca q l L m,Jbk o.2 f (by grind) (by grind) z M⟩
theorem Jau (b:j.F=true)(h:j.B z m=some true)(c:R γ ρ z s)(d:R γ ρ m r):Instr.sameBits 10000 r s=true:=by
 suffices i:∀n,Instr.sameBits (n+1) r s=true from i 9999
 intro n;unfold EK.B at h
 split at h
 ·rename_i k
  refine Jca h c d ?_
  cases k<;>simp[EK.F]at b<;>simp
 ·split at h
  ·rename_i p q t a
   obtain⟨w,l,f⟩:=c;obtain⟨J,o,g⟩:=d;subst l;subst o;simp only[Instr.sameBits,Xk];refine⟨by simp[f.A,g.A,a.1,a.2], ?_⟩;exact Jbk b h a.1 a.2 f g
  grind
 grind
theorem JbC {e:EK}{k:V}:∀{d:List (V×V)} {a i:Nat} {v:V},KJ e k d a=some (some (i,v))->a<=i/\∃c,d[i-a]? =some (c,v)/\e.B k c=some true
 |[],a,i,v,h=>by simp[KJ]at h
 | (c,g)::d,a,i,v,h=>by
   simp[KJ]at h
   cases f:e.B k c with
   |none=>grind
   | some b=>
     cases b with
     |true=>grind
     | false=>
       simp[f]at h;obtain⟨j,l,m,n⟩:=JbC h
       grind
theorem Jgj {S:Bool}{f v:V}(hu:P.underlying e=some (.map k d))(he:eqk P k=some j)(hz:Jge P d=some z)(hx:R γ ρ m s)(hy:R γ ρ f r)
  (hc:∀g,rowOf m=some g->γ g≠none->st.A g≠ .none->c g=st.A g) (J:jO st m=some t) (hf:j.A f=true)
  (hv:(∃i w',KJ j f t 0=some (some (i,w'))/\v=(if S then .p [w', .h true]else w'))\/(KJ j f t 0=some none/\v=(if S then .p [z, .h false]else z))) (K:Rel γ ρ base c w):
  OpOK P γ ρ base st c w v .a (do pure (.value (<-Instr.lookup e s r S))):=by
 obtain⟨zv,Z,aa⟩:=Jex (ρ:=ρ) hz;have T:∀q:List MapEntry,Jat γ ρ t q->∃L o b,(Instr.findKey k r q).run P w= .ok L w/\((∃n,L=some (n,o)/\b=true)\/(L=none/\o=zv/\b=false))/\R γ ρ v (if S then .tuple #[o, .bool b]else o):=by
  intro q M;rcases hv with⟨i,w',h1,h2⟩|⟨h1,h2⟩
  ·obtain⟨N,Q,U⟩:=QB (P:=P) (w:=w) he hy M h1
   cases N with
   |none=>exact U.elim
   | some p=>
     obtain⟨n,o⟩:=p;obtain⟨_,Y⟩:=U;refine⟨_,o,true,Q, .inl ⟨n,rfl,rfl⟩, ?_⟩;subst h2
     cases S with
     |true=>exact⟨[o, .bool true],rfl,_,_,rfl,Y,_,_,rfl,rfl,rfl⟩
     |false=>exact Y
  ·obtain⟨N,Q,U⟩:=QB (P:=P) (w:=w) he hy M h1
   cases N with
   |some p=>exact U.elim
   | none=>
     refine⟨_,zv,false,Q, .inr ⟨rfl,rfl,rfl⟩, ?_⟩;subst h2
     cases S with
     |true=>exact⟨[zv, .bool false],rfl,_,_,rfl,aa γ,_,_,rfl,rfl,rfl⟩
     |false=>grind
 unfold jO at J
 split at J
 ·injection J with J;subst J;simp[R]at hx;subst hx;obtain⟨L,o,b,Q,U,Y⟩:=T [] ⟨rfl,fun i f v h=>by simp at h⟩;have O:=Jeh (P:=P) (w:=w) he hy hf true;refine OpOK.A K (y:=if S then .tuple #[o, .bool b]else o) ?_ Y;rcases U with⟨n,W,X⟩|⟨W,X,e3⟩
  ·subst W;subst X;simp[Instr.lookup,Jf hu,O,Q]
  ·subst W;subst X;subst e3;simp[Instr.lookup,Jf hu,O,Q,Z]
 ·rename_i g
  split at J
  ·rename_i tt ab hs
   injection J with J;subst J;obtain⟨l,q,h1,h2,h3,h4,h5,h6⟩:=Jb9 K hx (hc g rfl) hs;subst h2;obtain⟨L,o,b,Q,U,Y⟩:=T q.toList ⟨by omega,fun i f v h=>by grind⟩;have O:=Jeh (P:=P) (w:=w) he hy hf q.isEmpty;refine OpOK.A K (y:=if S then .tuple #[o, .bool b]else o) ?_ Y;rcases U with⟨n,W,X⟩|⟨W,X,e3⟩
   ·subst W;subst X;simp[Instr.lookup,Jf hu,O,Q,Kw h4]
   ·subst W;subst X;subst e3;simp[Instr.lookup,Jf hu,O,Q,Z,Kw h4]
  grind
 grind
end
section
variable {P : Program} {γ : Locs} {ρ : Nat -> Value} {base : Bs} {st : St} {c : Pt -> Row} {w : World} {fr : Fr} {a : Act}
theorem QA {o:Obj}(h:w.heap[v]? =some (.map p n)):(setObj v o).run P w= .ok () (setB w v o):=by
 simp[setObj,Sem.run,h]
theorem j8 (h:Instr.sameBits 10000 s r=true):(Instr.keyThatStays s r).run P w= .ok r w:=by
 simp[Instr.keyThatStays,h]
theorem JbD (c:p.size=t.length)
  (h:∀(n:Nat) (k a:V),t[n]? =some (k,a)->∃e:MapEntry,p[n]? =some e/\R γ ρ k e.key/\R γ ρ a e.val/\e.born=n) (f:V×V->V×V) (g:MapEntry->MapEntry)
  (m:∀e,(g e).born=e.born) (d:∀k a (e:MapEntry),t[n]? =some (k,a)->R γ ρ k e.key->R γ ρ a e.val->R γ ρ (f (k,a)).1 (g e).key/\R γ ρ (f (k,a)).2 (g e).val) (o:O.b<w.heap.size):
  Qu γ ρ O (.b v (t.modify n f)) (setB w O.b (.map (p.modify n g) t.length)):=by
 refine⟨p.modify n g,by grind,by simp[c],fun j q r s=> ?_⟩
 grind
theorem JiA {k:V}{key val:Value}(c:p.size=t.length)
  (o:∀(i:Nat) (k z:V),t[i]? =some (k,z)->∃e:MapEntry,p[i]? =some e/\R γ ρ k e.key/\R γ ρ z e.val/\e.born=i) (f:R γ ρ k key) (g:R γ ρ z val) (q:O.b<w.heap.size):
  Qu γ ρ O (.b v (t++[(k,z)])) (setB w O.b (.map (p.push {key,val,born:=t.length}) (t.length+1))):=by
 refine⟨p.push {key,val,born:=t.length},by grind,by simp[c],fun j r s d=> ?_⟩;by_cases h:j<t.length
 ·grind
 ·have a:j=t.length:=by grind
  subst a;simp at d;obtain⟨m,n⟩:=d;subst m;subst n;exact⟨_,by rw[Gf,Xe c.symm],f,g,rfl⟩
theorem Jei {a:Value}(hu:P.underlying e=some (.map k d))(U:eqk P k=some j)(hp:j.F=true)(hx:R γ ρ (.q q) s)(L:R γ ρ z r)(hz:R γ ρ m a)
  (hc:γ q≠none->st.A q≠ .none->c q=st.A q) (hs:st.A q= .b v t) (hf:j.A z=true)
  (hv:(∃i w',KJ j z t 0=some (some (i,w'))/\X=t.modify i fun _=>(z,m))\/(KJ j z t 0=some none/\X=t++[(z,m)])) (g:Rel γ ρ base c w):
  OpOK P γ ρ base st c w JY (.d q v fun u=> .b u X) (do Instr.mapUpdate e s r a;pure .skip):=by
 obtain⟨l,n,W,h2,N,O,h5,Y⟩:=Jb9 g hx hc hs;subst h2;have o:Jat γ ρ t n.toList:=⟨by omega,fun i z m h=>by grind⟩
 have M:=Jeh (P:=P) (w:=w) U L hf false;have Q:=g.d q l W;rcases hv with⟨i,w',S,Z⟩|⟨S,Z⟩
 ·obtain⟨J,p1,T⟩:=QB (P:=P) (w:=w) U L o S
  cases J with
  |none=>exact T.elim
  | some p=>
    obtain⟨f,val⟩:=p;obtain⟨e1,p3⟩:=T;subst e1;subst Z;obtain⟨_,k',s1,s2⟩:=JbC S;rw[ZN]at s1;obtain⟨en,t1,t2,t3,t4⟩:=Y _ _ _ s1;have K:=Jau hp s2 L t2;refine OpOK.B (x:= .skip) (w':=setB w l.b (.map (n.modify i fun j=>{j with key:=r,val:=a}) t.length)) ?_ (.inr ⟨rfl,rfl⟩)
     (g.D W (by rw[N];trivial) (JbD h5 Y _ _ (fun _=>rfl) (fun _ _ _ _ _ _=>⟨L,hz⟩) Q.2)) (Below.A (Q.1 (by rw[N];rfl)))
    simp[Instr.mapUpdate,Jf hu,Kw O,M,p1,t1,j8 K,QA O]
 ·obtain⟨J,p1,T⟩:=QB (P:=P) (w:=w) U L o S
  cases J with
  |some p=>exact T.elim
  | none=>
    subst Z;refine OpOK.B (x:= .skip) (w':=setB w l.b (.map (n.push {key:=r,val:=a,born:=t.length}) (t.length+1))) ?_ (.inr ⟨rfl,rfl⟩)
     (g.D W (by rw[N];trivial) (JiA h5 Y L hz Q.2)) (Below.A (Q.1 (by rw[N];rfl)))
    simp[Instr.mapUpdate,Jf hu,Kw O,M,p1,QA O]
theorem JlH {a:V}(hu:P.underlying e=some (.map k d))(W:eqk P k=some j)(hp:j.F=true)(Y:Jge P d=some z)(hx:R γ ρ (.q q) s)(L:R γ ρ m r)
  (hc:γ q≠none->st.A q≠ .none->c q=st.A q) (hs:st.A q= .b v t) (hf:j.A m=true)
  (Z:(∃i w',KJ j m t 0=some (some (i,w'))/\a= .p [w', .d .i64 i]/\X=t.modify i fun j=>(m,j.2))\/(KJ j m t 0=some none/\a= .p [z, .d .i64 t.length]/\X=t++[(m,z)])) (g:Rel γ ρ base c w):
  OpOK P γ ρ base st c w a (.d q v fun u=> .b u X) (do pure (.value (<-Instr.mapEntry e s r))):=by
 obtain⟨l,n,h1,h2,O,Q,h5,h6⟩:=Jb9 g hx hc hs;subst h2;obtain⟨zv,aa,M⟩:=Jex (ρ:=ρ) Y;have o:Jat γ ρ t n.toList:=⟨by omega,fun i m a h=>by grind⟩
 have N:=Jeh (P:=P) (w:=w) W L hf false;have S:=g.d q l h1;rcases Z with⟨i,w',T,q0,q2⟩|⟨T,q0,q2⟩
 ·obtain⟨J,p1,U⟩:=QB (P:=P) (w:=w) W L o T
  cases J with
  |none=>exact U.elim
  | some p=>
    obtain⟨f,val⟩:=p;obtain⟨e1,p3⟩:=U;subst e1;subst q2;subst q0;obtain⟨_,k',s1,s2⟩:=JbC T;rw[ZN]at s1;obtain⟨en,t1,t2,t3,t4⟩:=h6 _ _ _ s1;have K:=Jau hp s2 L t2;refine OpOK.B (x:= .value (.tuple #[val,goInt i])) (w':=setB w l.b (.map (n.modify i fun j=>{j with key:=r}) t.length)) ?_ (.inl ⟨_,rfl,[val,goInt i],rfl,_,_,rfl,p3,_,_,rfl,rfl,rfl⟩)
     (g.D h1 (by rw[O];trivial) (JbD h5 h6 _ _ (fun _=>rfl) (fun _ _ _ _ _ Z=>⟨L,Z⟩) S.2)) (Below.A (S.1 (by rw[O];rfl)))
    simp[Instr.mapEntry,Jf hu,Kw Q,N,p1,t1,t4,j8 K,QA Q]
 ·obtain⟨J,p1,U⟩:=QB (P:=P) (w:=w) W L o T
  cases J with
  |some p=>exact U.elim
  | none=>
    subst q2;subst q0;refine OpOK.B (x:= .value (.tuple #[zv,goInt t.length])) (w':=setB w l.b (.map (n.push {key:=r,val:=zv,born:=t.length}) (t.length+1))) ?_ (.inl ⟨_,rfl,[zv,goInt t.length],rfl,_,_,rfl,M γ,_,_,rfl,rfl,rfl⟩)
     (g.D h1 (by rw[O];trivial) (JiA h5 h6 L (M γ) S.2)) (Below.A (S.1 (by rw[O];rfl)))
    simp[Instr.mapEntry,Jf hu,Kw Q,N,p1,aa,QA Q]
end
section
variable {P : Program} {γ : Locs} {ρ : Nat -> Value} {base : Bs} {st : St} {c : Pt -> Row} {w : World} {fr : Fr} {a : Act}
theorem JhS (f:p.size=t.length)
  (b:∀(v:Nat) (k a:V),t[v]? =some (k,a)->∃e:MapEntry,p[v]? =some e/\R γ ρ k e.key/\R γ ρ a e.val/\e.born=v) (g:v<t.length):
  p.findIdx? (fun e=>(e.born:Int)==(v:Int))=some v:=by
 have h:∀j (c:j<p.size),p[j].born=j:=fun j c=>by
  have d:j<t.length:=by omega
  obtain⟨e,l,_,_,m⟩:=b j t[j].1 t[j].2 (by grind)
  grind
 rw[Array.findIdx?_eq_some_iff_getElem]
 grind
theorem JqQ (h:P.underlying e=some .string)(i:R γ ρ (.t v n) s)(d:Rel γ ρ base c w)(f:γ st.b=none):
  OpOK P γ ρ base st c w (.g st.b 0) (.b fun e=> .e e v n 0) (do pure (.value (<-Instr.range e s))):=by
 obtain⟨a,j,k,l⟩:=i;subst j;refine OpOK.D (o:= .stringIter a 0) (e:=1) (w':=w.alloc (.stringIter a 0)) d f ⟨w.drawn,rfl⟩ (y:= .pointer (some ⟨w.heap.size,0,none⟩)) ?_ ⟨_,JC _ _ _,rfl⟩ ⟨a,Yt _,k,l⟩ (fun _=>by decide);simp[Instr.range,Jf h]
theorem JiB (j:P.underlying e=some (.map k d))(i:R γ ρ .u s)(a:Rel γ ρ base c w)(f:γ st.b=none):
  OpOK P γ ρ base st c w (.g st.b 0) (.b fun e=> .d e none 0 0) (do pure (.value (<-Instr.range e s))):=by
 simp[R]at i;subst i;refine OpOK.D (o:= .mapIter none 0 #[] 0) (e:=1) (w':=w.alloc (.mapIter none 0 #[] 0)) a f ⟨w.drawn,rfl⟩ (y:= .pointer (some ⟨w.heap.size,0,none⟩)) ?_ ⟨_,JC _ _ _,rfl⟩
  ⟨none, #[],Yt _,rfl,Gp,fun b h=>by simp at h,rfl⟩ (fun _=>by decide)
 simp[Instr.range,Jf j]
theorem JqR (j:P.underlying e=some (.map k d))(m:R γ ρ (.q q) s)(n:γ q≠none->st.A q≠ .none->c q=st.A q)(p:st.A q= .b v t)(a:Rel γ ρ base c w)(f:γ st.b=none):
  OpOK P γ ρ base st c w (.g st.b 0) (.b fun e=> .d e (some q) t.length 0) (do pure (.value (<-Instr.range e s))):=by
 obtain⟨l,i,u,z,K,J,L,M⟩:=Jb9 a m n p;subst z;refine OpOK.D (o:= .mapIter (some l.b) t.length #[] t.length) (e:=1) (w':=w.alloc (.mapIter (some l.b) t.length #[] t.length)) a f ⟨w.drawn,rfl⟩ (y:= .pointer (some ⟨w.heap.size,0,none⟩)) ?_ ⟨_,JC _ _ _,rfl⟩
  ⟨some l.b, #[],Yt _,rfl,Gp,fun b h=>by simp at h,l,Ext.B f q l u,rfl⟩ (fun _=>by decide)
 simp[Instr.range,Jf j,Kw J]
theorem Jcb (d:Rel γ ρ base c w)(h:R γ ρ (.g q 0) s)(i:γ q≠none->st.A q≠ .none->c q=st.A q){a:Row}(j:st.A q=a)(f:a.D):
  ∃l,γ q=some l/\s= .pointer (some ⟨l.b,0,none⟩)/\c q=a/\Qu γ ρ l a w:=by
 obtain⟨l,k,n,m,o⟩:=YK d h i j (by intro e;rw[e]at f;exact f);have:=d.z q l k (by rw[m];cases a<;>first|trivial|exact f.elim)
 grind
theorem Kq {o:Obj}(h:w.heap[v]? =some o)(c:∀a e f,o≠ .cells a e f):(getObj v).run P w= .ok o w:=by
 cases o<;>first|grind|simp[getObj,Sem.run,h]
theorem YM {o a:Obj}(h:w.heap[v]? =some o)(d:∀c e f,o≠ .cells c e f):(setObj v a).run P w= .ok () (setB w v a):=by
 cases o<;>first|grind|simp[setObj,Sem.run,h]
theorem JhT {s:ByteArray}{pos:Nat}(h:pos<s.data.toList.length)(c:Yi (snum s.data.toList) pos<128):Utf8.decode s pos=(Yi (snum s.data.toList) pos,1):=by
 have b:=Jb3 s.data.toList pos _ (Xg h);have a:(s.get! pos).toNat=Yi (snum s.data.toList) pos:=by
  rw[b];congr 1;have d:pos<s.data.size:=by omega
  show s.data[pos]! =_
  grind
 unfold Utf8.decode
 grind
theorem Jn8 (K:R γ ρ (.g q 0) s)(L:γ q≠none->st.A q≠ .none->c q=st.A q)(M:st.A q= .e v n i h)(N:h<n)(S:Yi i h<128)(j:Rel γ ρ base c w):
  OpOK P γ ρ base st c w (.p [.h true, .d .i64 h, .d .i32 (Yi i h)]) (.d q v fun u=> .e u n i (h+1)) (do pure (.value (<-Instr.next s true e))):=by
 obtain⟨l,m,O,o,a,t,Q,y⟩:=Jcb j K L M trivial;subst O;have z:=j.d q l m;have k:a.size=n:=by simp_all
 have J:=JhT (s:=a) (pos:=h) (by omega) (by grind);rw[y]at J;refine OpOK.B (x:= .value (.tuple #[.bool true,goInt h, .int .i32 (Yi i h)])) (w':=setB w l.b (.stringIter a (h+1))) ?_ (.inl ⟨_,rfl,[.bool true,goInt h, .int .i32 (Yi i h)],rfl,_,_,rfl,rfl,_,_,rfl,rfl,_,_,rfl,rfl,rfl⟩)
  (j.D m (by rw[o];trivial) ⟨a,jZ z.2,Q,y⟩) (Below.A (z.1 (by rw[o];rfl)))
 simp[Instr.next,Kq t (fun _ _ _ f=>by cases f),k,N,J,YM t (fun _ _ _ f=>by cases f)]
theorem Jf8 (L:R γ ρ (.g q 0) s)(M:γ q≠none->st.A q≠ .none->c q=st.A q)(N:st.A q= .e v n i h)(O:h<n)(j:Rel γ ρ base c w):
  OpOK P γ ρ base st c w (.p [.h true, .d .i64 h, .d .i32 (Utf8.decode (jN n i) h).1]) (.d q v fun u=> .e u n i (h+(Utf8.decode (jN n i) h).2)) (do pure (.value (<-Instr.next s true e))):=by
 obtain⟨l,o,Q,t,a,y,z,J⟩:=Jcb j L M N trivial;subst Q;have K:=j.d q l o;have k:a.size=n:=by simp_all
 have m:jN n i=a:=by rw[<-z,<-J];exact JdA a
 rw[m];refine OpOK.B (x:= .value (.tuple #[.bool true,goInt h, .int .i32 (Utf8.decode a h).1])) (w':=setB w l.b (.stringIter a (h+(Utf8.decode a h).2))) ?_ (.inl ⟨_,rfl,[.bool true,goInt h, .int .i32 (Utf8.decode a h).1],rfl,_,_,rfl,rfl,_,_,rfl,rfl,_,_,rfl,rfl,rfl⟩)
  (j.D o (by rw[t];trivial) ⟨a,jZ K.2,z,J⟩) (Below.A (K.1 (by rw[t];rfl)))
 simp[Instr.next,Kq y (fun _ _ _ f=>by cases f),k,O,YM y (fun _ _ _ f=>by cases f)]
theorem JhU (k:R γ ρ (.g q 0) s)(m:γ q≠none->st.A q≠ .none->c q=st.A q)(o:st.A q= .e v n i h)(t:¬h<n)(f:Rel γ ρ base c w):
  OpOK P γ ρ base st c w (.p [.h false]) .a (do pure (.value (<-Instr.next s true e))):=by
 obtain⟨l,J,u,K,b,z,L,M⟩:=Jcb f k m o trivial;subst u;have j:b.size=n:=by simp_all
 refine OpOK.A f (y:= .tuple #[.bool false]) ?_ ⟨[.bool false],rfl,_,_,rfl,rfl,rfl⟩;simp[Instr.next,Kq z (fun _ _ _ d=>by cases d),j,t]
theorem JqS (J:R γ ρ (.q q) s)(L:R γ ρ z r)
  (M:γ q≠none->st.A q≠ .none->c q=st.A q) (N:st.A q= .b n t) (O:v<t.length) (f:Rel γ ρ base c w):
  OpOK P γ ρ base st c w JY (.d q n fun u=> .b u (t.modify v fun a=>(a.1,z))) (do Instr.entryStore e s (.int K (v:Int)) r;pure .skip):=by
 obtain⟨l,g,h,Q,j,m,o,p⟩:=Jb9 f J M N;subst Q;have y:=f.d q l h;refine OpOK.B (x:= .skip) (w':=setB w l.b (.map (g.modify v fun a=>{a with val:=r}) t.length)) ?_ (.inr ⟨rfl,rfl⟩)
  (f.D h (by rw[j];trivial) (JbD o p _ _ (fun _=>rfl) (fun _ _ _ _ S _=>⟨S,L⟩) y.2)) (Below.A (y.1 (by rw[j];rfl)))
 simp[Instr.entryStore,Kw m,asInt,asIntOf,JhS o p O,QA m]
end
section
variable {P : Program} {γ : Locs} {ρ : Nat -> Value} {base : Bs} {st : St} {c : Pt -> Row} {w : World} {fr : Fr} {a : Act}
theorem Jav (a:(loadCells L (n*v)).run P w= .ok f w):(Builtin.firstCells v n (.slice (some L) i h)).run P w= .ok f w:=by
 simp[Builtin.firstCells,a]
theorem QZ (b:Rel γ ρ base c w)(f:R γ ρ m s)(g:∀r,rowOf m=some r->γ r≠none->st.A r≠ .none->c r=st.A r){z:Nat}{l:List V}(h:Jz st z n m=some l):
  l.length=n*z/\∃d:List Value,RL γ ρ l d/\(Builtin.firstCells z n s).run P w= .ok d.toArray w:=by
 obtain⟨i,j⟩:=JeA (P:=P) b f g h;refine⟨i, ?_⟩;rcases j with⟨t,k,a,o,e⟩|⟨u,a,o,d,e,p,q⟩
 ·subst k;subst e;exact⟨[],by rfl,by rfl⟩
 ·subst e;exact⟨d,p,Jav q⟩
theorem Rel.I (h:Rel γ ρ base c w){m:Pt}(Y:γ q=some O)(hq:γ m=none){xs:List V}(Z:c q= .a v xs){L:Array Value}{fz:Nat×Nat}
  (hb:w.heap[O.b]? =some (.cells M e fz)) (hs:L.size=M.size) {o:Nat} (ab:o<=O.e)
  (ho:∀i,i<O.o\/O.o+O.e<=i->L[i]? =M[i]?) {u1:Nat} 
  (hr:Qu (upd γ m (some ⟨O.b,O.o+o,O.e-o⟩)) ρ ⟨O.b,O.o+o,O.e-o⟩ (.a n b) (setB w O.b (.cells L e fz))):
  Rel (upd γ m (some ⟨O.b,O.o+o,O.e-o⟩)) ρ base (upd (upd c q (.c u1)) m (.a n b)) (setB w O.b (.cells L e fz)):=by
 have P:=h.G Y hb hs ⟨v,xs,Z⟩ ho (row:= .c u1) trivial (fun u=>u);have hl:=h.d q O Y;have ad:q≠m:=fun u=>by grind
 have hx:Ext γ (upd γ m (some ⟨O.b,O.o+o,O.e-o⟩)):=Ext.B hq;refine⟨P.y,P.j,fun r k u=> ?_,fun r u=> ?_,fun r k K x=> ?_,fun r s lr Q S K x U a2=> ?_,fun r k K x=> ?_⟩
 ·by_cases N:r=m
  ·subst N;rw[JC]at u;injection u with u;subst u;exact⟨fun _=>hl.1 (by rw[Z];rfl),by grind⟩
  ·rw[Jy _ _ N]at u⊢;exact P.d r k u
 ·by_cases N:r=m
  ·simp_all
  ·have ec:upd (upd c q (.c u1)) m (.a n b) r=upd c q (.c u1) r:=Jy _ _ N;rw[ec]at u;obtain⟨k,K,x⟩:=P.f r u;rw[ec];exact⟨k,hx r k K,x.A hx rfl⟩
 ·by_cases N:r=m
  ·simp_all
  ·rw[Jy _ _ N]at K x;exact P.z r k K x
 ·have aa:∀s Q,s≠m->γ s=some Q->(upd c q (.c u1) s).B->JkI ⟨O.b,O.o+o,O.e-o⟩ Q:=fun s Q hs k W=>by
   have T:s≠q:=fun u=>by rw[u,JC]at W;exact W
   rw[Jy _ _ T]at W;rcases h.B q s O Q (Ne.symm T) Y k (by rw[Z];trivial) W with g|g|g
   ·exact .inl g
   ·exact .inr (.inl (by grind))
   ·exact .inr (.inr (by grind))
  by_cases N:r=m
  ·subst N;rw[JC]at K;injection K with K;subst K;have X:s≠r:=Ne.symm S;rw[Jy _ _ X]at x a2
   grind
  ·by_cases X:s=m
   ·subst X;rw[JC]at x;injection x with x;subst x;rw[Jy _ _ N]at K U;rcases aa r lr N K U with g|g|g
    ·exact .inl (Ne.symm g)
    ·exact .inr (.inr g)
    ·exact .inr (.inl g)
   ·rw[Jy _ _ N]at K U;rw[Jy _ _ X]at x a2;exact P.B r s lr Q S K x U a2
 ·by_cases N:r=m
  ·subst N;rw[JC]at x;cases x
  ·rw[Jy _ _ N]at K x;exact P.H r k K x
theorem Rel.J (h:Rel γ ρ base c w){p:Pt}{t:Nat}{xs:List V}(q:c p= .a t xs):Rel γ ρ base (upd c p (.c v)) w:=by
 refine⟨h.y,h.j,fun r k e=>⟨fun b=>(h.d r k e).1 ?_,(h.d r k e).2⟩,fun r e=> ?_,fun r k i b=> ?_,fun r s x K o i b m n=> ?_,fun r k i b=> ?_⟩
 ·by_cases g:r=p
  ·subst g;rw[q];rfl
  ·rwa [Jy _ _ g]at b
 ·by_cases g:r=p
  ·subst g;obtain⟨l,i,b⟩:=h.f r (by grind);exact⟨l,i,by rw[JC];trivial⟩
  ·rw[Jy _ _ g]at e⊢;exact h.f r e
 ·by_cases g:r=p
  ·simp_all
  ·rw[Jy _ _ g]at b;exact h.z r k i b
 ·have g:r≠p:=fun e=>by subst e;rw[JC]at m;exact m
  have es:s≠p:=fun e=>by subst e;rw[JC]at n;exact n
  rw[Jy _ _ g]at m;rw[Jy _ _ es]at n;exact h.B r s x K o i b m n
 ·by_cases g:r=p
  ·subst g;rw[JC]at b;cases b
  ·rw[Jy _ _ g]at b;exact h.H r k i b
theorem Jn9 {c:Pt->Row}{d:Pt}{a b:Row}(h:q≠d):upd (upd c q a) d b=upd (upd c d b) q a:=by
 funext r;by_cases e:r=q
 ·subst e;rw[Jy _ _ h,JC,JC]
 ·by_cases f:r=d
  ·subst f;rw[JC,Jy _ _ e,JC]
  ·rw[Jy _ _ f,Jy _ _ e,Jy _ _ e,Jy _ _ f]
theorem JiC (w:World)(a b:Nat)(e:TypeId):a<=grownCap w a b e:=by
 simp[grownCap,Question.cut]
theorem Jc6 {ty:TypeId}(j:P.underlying e=some (.slice d))(l:P.underlying k=some (.slice S))(m:P.info? d=some u)(o:u.bytes<=65536)
  (p:u.zero=some r) (q:(Builtin.lenOf s).run P w= .ok n w) (g:¬v+n<=i) (a:v+n<=2^25) (x:(Builtin.firstCells u.size v (.slice N v i)).run P w.drew= .ok f w.drew)
  (J:(Builtin.firstCells u.size n s).run P w.drew= .ok M w.drew):
  (Builtin.append_ #[e,k] ty #[.slice N v i,s]).run P w= .ok (.slice (some ⟨w.heap.size,0,none⟩) (v+n) (grownCap w (v+n) i d))
   (w.drew.alloc (.cells (f++M++Builtin.zeroCells r.cells (grownCap w (v+n) i d-(v+n))) d)):=by
 have b:¬(9223372036854775807<((v:Int)+(n:Int))):=by omega
 have K:(v+n)*u.bytes<=140737488355328:=by
  have:=Nat.mul_le_mul a o;omega
 have h:=growslice_fits (old:=i) (need:=v+n) (bytes:=u.bytes) (by omega) K;have c:¬(281474976710656<Builtin.nextslicecap (v+n) i*u.bytes):=by omega
 simp[Builtin.append_,Jf j,Jf l,Go.sizeOf,typeInfo,zeroValue,m,p,q,g,b,c,Question.forced,x,J,newRow,grownCap,Array.append_assoc]
theorem Jbl {ty:TypeId}{ad:Addr}{w':World}(c:P.underlying e=some (.slice d))(f:P.underlying k=some (.slice S))(h:P.info? d=some u)
  (j:(Builtin.lenOf s).run P w= .ok n w) (a:v+n<=i) (l:(Builtin.firstCells u.size n s).run P w= .ok g.toArray w)
  (b:(storeCells (ad.add (v*u.size)) g).run P w= .ok () w'):
  (Builtin.append_ #[e,k] ty #[.slice (some ad) v i,s]).run P w= .ok (.slice (some ad) (v+n) i) w':=by
 simp[Builtin.append_,Jf c,Jf f,Go.sizeOf,typeInfo,h,j,a,l,b]
theorem JkQ {pre:List Value}{γ':Locs}(h:RL γ' ρ b pre)(g:∃d,f.toList=pre++d)(k:n=f.size){w:World}:
  Qu γ' ρ ⟨w.heap.size,0,n⟩ (.a v b) (w.alloc (.cells f e)):=by
 subst k;obtain⟨d,g⟩:=g;have q:=h.A;have l:f.size=pre.length+d.length:=by rw[<-Gg,g];simp
 refine⟨f,e,(0,0), ?_,by simp,by grind,fun i c m=> ?_,fun i _=>by simp⟩
 ·show(w.heap.push _)[w.heap.size]? =_;simp
 ·obtain⟨x,j,o⟩:=h.H m;refine⟨x, ?_,o⟩;have p:i<pre.length:=(Xx.1 j).1;rw[Zv,<-Z1,g,XG p];exact j
theorem JeE (z:Array Value)(n:Nat):(Builtin.zeroCells z n).size=n*z.size:=by simp[Builtin.zeroCells]
theorem Below.D {B:Nat}{w w' a:World}(h:Below B w w')(c:a.heap=w'.heap)(d:a.os=w'.os)(e:a.tape=w'.tape)(f:a.output=w'.output):Below B w a:=
 ⟨by rw[d];exact h.os,by rw[e];exact h.tape,by rw[f];exact h.output,by rw[c];exact h.size,fun b k=>by rw[c];exact h.block b k⟩
theorem Jnt (j:Rel γ ρ base c w)(o:γ st.b=none){l:List V}{f:List Value}(t:RL γ ρ b g)(x:RL γ ρ l f)(q:b.length=i*v)(s:l.length=n*v)
  (p:i+n<=h) {rest:Array Value} (m:rest.size=(h-(i+n))*v):
  ∃γ',R γ' ρ (.w st.b 0 (i+n) v) (.slice (some ⟨w.heap.size,0,none⟩) (i+n) h)/\(∀u,Rel γ' ρ base (upd c st.b (.a u (b++l))) (w.drew.alloc (.cells (g.toArray++f.toArray++rest) e)))/\Ext γ γ'/\
   (∀r,γ' r≠none->γ r≠none\/r=st.b)/\Below base.n w (w.drew.alloc (.cells (g.toArray++f.toArray++rest) e)):=by
 have K:Ext γ (upd γ st.b (some ⟨w.heap.size,0,(g.toArray++f.toArray++rest).size⟩)):=Ext.B o;have L:(g.toArray++f.toArray++rest).size=h*v:=by
  have M:=t.A;have N:=x.A;simp[M,N,q,s,m];rw[<-GT,<-GT]
  grind
 refine⟨_,⟨_,⟨w.heap.size,0,none⟩,h,JC _ _ _,rfl,p,fun _=>rfl, ?_⟩,fun u=> ?_,K,fun r n=> ?_, ?_⟩
 ·grind
 ·refine(j.A (w':=w.drew) rfl).F o (JkQ (pre:=g++f) ((RL.D t x).J K) ⟨rest.toList,by simp⟩ rfl) (fun d=>d.elim)
 ·by_cases O:r=st.b
  ·grind
  ·rw[Jy _ _ O]at n;grind
 ·exact Eva.Below.D ((Below.refl base.n w).alloc j.y _) rfl rfl rfl rfl
theorem JqT (h:slen z=some v)(b:R γ ρ z s):∃d c,s= .slice d v c/\v<=c:=by
 unfold slen at h
 split at h
 ·injection h with h;subst h;simp[R]at b;grind
 ·injection h with h;subst h;obtain⟨l,a,c,_,k,e,_⟩:=b;grind
 ·injection h with h;subst h;obtain⟨l,a,_,k,e,_⟩:=b;grind
 grind
theorem Jee {ty:TypeId}{ad:Option Addr}(b:P.underlying e=some (.slice d))(c:P.underlying k=some (.slice S))(f:P.info? d=some u)
  (g:(Builtin.lenOf s).run P w= .ok 0 w) (a:v<=n) (h:(Builtin.firstCells u.size 0 s).run P w= .ok #[] w):
  (Builtin.append_ #[e,k] ty #[.slice ad v n,s]).run P w= .ok (.slice ad v n) w:=by
 cases ad<;>simp[Builtin.append_,Jf b,Jf c,Go.sizeOf,typeInfo,f,g,a,h,storeCells]
theorem Js8 (hρ:∀u,(ρ u).oneCell'=true)(h1:P.underlying e=some (.slice S))(h2:P.underlying k=some (.slice T))(h3:P.info? S=some u)(h4:u.bytes<=65536)
  (hz:u.zero=some s) (bc:s.cells.size=u.size) {g:V}  {xx:Value} (hs:R γ ρ z r) (hx:R γ ρ m xx)
  (ag:∀p,rowOf z=some p->γ p≠none->st.A p≠ .none->c p=st.A p) (aw:∀p,rowOf m=some p->γ p≠none->st.A p≠ .none->c p=st.A p) (L:Rel γ ρ base c w)
  (ah:W.A=true->γ st.b=none)   (hk:slen m=some v) (hn:Jz st u.size v m=some b) (bm:v<2^20) (ax:Kc b=true) (h:JG st u.size v b z=some (g,W)):
  OpOK P γ ρ base st c w g W (do pure (.value (<-Builtin.append_ #[e,k] d #[r,xx]))):=by
 obtain⟨ay,aa,O,ai⟩:=QZ (P:=P) L hx aw hn;obtain⟨_,bd,aj,az⟩:=QZ (P:=P) (L.A (w':=w.drew) rfl) hx aw hn;obtain⟨bn,bo,ex⟩:=YL hk hx;have U:(Builtin.lenOf xx).run P w= .ok v w:=by subst ex;rfl
 have a0:∀g∈aa,g.oneCell'=true:=fun g hv=>by
  obtain⟨u,hi⟩:=Gs.1 hv;have a7:u<b.length:=by have:=(Xx.1 hi).1;have:=O.A;omega
  obtain⟨m,hx,hr⟩:=O.H (Xg a7);rw[hi]at hx;injection hx with hx;subst hx;exact Jgg hρ (Ze.1 ax _ (Xh a7)) hr
 have ab:∀{n:Nat} {ad:Option Addr} {cp:Nat} {ols:List V} {olds:List Value},r= .slice ad n cp->n+v<=2^25->¬n+v<=cp->RL γ ρ ols olds->ols.length=n*u.size->(Builtin.firstCells u.size n (.slice ad n cp)).run P w.drew= .ok olds.toArray w.drew->γ st.b=none->
   ∃γ' y w',(Builtin.append_ #[e,k] d #[r,xx]).run P w= .ok y w'/\R γ' ρ (.w st.b 0 (n+v) u.size) y/\(∀k,Rel γ' ρ base (upd c st.b (.a k (ols++b))) w')/\Ext γ γ'/\
    (∀p,γ' p≠none->γ p≠none\/p=st.b)/\Below base.n w w':=by
  intro n ad cp ols olds be ak bf bg ae bh af;have hg:=Jc6 (P:=P) (ty:=d) h1 h2 h3 h4 hz U bf ak bh az;obtain⟨γ',a1,a2,a3,a4,a5⟩:=Jnt (e:=S) L af bg aj ae ay (JiC w (n+v) cp S) (rest:=Builtin.zeroCells s.cells (grownCap w (n+v) cp S-(n+v))) (by rw[JeE,bc])
  grind
 unfold JG at h;by_cases al:v=0
 ·rw[Xe al]at h
  split at h
  ·rename_i am
   injection h with h;injection h with ha hb;subst ha;subst hb;obtain⟨n,bi⟩:=ZD.1 am;obtain⟨ad,cp,be,bj⟩:=JqT bi hs;subst al;have ao:aa=[]:=Xo (by rw[O.A,ay];simp);subst ao;have:=Jee (P:=P) (ty:=d) (ad:=ad) h1 h2 h3 U bj ai;exact OpOK.A L (y:=r) (by simp_all) hs
  grind
 ·rw[Xa al]at h
  split at h
  ·injection h with h;injection h with ha hb;subst ha;subst hb;simp[R]at hs;obtain⟨γ',y,w',a1,a2,a3,a4,a5,a6⟩:=ab (n:=0) (ols:=[]) (olds:=[]) hs (by omega) (by omega) (by rfl) (by simp) (by rfl) (ah rfl);rw[Zv]at a2;exact⟨_,w',γ',by simp[a1], .inl ⟨y,rfl,a2⟩,by simpa[Eff.D]using a3 st.t,a4,fun p v=>(a5 p v).imp id fun S=>⟨S,rfl⟩,a6⟩
  ·rename_i p o n z'
   split at h
   ·cases h
   ·rename_i N
    simp[Hc,Z4]at N;obtain⟨ap,ak⟩:=N;subst ap
    split at h
    ·rename_i tt l Q
     split at h
     ·rename_i ae
      injection h with h;injection h with ha hb;subst ha;subst hb;have aq:=hs;obtain⟨M,ad,cp,g1,g2,g3,g4,g5⟩:=aq;have af:=ah rfl;have Z:c p= .a tt l:=by rw[ag p rfl (by grind) (by grind),Q]
      have a8:p≠st.b:=fun S=>by grind
      by_cases K:n+v<=cp
      ·have ar:=g4 (by omega);subst ar;obtain⟨bp,k1,k2⟩:=L.f p (by grind);rw[g1]at k1;injection k1 with k1;subst k1;rw[Z]at k2;obtain⟨bk,X,fz,m1,m2,m3,m4,m5⟩:=k2;have hl:=L.d p M g1;have bq:=O.A;have a9:(n+v)*u.size<=cp*u.size:=XT _ K;rw[GT]at a9;obtain⟨Y,e1,e2,e3,e4⟩:=Ys (P:=P) (b:=M.b) (o:=M.o+o+n*u.size) (elem:=X) (fz:=fz) aa 0 w bk m1 (by omega)
        (fun j hj=>by have:=m5 (o+n*u.size+j) (by omega);omega) a0
       simp at e2 e3;have ba:=Jbl (P:=P) (ty:=d) h1 h2 h3 U K ai (ad:=⟨M.b,M.o+o,none⟩) (w':=setB w M.b (.cells Y X fz)) (by rw[Y1];exact e4);have au:Ext γ (upd γ st.b (some ⟨M.b,M.o+o,M.e-o⟩)):=Ext.B af;have bb:((l.drop o).take (n*u.size)).length=n*u.size:=by grind
       have av:Qu (upd γ st.b (some ⟨M.b,M.o+o,M.e-o⟩)) ρ ⟨M.b,M.o+o,M.e-o⟩ (.a (st.t+1) ((l.drop o).take (n*u.size)++b)) (setB w M.b (.cells Y X fz)):=by
        refine⟨Y,X,fz,jZ hl.2,by grind,by grind,fun j g hv=> ?_,fun j hj=> ?_⟩
        ·show∃m,Y[M.o+o+j]? =some m/\_;by_cases hj:j<n*u.size
         ·rw[XG (by omega),GV hj,ZY]at hv;obtain⟨m,p1,p2⟩:=m4 _ _ hv;refine⟨m, ?_,p2.A au⟩
          grind
         ·rw[X3 (by omega),bb]at hv;obtain⟨m,p1,p2⟩:=O.H hv;have:=e3 _ _ p1;rw[show M.o+o+n*u.size+(j-n*u.size)=M.o+o+j by omega]at this;exact⟨m,this,p2.A au⟩
        ·have br:j<M.e-o:=hj;have:=m5 (o+j) (by omega)
         grind
       refine⟨_,_,_,by simp_all, .inl ⟨_,rfl,⟨_,⟨M.b,M.o+o,none⟩,cp,JC _ _ _,rfl,K,fun _=>rfl, ?_⟩⟩,
        Rel.I (u1:=st.t) L g1 af Z m1 e1 (o:=o) (by omega) (fun j hj=>e2 j (by omega)) av,au,fun q hq=> ?_,Below.A (hl.1 (by rw[Z];rfl))⟩
       ·grind
       ·by_cases er:q=st.b
        ·exact .inr ⟨er,rfl⟩
        ·rw[Jy _ _ er]at hq;grind
      ·obtain⟨q1,olds,q2,q3⟩:=QZ (P:=P) (w:=w.drew) (z:=u.size) (n:=n) (l:=(l.drop o).take (n*u.size)) (L.A rfl) hs ag (by simp[Jz,Kn,Q,ae]);subst g2;obtain⟨γ',y,w',a1,a2,a3,a4,a5,a6⟩:=ab rfl (by omega) K q2 q1 q3 af;refine⟨_,w',γ',by simp[a1], .inl ⟨y,rfl,a2⟩, ?_,a4,fun p v=>(a5 p v).imp id fun S=>⟨S,rfl⟩,a6⟩;show Rel γ' ρ base (upd (upd c p (.c st.t)) st.b (.a (st.t+1) ((l.drop o).take (n*u.size)++b))) w';rw[Jn9 a8];exact(a3 (st.t+1)).J (t:=tt) (xs:=l) (by rw[Jy _ _ a8];exact Z)
     grind
    grind
  ·rename_i p o n z' cc
   split at h
   ·cases h
   ·rename_i N
    simp[Hc,Z4]at N;obtain⟨ap,ak⟩:=N;subst ap
    split at h
    ·rename_i tt l Q
     split at h
     ·rename_i ae
      have aq:=hs;obtain⟨M,ad,g1,g2,g3,g4,g5⟩:=aq;have Z:c p= .a tt l:=by rw[ag p rfl (by grind) (by grind),Q]
      split at h
      ·rename_i K
       split at h
       ·rename_i bl
        injection h with h;injection h with ha hb;subst ha;subst hb;have ar:=g4 (by omega);subst ar;rw[GT]at bl;obtain⟨w',e1,e2,e3⟩:=jP (P:=P) (u:=st.t) hρ L g1 Z (o:=o+n*u.size) (by omega) ax O;have ba:=Jbl (P:=P) (ty:=d) h1 h2 h3 U K ai (ad:=⟨M.b,M.o+o,none⟩) (w':=w') (by rw[Y1,ZZ];exact e1);exact OpOK.B (by simp_all) (.inl ⟨_,rfl,⟨M,_,g1,rfl,K,fun _=>rfl,g5⟩⟩) e2 e3
       grind
      ·rename_i K
       injection h with h;injection h with ha hb;subst ha;subst hb;obtain⟨q1,olds,q2,q3⟩:=QZ (P:=P) (w:=w.drew) (z:=u.size) (n:=n) (l:=(l.drop o).take (n*u.size)) (L.A rfl) hs ag (by simp[Jz,Kn,Q,ae]);subst g2;obtain⟨γ',y,w',a1,a2,a3,a4,a5,a6⟩:=ab rfl (by omega) K q2 q1 q3 (ah rfl);exact⟨_,w',γ',by simp[a1], .inl ⟨y,rfl,a2⟩,by simpa[Eff.D]using a3 st.t,a4,fun p v=>(a5 p v).imp id fun S=>⟨S,rfl⟩,a6⟩
     grind
    grind
  grind
end
section
variable {P : Program} {γ : Locs} {ρ : Nat -> Value} {base : Bs} {st : St} {c : Pt -> Row} {w : World} {fr : Fr} {a : Act}
theorem JdF (h:jY z=some m)(b:slen z=some v)(k:v≠0)(f:R γ ρ z s):∃g c,s= .slice (some g) v c/\R γ ρ m (.pointer (some g))/\rowOf m=rowOf z:=by
 unfold jY at h
 split at h
 ·injection h with h;subst h;simp[slen]at b;subst b;obtain⟨l,a,c,d,e,i,j,_⟩:=f;exact⟨a,c,e,⟨l,d,by grind⟩,rfl⟩
 ·injection h with h;subst h;simp[slen]at b;subst b;obtain⟨l,a,d,e,i,j,_⟩:=f;exact⟨a,_,e,⟨l,d,by grind⟩,rfl⟩
 grind
theorem Jbm (q:∀i,(ρ i).oneCell'=true)(s:R γ ρ z (.pointer (some L)))(v:∀r,rowOf z=some r->γ r≠none->st.A r≠ .none->c r=st.A r)
  (a:Rel γ ρ base c w) (x:RL γ ρ b g) (h:JO st z b=some W):
  ∃r m f l,W= .d r m f/\(storeCells L g).run P w= .ok () l/\Rel γ ρ base (upd c r (f st.t)) l/\Below base.n w l:=by
 unfold JO at h
 split at h
 ·rename_i r o
  split at h
  ·rename_i m M y
   split at h
   ·rename_i j
    injection h with h;subst h;obtain⟨N,J,k,K,O⟩:=YK a s (v r rfl) y (by simp);injection k with k;injection k with k;subst k;obtain⟨l,Q,S,T⟩:=jP (P:=P) (u:=st.t) q a J K j.1 j.2 x
    grind
   grind
  grind
 grind
theorem JdG {γ:Locs}{ρ:Nat->Value}:∀(k:Nat) (l:List UInt8),k<=l.length->RL γ ρ (jX k (snum l)) ((l.take k).map fun b=>Value.int .u8 b.toNat)
 |0,_,_=>rfl
 |k+1,[],h=>absurd h (by simp)
 | k+1,b::l,h=>by
   have a:b.toNat<256:=b.toNat_lt;rw[jX,snum,show(b.toNat+256*snum l)%256=b.toNat by omega,show(b.toNat+256*snum l)/256=snum l by omega];exact⟨_,_,rfl,rfl,JdG k l (by grind)⟩
theorem Jcc :∀k v:Nat,(jX k v).length=k
 |0,_=>rfl
 |k+1,v=>by rw[jX,XF,Jcc k]
theorem Jnu (f:Rel γ ρ base c w)(g:R γ ρ z s)(j:∀r,rowOf z=some r->γ r≠none->st.A r≠ .none->c r=st.A r)(h:cellsX st v n z=some b):
  b.length=n*v/\∃i:List Value,RL γ ρ b i/\(Builtin.firstCells v n s).run P w= .ok i.toArray w:=by
 unfold cellsX at h
 split at h
 ·rename_i m a
  split at h
  ·rename_i k
   obtain⟨rfl,p⟩:=k;injection h with h;subst h;obtain⟨d,rfl,q,o⟩:=g;refine⟨by rw[Jcc,ZM],_,by rw[<-o];exact JdG n _ (by omega), ?_⟩;have e:(d.extract 0 n).data=(d.data.toList.take n).toArray:=by
    apply Array.ext';simp
   simp only[Builtin.firstCells,e,List.map_toArray];rfl
  grind
 ·exact QZ f g j h
theorem JqU (h:slenX z=some v)(a:R γ ρ z s):(Builtin.lenOf s).run P w= .ok v w:=by
 unfold slenX at h
 split at h
 ·injection h with h;subst h;obtain⟨b,rfl,c,g⟩:=a;rw[<-c,show b.data.toList.length=b.size by rfl];rfl
 ·obtain⟨d,e,f⟩:=YL h a;subst f;rfl
theorem JlI (hρ:∀g,(ρ g).oneCell'=true)(h1:P.underlying e=some (.slice d))(h3:szT P d=some v)(hd:R γ ρ z s)(hx:R γ ρ m r)
   (ht:l[0]? =some e)
  (ae:∀j,rowOf z=some j->γ j≠none->st.A j≠ .none->c j=st.A j) (S:∀j,rowOf m=some j->γ j≠none->st.A j≠ .none->c j=st.A j) (q:Rel γ ρ base c w)
    (hn:slen z=some n) (hk:slenX m=some i) (T:cellsX st v (Nat.min i n) m=some b) {o:V} 
  (h:(if Nat.min i n=0 then some (V.d .i64 0,Eff.a)else match jY z with
    |some p=>(JO st p b).map fun d=>(V.d .i64 (Nat.min i n),d)
    |none=>none)=some (o,W)):
  OpOK P γ ρ base st c w o W (do pure (.value (<-Builtin.copy_ l k #[s,r]))):=by
 obtain⟨U,u,J,L⟩:=Jnu (P:=P) q hx S T;have K:(Builtin.lenOf r).run P w= .ok i w:=JqU hk hx
 split at h
 ·rename_i N
  injection h with h;injection h with X Y;subst X;subst Y;obtain⟨ad,cp,Z⟩:=YL hn hd;have M:u=[]:=Xo (by rw[J.A,U,N];simp);subst M;rw[N]at L;refine OpOK.A q (y:=goInt 0) ?_ rfl;subst Z;have aa:min i n=0:=N
  cases ad<;>simp[Builtin.copy_,ht,Jf h1,K,JT h3,L,aa,storeCells]
 ·rename_i N
  split at h
  ·rename_i p hp
   cases O:JO st p b with
   |none=>grind
   | some d=>
     simp[O]at h;obtain⟨X,Y⟩:=h;subst X;subst Y;obtain⟨ad,cp,Z,ab,af⟩:=JdF hp hn (fun d=>N (by grind)) hd;obtain⟨j,tt,f,w',e1,e2,e3,e4⟩:=Jbm (P:=P) hρ ab (by grind) q J O;subst e1;refine OpOK.B (x:= .value (goInt (Nat.min i n))) ?_ (.inl ⟨_,rfl,rfl⟩) e3 e4;subst Z;have Q:(Builtin.firstCells v (min i n) r).run P w= .ok u.toArray w:=L;simp[Builtin.copy_,ht,Jf h1,K,JT h3,Q,e2]
  grind
theorem Joa (Y:∀i,(ρ i).oneCell'=true)(Q:P.underlying e=some (.slice d))(Z:Ky P d=some b)(S:R γ ρ z s)
   (T:l[0]? =some e)
  (aa:∀r,rowOf z=some r->γ r≠none->st.A r≠ .none->c r=st.A r) (j:Rel γ ρ base c w)
   (U:slen z=some n)  
  (h:(if n=0 then some (JY,Eff.a)else match jY z with
    |some p=>if b.length=v then(JO st p (List.replicate n b).flatten).map fun d=>(JY,d)else none
    |none=>none)=some (m,W)):
  OpOK P γ ρ base st c w m W (do pure (.value (<-Builtin.clear_ l k #[s]))):=by
 split at h
 ·rename_i q
  injection h with h;injection h with u J;subst u;subst J;subst q;obtain⟨X,cp,K⟩:=YL U S;refine OpOK.A j (y:= .tuple #[]) ?_ ⟨[],rfl,rfl⟩;subst K
  cases X<;>simp[Builtin.clear_,T,Jf Q]
 ·rename_i q
  split at h
  ·rename_i p hp
   split at h
   ·cases o:JO st p (List.replicate n b).flatten with
    |none=>grind
    | some d=>
      simp[o]at h;obtain⟨u,J⟩:=h;subst u;subst J;obtain⟨L,M,hr⟩:=KY (ρ:=ρ) Z;obtain⟨X,cp,K,N,ab⟩:=JdF hp U q S;have O:RL γ ρ (List.replicate n b).flatten (Builtin.zeroCells L.cells n).toList:=by
       unfold Builtin.zeroCells;rw[Jbz n L.cells.size L.cells rfl];exact RL.B (hr γ) n
      obtain⟨r,tt,f,w',e1,e2,e3,e4⟩:=Jbm (P:=P) Y N (by grind) j O o;subst e1;refine OpOK.B (x:= .value (.tuple #[])) ?_ (.inl ⟨_,rfl,[],rfl,rfl⟩) e3 e4;subst K;obtain⟨n,rfl⟩:∃g,n=g+1:=⟨n-1,by omega⟩
      simp[Builtin.clear_,T,Jf Q,M,e2]
   grind
  grind
theorem qK {l:List Nat}:∀{q:List Nat},l.Nodup->(∀b∈l,b∈q)->l.length<=q.length:=by
 induction l with
 |nil=>simp
 | cons a l f=>
   intro q c d;rw[ZK]at c;have h:a∈q:=d a (by simp);have:=f (q:=q.erase a) c.2 fun b g=>(Hr (fun e=>c.1 (by grind))).2 (d b (by simp[g]))
   grind
theorem Js9 (c:x.Nodup)(d:∀b∈x,b<v)(e:x.length=v)(f:n<v):n∈x:=by
 apply GQ;intro a;have:=qK (l:=n::x) (q:=List.range v) (ZK.2 ⟨a,c⟩) fun b g=>by grind
 grind
theorem JqV {l:List Nat}(c:l.length<n):∃i,i<n/\i∉l:=by
 apply GQ;intro a;have:=qK (l:=List.range n) (q:=l) HP fun b d=>by grind
 grind
theorem Jta (a:x.Nodup)(c:∀b∈x,b<v):x.length<=v:=by
 have:=qK (l:=x) (q:=List.range v) a fun b d=>by grind
 grind
theorem JhV (k:R γ ρ (.g q 0) s)(m:γ q≠none->st.A q≠ .none->c q=st.A q)(o:st.A q= .d v none n i)(f:Rel γ ρ base c w):
  OpOK P γ ρ base st c w (.p [.h false]) .a (do pure (.value (<-Instr.next s false e))):=by
 obtain⟨l,J,t,K,u,seen,z,_,_,_,j⟩:=Jcb f k m o trivial;subst t;have j:u=none:=j;subst j;refine OpOK.A f (y:= .tuple #[.bool false]) ?_ ⟨[.bool false],rfl,_,_,rfl,rfl,rfl⟩;simp[Instr.next,Kq z (fun _ _ _ b=>by cases b)]
theorem Jef (b:0<n):∃i a,(choose (.mapNext n)).run P w= .ok i a/\i<n/\a.heap=w.heap/\a.os=w.os/\a.tape=w.tape/\a.output=w.output:=by
 by_cases h:n<=1
 ·exact⟨0,w,by simp[Question.forced,h],b,rfl,rfl,rfl,rfl⟩
 ·exact⟨_,w.drew,by simp[Question.forced,h];rfl,by simp[Question.cut];exact Hg _ b,rfl,rfl,rfl,rfl⟩
theorem Job {m:Pt}{S:Nat}(hx:R γ ρ (.g q 0) s)(hc:∀q,γ q≠none->st.A q≠ .none->c q=st.A q)(hs:st.A q= .d v (some m) h S)(hm:st.A m= .b i t)
  (hn:t.length=h) (L:Rel γ ρ base c w)  
  (k:(if S<h then some (V.p [.h true, .y, .y],Eff.d q v fun u=> .d u (some m) h (S+1))else some (.p [.h false], .a))=some (z,W)):
  OpOK P γ ρ base st c w z W (do pure (.value (<-Instr.next s false e))):=by
 obtain⟨l,h1,h2,h3,mm,seen,h4,h5,h6,h7,lm,h8,h9⟩:=Jcb L hx (hc q) hs trivial;subst h2;subst h9;have hl:=L.d q l h1;have ad:c m= .b i t:=by grind
 have T:=L.f m (by grind);rw[ad]at T;obtain⟨ah,k1,K,k2,k3,k4⟩:=T;rw[h8]at k1;injection k1 with k1;subst k1;have M:∀o,o<h->∃J,K[o]? =some J/\J.born=o:=fun o hi=>by
  obtain⟨J,q1,_,_,q2⟩:=k4 o _ _ (Xg (by omega))
  grind
 have ae:∀J∈K.toList,J.born<h:=fun J he=>by
  obtain⟨o,hi⟩:=Gs.1 he
  grind
 have ai:seen.toList.length=S:=by omega
 have N:(!seen.isEmpty&& !K.isEmpty&&K.all (fun J=>decide (J.born≥h)))=false:=by
  by_cases he:K.size=0
  ·grind
  ·obtain⟨J,q1,q2⟩:=M 0 (by omega)
   grind
 have O:(K.filter fun J:MapEntry=> !seen.contains J.born).filter (fun J=>decide (J.born<h))=K.filter fun J:MapEntry=> !seen.contains J.born:=by
  apply Array.filter_eq_self.2
  grind
 have Q:(K.filter fun J:MapEntry=> !seen.contains J.born).filter (fun J=>decide (J.born≥h))= #[]:=by simp_all
 split at k
 ·rename_i af
  injection k with k;injection k with ha hb;subst ha;subst hb;obtain⟨o,hi,aj⟩:=JqV (l:=seen.toList) (n:=h) (by omega);obtain⟨e0,q1,q2⟩:=M o hi;have ak:(K.filter fun J:MapEntry=> !seen.contains J.born).size≠0:=fun J=>by
   have:e0∈K.filter fun J:MapEntry=> !seen.contains J.born:=by grind
   grind
  have ag:(K.filter fun J:MapEntry=> !seen.contains J.born).isEmpty=false:=by grind
  obtain⟨j,w',c1,c2,c3,c4,c5,c6⟩:=Jef (P:=P) (w:=w) (n:=(K.filter fun J:MapEntry=> !seen.contains J.born).size) (by omega);have hj:(K.filter fun J:MapEntry=> !seen.contains J.born)[j]? =some (K.filter fun J:MapEntry=> !seen.contains J.born)[j]:=X5 c2;have U:(K.filter fun J:MapEntry=> !seen.contains J.born)[j]∈K.filter fun J:MapEntry=> !seen.contains J.born:=Array.getElem_mem c2;generalize (K.filter fun J:MapEntry=> !seen.contains J.born)[j]=Y at hj U;rw[Array.mem_filter]at U;have ab:w'.heap[l.b]? =some (.mapIter (some lm.b) h seen h):=by grind
  refine OpOK.B (x:= .value (.tuple #[.bool true,Y.key,Y.val])) (w':=setB w' l.b (.mapIter (some lm.b) h (seen.push Y.born) h)) ?_ (.inl ⟨_,rfl,[.bool true,Y.key,Y.val],rfl,_,_,rfl,rfl,_,_,rfl,trivial,_,_,rfl,trivial,rfl⟩)
   ((L.A c3).D h1 (by rw[h3];trivial) ⟨some lm.b,seen.push Y.born,jZ (by grind),by simp[h5], ?_, ?_,lm,h8,rfl⟩) ?_
  ·have Z:((((if(K.filter fun J:MapEntry=> !seen.contains J.born).isEmpty then #[(none:Option MapEntry)]else #[])++((K.filter fun J:MapEntry=> !seen.contains J.born)++ #[]).map some)))[j]? =some (some Y):=by grind
   have aa:(((if(K.filter fun J:MapEntry=> !seen.contains J.born).isEmpty then #[(none:Option MapEntry)]else #[])++((K.filter fun J:MapEntry=> !seen.contains J.born)++ #[]).map some)).size=(K.filter fun J:MapEntry=> !seen.contains J.born).size:=by grind
   simp only[Instr.next,Sem.run_bind,Kq h4 (fun _ _ _ J=>by cases J),Kq k2 (fun _ _ _ J=>by cases J),Result.andThen_ok,N,ZC,X8,Sem.run_pure,O,Q,aa,c1];rw[Z];simp[YM ab (fun _ _ _ J=>by cases J),hn]
  ·grind
  ·grind
  ·exact(Eva.Below.D (Below.refl base.n w) c3 c4 c5 c6).trans (Below.A (hl.1 (by rw[h3];rfl)))
 ·rename_i af
  injection k with k;injection k with ha hb;subst ha;subst hb;have al:=Jta h6 h7;have X:(K.filter fun J:MapEntry=> !seen.contains J.born)= #[]:=by
   apply Array.filter_eq_empty_iff.2;intro J he;have:=Js9 h6 h7 (by omega) (ae J (Array.mem_toList_iff.2 he))
   grind
  have am:(choose (.mapNext 1)).run P w= .ok 0 w:=by rfl
  rw[X]at O Q;refine OpOK.A L (y:= .tuple #[.bool false]) ?_ ⟨[.bool false],rfl,_,_,rfl,rfl,rfl⟩;simp only[Instr.next,Sem.run_bind,Kq h4 (fun _ _ _ J=>by cases J),Kq k2 (fun _ _ _ J=>by cases J),Result.andThen_ok,N,ZC,X8,Sem.run_pure,X,O,Q]
  simp_all
end
end Eva
