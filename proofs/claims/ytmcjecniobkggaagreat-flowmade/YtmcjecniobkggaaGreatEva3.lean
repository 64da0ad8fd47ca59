/- An evaluator of the model's code, proved to tell what the model does. Operations, one b -/
import Derived.Test.YtmcjecniobkggaaGreatEva2
import GoSem.Instr.MapEntry
set_option linter.constructorNameAsVariable false
set_option linter.unusedVariables false
set_option linter.unusedSimpArgs false
set_option linter.unusedSectionVars false
namespace Eva
open Go Go.RowKit
variable {s x:Value}{v t i S T:TypeId}{e n d l:Nat}{k:List V}{z:List (V×V)}{b g:V}{r:Pt}{q L:Array Value}{p:Array MapEntry}{f:Array TypeId}{h:List Value}{m:EK}{j:TypeInfo}{u:List Nat}{y:Array Field}{Q:TypeDesc}{W:Eff}{U:List MapEntry}{K:Addr}{M:Option Addr}{N:Loc}{O:Field}{X:World}
section
variable {P : Program} {γ : Locs} {ρ : Nat -> Value} {base : Bs} {st : St} {c : Pt -> Row} {w : World} {fr : Fr} {a : Act}
theorem Jqb {O M N:Option Operand}{g i j:Option Opd}(Y:P.underlying v=some (.array e t))(Z:szT P t=some n)(hx:R γ ρ (.e r d) s)
  (q:∀f,γ r=some f->d+e*n<=f.e)
  (h1:opdO O=some g) (h2:opdO M=some i) (h3:opdO N=some j) (hm:N.isSome->M.isSome) (k:FR γ ρ fr a) (h:YV n (.m r d e n e) (g.map (Opd.A fr)) (i.map (Opd.A fr)) (j.map (Opd.A fr))=some b) (u:Rel γ ρ base c w):
  OpOK P γ ρ base st c w b .a (do pure (.value (<-Instr.sliceAt v s (O.map a.eval) (M.map a.eval) (N.map a.eval)))):=by
 obtain⟨f,Q,k2⟩:=hx;subst k2;unfold YV at h;simp at h
 cases S:J7 0 (g.map (Opd.A fr))with
 |none=>grind
 | some l=>
   cases T:J7 e (i.map (Opd.A fr))with
   |none=>grind
   | some K=>
     cases L:J7 e (j.map (Opd.A fr))with
     |none=>grind
     | some m=>
       simp[S,T,L]at h;obtain⟨⟨U,W,X⟩,q4⟩:=h;subst q4;have hb:=Qb (P:=P) (w:=w) (a:=a) (isSlice:=false) (len:=e) (cap:=e) (m:=m) (JY h1 k S) (JY h2 k T) (JY h3 k L) U W X hm;obtain⟨p,f1,f2,f3⟩:=R.F (l:=l) (h:=K) (m:=m) (cp:=e) (ad:=⟨f.b,f.o+d,none⟩) (fun _=>rfl) (q f Q) U W X;refine OpOK.A u (y:= .slice (some p) (K-l) (m-l)) ?_ ⟨f,p,Q,rfl,by omega,f2,f3⟩;have t:(some (if m=l then(⟨f.b,f.o+d,none⟩:Addr)else Addr.add ⟨f.b,f.o+d,none⟩ (l*n)))=some p:=by grind
       simp[Instr.sliceAt,Instr.sureAddr,Jf Y,JX Z,hb,t]
theorem JnB {i:Array Field}(j:P.underlying v=some (.struct i))(k:i[e]? =some O)(l:szT P O.type=some n)(m:n≠0)
  (p:R γ ρ (.e r d) s) (g:Rel γ ρ base c w):OpOK P γ ρ base st c w (.e r (d+O.offset)) .a (do pure (.value (<-Instr.fieldAt v s e))):=by
 obtain⟨h,q,t⟩:=p;subst t;refine OpOK.A g (y:= .pointer (some ⟨h.b,h.o+(d+O.offset),none⟩)) ?_ ⟨h,q,rfl⟩;simp[Instr.fieldAt,Jf j,k,Instr.sureAddr,fieldPlace,JX l,m,YW,ZU]
theorem Jkf {d:Array Field}(h:P.underlying v=some (.struct d))(i:d[e]? =some O)(m:Kf P O.type=some true)(o:szT P O.type=some n)
  (p:R γ ρ (.j k) s) (b:Rel γ ρ base c w):OpOK P γ ρ base st c w (.j ((k.drop O.offset).take n)) .a (do pure (.value (<-Instr.field v s e))):=by
 obtain⟨g,q,r⟩:=p;subst q;refine OpOK.A b (y:= .agg (g.toArray.extract O.offset (O.offset+n))) ?_ ⟨(g.drop O.offset).take n, ?_,(r.G _).I _⟩
 ·simp[Instr.field,Jf h,i,asAgg,part,kZ m,JX o]
 simp
theorem Jkg {g:Array Field}(h:P.underlying v=some (.struct g))(i:g[e]? =some O)(m:Kf P O.type=some false)
  (n:R γ ρ (.j k) s) (o:k[O.offset]? =some b) (d:Rel γ ρ base c w):OpOK P γ ρ base st c w b .a (do pure (.value (<-Instr.field v s e))):=by
 obtain⟨p,q,r⟩:=n;subst q;obtain⟨y,u,t⟩:=r.H o;refine OpOK.A d (y:=y) ?_ t;have:p.toArray[O.offset]? =some y:=by grind
 simp[Instr.field,Jf h,i,asAgg,kC m this]
theorem JfY {k:IntKind}{o:Nat}(h:P.underlying v=some (.slice t))(j:szT P t=some e)(m:γ r=some N)(p:n<d)(q:d<=l)(s:l≠0->K=⟨N.b,N.o+o,none⟩)
  (f:Rel γ ρ base c w):OpOK P γ ρ base st c w (.e r (o+n*e)) .a (do pure (.value (<-Instr.indexAt v (.slice (some K) d l) (.int k (n:Int))))):=by
 have g:=s (by omega);subst g;refine OpOK.A f (y:= .pointer (some ⟨N.b,N.o+(o+n*e),none⟩)) ?_ ⟨N,m,rfl⟩;have u:(0:Int)<=(n:Int)/\(n:Int)<(d:Int):=⟨by omega,by omega⟩
 simp[Instr.indexAt,asIntOf,Jf h,JX j,u,p,YW,ZU]
theorem Jqc {k:IntKind}(m:P.underlying v=some .string)(o:R γ ρ (.t n d) s)(r:e<n)
  (f:Rel γ ρ base c w):OpOK P γ ρ base st c w (.d .u8 (Yg d e)) .a (do pure (.value (<-Instr.index v s (.int k (e:Int))))):=by
 obtain⟨b,p,u,q⟩:=o;subst p;have z:b.size=n:=by simp_all
 have h:e<b.data.toList.length:=by omega
 have l:=JbN b.data.toList e _ (Xg h);rw[q]at l;have g:b[e]? =some (b.data.toList[e]):=by
  have j:e<b.size:=by omega
  rw[getElem?_pos b e j];rfl
 refine OpOK.A f (y:= .int .u8 (b.data.toList[e].toNat)) ?_ (by rw[l];rfl);simp[Instr.index,asIntOf,Jf m,g]
theorem Jso (f:R γ ρ (.p k) s)(g:k[e]? =some b)(d:Rel γ ρ base c w):OpOK P γ ρ base st c w b .a (do pure (.value (<-Instr.extract s e))):=by
 obtain⟨h,i,j⟩:=f;subst i;obtain⟨y,o,m⟩:=j.H g;refine OpOK.A d (y:=y) ?_ m;have:h.toArray[e]? =some y:=by grind
 simp only[Instr.extract,this];rfl
theorem Jhm (g:Rel γ ρ base c w)(m:R γ ρ (.q r) s)(p:γ r≠none->st.A r≠ .none->c r=st.A r)(u:st.A r= .b e z):
  ∃l d,γ r=some l/\s= .map (some l.b)/\c r= .b e z/\w.heap[l.b]? =some (.map d z.length)/\d.size=z.length/\
   ∀i k v,z[i]? =some (k,v)->∃a:MapEntry,d[i]? =some a/\R γ ρ k a.key/\R γ ρ v a.val/\a.born=i:=by
 obtain⟨l,n,y⟩:=m;have o:c r= .b e z:=by grind
 obtain⟨K,h,j⟩:=g.f r (by grind);rw[n]at h;injection h with h;subst h;rw[o]at j;obtain⟨d,L,M,N⟩:=j
 grind
theorem Qz (h:w.heap[e]? =some (.map p n)):(getObj e).run P w= .ok (.map p n) w:=by
 simp[getObj,Sem.run,h]
theorem Jkh (h:f[0]? =some v)(i:P.underlying v=some .string)(j:R γ ρ (.t e n) s)(g:Rel γ ρ base c w):
  OpOK P γ ρ base st c w (.d .i64 e) .a (do pure (.value (<-Builtin.len_ f t #[s]))):=by
 obtain⟨b,k,m,o⟩:=j;subst k;have l:b.size=e:=by simp_all
 exact OpOK.A g (y:= .int .i64 e) (by simp[Builtin.len_,h,Jf i,goInt,l]) rfl
theorem Jhn (h:f[0]? =some v)(j:P.underlying v=some (.slice t))(k:slen b=some e)(l:R γ ρ b s)(g:Rel γ ρ base c w):
  OpOK P γ ρ base st c w (.d .i64 e) .a (do pure (.value (<-Builtin.len_ f i #[s]))):=by
 obtain⟨o,p,m⟩:=YF k l;subst m;exact OpOK.A g (y:= .int .i64 e) (by simp[Builtin.len_,h,Jf j,goInt]) rfl
end
section
variable {P : Program} {γ : Locs} {ρ : Nat -> Value} {base : Bs} {st : St} {c : Pt -> Row} {w : World} {fr : Fr} {a : Act}
def Jbl (γ:Locs)(ρ:Nat->Value)(es:List (V×V))(ents:List MapEntry):Prop:=
 ents.length=es.length/\∀(i:Nat) (k v:V),es[i]? =some (k,v)->∃e:MapEntry,ents[i]? =some e/\R γ ρ k e.key/\R γ ρ v e.val
def FRes (γ:Locs)(ρ:Nat->Value):Option (Nat×V)->Option (Nat×Value)->Prop
 |none,none=>True
 |some (i,v),some (j,x)=>i=j/\R γ ρ v x
 |_,_=>False
theorem Jbl.A {e:MapEntry}(h:Jbl γ ρ ((b,g)::z) (e::U)):R γ ρ b e.key/\R γ ρ g e.val/\Jbl γ ρ z U:=by
 obtain⟨j,a⟩:=h;obtain⟨l,c,d,f⟩:=a 0 b g rfl;simp at c;subst c;exact⟨d,f,by grind,fun i b g h=>by simpa using a (i+1) b g (by grind)⟩
theorem jT {l:TypeId}{e:EK}(m:eqk P l=some e){k:V}{x:Value}(n:R γ ρ k x):∀{g:List (V×V)} {a:List MapEntry} {i:Nat} {d:Option (Nat×V)},Jbl γ ρ g a->Yz e k g i=some d->
  ∃c,(Instr.findAsking l x a i).run P w= .ok c w/\FRes γ ρ d c
 | [],a,i,d,f,h=>by
   have:a=[]:=Xp f.1;subst this;simp[Yz]at h;subst h;exact⟨none,rfl,trivial⟩
 |(o,v)::g,[],i,d,f,h=>by have:=f.1;grind
 | (o,v)::g,q::a,i,d,f,h=>by
   obtain⟨r,s,t⟩:=f.A;simp[Yz]at h
   cases j:e.B k o with
   |none=>grind
   | some b=>
     have p:=qX (P:=P) (w:=w) m j n r
     cases b with
     |true=>simp[j]at h;subst h;exact⟨some (i,q.val),by simp[Instr.findAsking,p],rfl,s⟩
     | false=>
       simp[j]at h;obtain⟨c,u,y⟩:=jT m n t h;exact⟨c,by simp[Instr.findAsking,p,u],y⟩
theorem Jh6 (a:P.underlying v=some Q){b:Bool}(h:Instr.sameNow Q s x=some b):(Op.equal v s x).run P w= .ok b w:=by
 suffices c:∀D,(Op.equalIn (D+1) v s x).run P w= .ok b w from c 9999
 intro D;unfold Instr.sameNow at h
 split at h
 ·split at h
  ·rename_i e
   injection h with h;subst h;subst e;simp[Op.equalIn,Jf a]
  grind
 ·injection h with h;subst h;simp[Op.equalIn,Jf a]
 ·injection h with h;subst h;simp[Op.equalIn,Jf a]
 grind
theorem Jdf {t:TypeId}{d:TypeDesc}(f:P.underlying t=some d){x:Value}:∀{a:List MapEntry} {i:Nat} {r:Option (Nat×Value)},Instr.findNow d x a i=some r->(Instr.findAsking t x a i).run P w= .ok r w
 |[],i,r,h=>by simp[Instr.findNow]at h;subst h;rfl
 | e::a,i,r,h=>by
   simp[Instr.findNow]at h
   cases c:Instr.sameNow d x e.key with
   |none=>grind
   | some b=>
     have g:=Jh6 (P:=P) (w:=w) f c
     cases b with
     |true=>simp[c]at h;subst h;simp[Instr.findAsking,g]
     |false=>simp[c]at h;simp[Instr.findAsking,g,Jdf f h]
theorem JnC (h:eqk P v=some m):∃d,P.underlying v=some d:=by
 unfold eqk at h
 grind
theorem YO (g:eqk P v=some m)(j:R γ ρ b s){c:Option (Nat×V)}(f:Jbl γ ρ z U)(h:Yz m b z 0=some c):
  ∃a,(Instr.findKey v s U).run P w= .ok a w/\FRes γ ρ c a:=by
 obtain⟨a,l,n⟩:=jT (P:=P) (w:=w) g j f h;obtain⟨d,i⟩:=JnC g;refine⟨a, ?_,n⟩;simp[Instr.findKey,Sem.run_bind,Jf i,Result.andThen_ok]
 cases o:Instr.findNow d s U 0 with
 |none=>exact l
 | some r=>
   have:=Jdf (P:=P) (w:=w) i o
   simp_all
def JdR (P:Program)(d:Nat)(t:TypeId)(n:Nat):Prop:=
 ∀(em:Bool) (D:Nat),d<=D->∀(xs:Array Value) (off:Nat) (w:World),off+n<=xs.size->∃x,(part t xs off).run P w= .ok x w/\(Instr.checkKey em D t x).run P w= .ok () w
theorem Jdg {d:Nat}(ih:∀t ks,leaves P d t=some ks->JdR P d t ks.length)(em:Bool){D:Nat}(hD:d<=D)(xs:Array Value):∀(fs:List Field) (o:Nat) (ks:List KD) (w:World),Yl (leaves P d) fs o=some ks->o+ks.length<=xs.size->
  (forIn fs PUnit.unit fun(f:Field) (_:PUnit)=>(do
   if f.name ≠ "_" then
    let x<-part f.type xs f.offset
    Instr.checkKey em D f.type x
    pure (ForInStep.yield PUnit.unit)
   else pure (ForInStep.yield PUnit.unit):Sem (ForInStep PUnit))).run P w= .ok PUnit.unit w
 |[],o,ks,w,_,_=>rfl
 | f::fs,o,ks,w,h,hle=>by
   simp only[Yl]at h
   split at h
   ·cases h
   ·rename_i hf
    simp[GO,ZY]at hf
    cases hl:leaves P d f.type with
    |none=>grind
    | some l=>
      cases hr:Yl (leaves P d) fs (o+l.length)with
      |none=>grind
      | some r=>
        simp[hl,hr]at h;subst h;simp at hle;obtain⟨x,e1,e2⟩:=ih _ _ hl em D hD xs o w (by omega);have:=Jdg ih em hD xs fs (o+l.length) r w hr (by omega)
        simp_all
theorem Jef {d:Nat}{e:TypeId}{n:Nat}(c:szT P e=some n)(f:JdR P d e n)(b:Bool){D:Nat}(g:d<=D)(a:Array Value):∀(m i:Nat) (w:World),(i+m)*n<=a.size->
  (forIn (List.range' i m) PUnit.unit fun(j:Nat) (_:PUnit)=>(do
   let k<-Go.sizeOf e
   let x<-part e a (j*k)
   Instr.checkKey b D e x
   pure (ForInStep.yield PUnit.unit):Sem (ForInStep PUnit))).run P w= .ok PUnit.unit w
 |0,i,w,_=>rfl
 | m+1,i,w,h=>by
   obtain⟨x,l,o⟩:=f b D g a (i*n) w (by
    grind)
   have:=Jef c f b g a m (i+1) w (by grind);simp only[GS,List.forIn_cons,Sem.run_bind,Sem.run_pure,Result.andThen_ok,l,o,JX c];omega
theorem Jeg (c:P.underlying v=some Q)(f:Kf P v=some false)(p:∀l,Q≠ .interface l):JdR P (e+1) v 1:=by
 intro q D r g b w h;obtain⟨j,rfl⟩:∃j,D=j+1:=⟨D-1,by omega⟩
 have m:g[b]? =some (g[b]'(by omega)):=X3 (by omega);refine⟨_,kC f m, ?_⟩;generalize g[b]'(by omega)=x;have o:(∀n a,Q≠ .array n a)/\(∀k,Q≠ .struct k):=by
  constructor
  ·intro n a i;subst i;simp[Kf,c]at f
  ·intro k i;subst i;simp[Kf,c]at f
 simp[Instr.checkKey,Sem.run_bind,Jf c,Result.andThen_ok]
 simp_all
theorem Jbm :∀(d:Nat) (t:TypeId) (ks:List KD),leaves P d t=some ks->JdR P d t ks.length
 |0,t,ks,h=>by simp[leaves]at h
 | d+1,t,ks,h=>by
   simp[leaves]at h
   split at h
   ·rename_i a;injection h with h;subst h;exact Jeg a (Yi a (fun _ e=>by cases e) (fun _ _ e=>by cases e)) (fun _ e=>by cases e)
   ·rename_i k a;injection h with h;subst h;exact Jeg a (Yi a (fun _ e=>by cases e) (fun _ _ e=>by cases e)) (fun _ e=>by cases e)
   ·rename_i a;injection h with h;subst h;exact Jeg a (Yi a (fun _ e=>by cases e) (fun _ _ e=>by cases e)) (fun _ e=>by cases e)
   ·rename_i s a
    split at h
    ·cases h
    ·cases g:Yl (leaves P d) s.toList 0 with
     |none=>grind
     | some l=>
       simp only[g]at h
       split at h
       ·rename_i c
        injection h with h;subst h;intro m D u o b w i;obtain⟨f,rfl⟩:∃f,D=f+1:=⟨D-1,by omega⟩
        have p:Kf P t=some true:=by simp[Kf,a]
        refine⟨_,Qc p c, ?_⟩;have:=Jdg (fun t ks h=>Jbm d t ks h) m (D:=f) (by omega) (o.extract b (b+l.length)) s.toList 0 l w g (by grind);simp[Instr.checkKey,Sem.run_bind,Jf a,Result.andThen_ok,<-Array.forIn_toList]
        simp_all
       grind
   ·rename_i n e a
    cases g:leaves P d e with
    |none=>grind
    | some l=>
      simp only[g]at h
      split at h
      ·rename_i c
       obtain⟨q,r,_⟩:=c;injection h with h;subst h;intro m D u o b w i;obtain⟨f,rfl⟩:∃f,D=f+1:=⟨D-1,by omega⟩
       have p:Kf P t=some true:=by simp[Kf,a]
       have j:(List.replicate n l).flatten.length=n*l.length:=by simp
       rw[j]at i;refine⟨_,Qc p r, ?_⟩;have:=Jef q (Jbm d e l g) m (D:=f) (by omega) (o.extract b (b+n*l.length)) n 0 w (by grind);simp[Instr.checkKey,Sem.run_bind,Jf a,Result.andThen_ok]
       simp_all
      grind
   grind
end
section
variable {P : Program} {γ : Locs} {ρ : Nat -> Value} {base : Bs} {st : St} {c : Pt -> Row} {w : World} {fr : Fr} {a : Act}
theorem Jho (g:eqk P v=some m){k:V}(o:R γ ρ k s)(h:m.A k=true)(d:Bool):(Instr.checkKey d 10000 v s).run P w= .ok () w:=by
 cases m with
 | a p=>
   have c:=Jhl g
   suffices q:∀D,(Instr.checkKey d (D+1) v s).run P w= .ok () w from q 9999
   intro D
   cases p<;>simp only[KDok]at c
   ·simp[Instr.checkKey,Jf c]
   ·obtain⟨_,c⟩:=c;simp[Instr.checkKey,Jf c]
   ·simp[Instr.checkKey,Jf c]
   ·obtain⟨_,c⟩:=c;simp[Instr.checkKey,Jf c]
   ·obtain⟨_,c⟩:=c;simp[Instr.checkKey,Jf c]
   ·obtain⟨_,_,c⟩:=c;simp[Instr.checkKey,Jf c]
   ·obtain⟨_,_,_,c⟩:=c;simp[Instr.checkKey,Jf c]
 | b i=>
   obtain⟨j,l,_⟩:=Jec g;unfold EK.A at h
   split at h
   ·grind
   ·rename_i K f
    cases f
    obtain⟨n,r,t⟩:=o;subst r;have u:n.length=i.length:=by rw[t.A];grind
    obtain⟨y,z,L⟩:=Jbm 8 v i j d 10000 (by decide) n.toArray 0 w (by simp[u]);rw[Qc l (Jde j l)]at z
    grind
   grind
theorem JbT {k:KD}(h:keq k b g=some true)(c:R γ ρ b s)(d:R γ ρ g x)(m:k= .b\/k= .i\/k= .s):Instr.sameBits e x s=true:=by
 rcases m with rfl|rfl|rfl
 ·unfold keq at h
  split at h<;>first|(cases h;done)|skip
  all_goals first
   |(rename_i a;cases a;done)
   |(simp[ZB]at h;subst h;simp[R]at c d;subst c;subst d;cases e<;>simp[Instr.sameBits])
 ·unfold keq at h
  split at h<;>first|grind|skip
  all_goals first
   |(rename_i a;cases a;done)
   |(split at h<;>cases h;done)
   | (split at h
      ·rename_i f;simp[ZB]at h;subst h;subst f;simp[R]at c d;subst c;subst d;cases e<;>simp[Instr.sameBits]
      ·cases h)
 ·unfold keq at h
  split at h<;>first|grind|skip
  all_goals first
   |(rename_i a;cases a;done)
   | (simp[ZB]at h
      obtain⟨r,t⟩:=h;obtain⟨j,o,w,z⟩:=c;obtain⟨l,p,K,L⟩:=d;subst o;subst p;have q:l.data.toList=j.data.toList:=kY (by omega) (by omega);have:l=j:=by
       cases j;cases l
       congr 1;exact Array.toList_inj.1 q
      subst this
      cases e<;>(simp[Instr.sameBits];rw[beq_toListBytes];exact beq_self_eq_true _))
theorem Ja5 {n:Nat}:∀{ks:List KD} {a c:List V} {d e:List Value},(ks.all fun k=>k== .b||k== .i||k== .s)=true->keqs ks a c=some true->a.length=ks.length->c.length=ks.length->RL γ ρ a d->RL γ ρ c e->
  ((e.zip d).all fun(p:Value×Value)=>Instr.sameBits n p.1 p.2)=true
 | [],a,c,d,e,_,_,g,h,r,t=>by
   have j:=Xp g;have l:=Xp h;subst j;subst l;simp[RL]at r t
   simp_all
 |k::ks,[],c,d,e,_,_,g,_,_,_=>by grind
 |k::ks,u::a,[],d,e,_,_,_,h,_,_=>by grind
 | k::ks,u::a,v::c,d,e,o,f,g,h,⟨x,w,j,l,z⟩,⟨y,K,L,M,N⟩=>by
   subst j;subst L;simp only[ZE,Xj]at o;simp only[keqs]at f
   cases q:keq k u v with
   |none=>grind
   | some b=>
     rw[q]at f
     cases b with
     |false=>cases f
     | true=>
       have m:k= .b\/k= .i\/k= .s:=by grind
       simp only[List.zip_cons_cons,ZE,Xj];exact⟨JbT q l M m,Ja5 o.2 f (by grind) (by grind) z N⟩
theorem Jeh (c:m.D=true)(h:m.B b g=some true)(d:R γ ρ b s)(f:R γ ρ g x):Instr.sameBits 10000 x s=true:=by
 suffices l:∀n,Instr.sameBits (n+1) x s=true from l 9999
 intro n;unfold EK.B at h
 split at h
 ·rename_i k
  refine JbT h d f ?_
  cases k<;>simp[EK.D]at c<;>simp
 ·split at h
  ·rename_i q r t a
   obtain⟨w,o,i⟩:=d;obtain⟨z,p,j⟩:=f;subst o;subst p;simp only[Instr.sameBits,Xj];refine⟨by simp[i.A,j.A,a.1,a.2], ?_⟩;exact Ja5 c h a.1 a.2 i j
  grind
 grind
theorem Jei {e:EK}{k:V}:∀{d:List (V×V)} {a i:Nat} {v:V},Yz e k d a=some (some (i,v))->a<=i/\∃c,d[i-a]? =some (c,v)/\e.B k c=some true
 |[],a,i,v,h=>by simp[Yz]at h
 | (c,g)::d,a,i,v,h=>by
   simp[Yz]at h
   cases f:e.B k c with
   |none=>grind
   | some b=>
     cases b with
     |true=>grind
     | false=>
       simp[f]at h;obtain⟨j,l,m,n⟩:=Jei h
       grind
theorem JfZ {T:Bool}{k d:V}{y:Value}(hu:P.underlying v=some (.map t i))(he:eqk P t=some m)(hz:Jk6 P i=some b)(hx:R γ ρ g s)(hy:R γ ρ k y)
  (hc:∀r,rowOf g=some r->γ r≠none->st.A r≠ .none->c r=st.A r) (K:Jd8 st g=some z) (hf:m.A k=true)
  (hv:(∃f w',Yz m k z 0=some (some (f,w'))/\d=(if T then .p [w', .h true]else w'))\/(Yz m k z 0=some none/\d=(if T then .p [b, .h false]else b))) (L:Rel γ ρ base c w):
  OpOK P γ ρ base st c w d .a (do pure (.value (<-Instr.lookup v s y T))):=by
 obtain⟨zv,aa,ab⟩:=Jkb (ρ:=ρ) hz;have U:∀q:List MapEntry,Jbl γ ρ z q->∃M o n,(Instr.findKey t y q).run P w= .ok M w/\((∃j,M=some (j,o)/\n=true)\/(M=none/\o=zv/\n=false))/\R γ ρ d (if T then .tuple #[o, .bool n]else o):=by
  intro q N;rcases hv with⟨f,w',h1,h2⟩|⟨h1,h2⟩
  ·obtain⟨O,S,W⟩:=YO (P:=P) (w:=w) he hy N h1
   cases O with
   |none=>exact W.elim
   | some p=>
     obtain⟨j,o⟩:=p;obtain⟨_,Z⟩:=W;refine⟨_,o,true,S, .inl ⟨j,rfl,rfl⟩, ?_⟩;subst h2
     cases T with
     |true=>exact⟨[o, .bool true],rfl,_,_,rfl,Z,_,_,rfl,rfl,rfl⟩
     |false=>exact Z
  ·obtain⟨O,S,W⟩:=YO (P:=P) (w:=w) he hy N h1
   cases O with
   |some p=>exact W.elim
   | none=>
     refine⟨_,zv,false,S, .inr ⟨rfl,rfl,rfl⟩, ?_⟩;subst h2
     cases T with
     |true=>exact⟨[zv, .bool false],rfl,_,_,rfl,ab γ,_,_,rfl,rfl,rfl⟩
     |false=>grind
 unfold Jd8 at K
 split at K
 ·injection K with K;subst K;simp[R]at hx;subst hx;obtain⟨M,o,n,S,W,Z⟩:=U [] ⟨rfl,fun f k d h=>by simp at h⟩;have Q:=Jho (P:=P) (w:=w) he hy hf true;refine OpOK.A L (y:=if T then .tuple #[o, .bool n]else o) ?_ Z;rcases W with⟨j,X,Y⟩|⟨X,Y,e3⟩
  ·subst X;subst Y;simp[Instr.lookup,Jf hu,Q,S]
  ·subst X;subst Y;subst e3;simp[Instr.lookup,Jf hu,Q,S,aa]
 ·rename_i r
  split at K
  ·rename_i tt ad hs
   injection K with K;subst K;obtain⟨l,q,h1,h2,h3,h4,h5,h6⟩:=Jhm L hx (hc r rfl) hs;subst h2;obtain⟨M,o,n,S,W,Z⟩:=U q.toList ⟨by omega,fun f k d h=>by grind⟩;have Q:=Jho (P:=P) (w:=w) he hy hf q.isEmpty;refine OpOK.A L (y:=if T then .tuple #[o, .bool n]else o) ?_ Z;rcases W with⟨j,X,Y⟩|⟨X,Y,e3⟩
   ·subst X;subst Y;simp[Instr.lookup,Jf hu,Q,S,Qz h4]
   ·subst X;subst Y;subst e3;simp[Instr.lookup,Jf hu,Q,S,aa,Qz h4]
  grind
 grind
end
section
variable {P : Program} {γ : Locs} {ρ : Nat -> Value} {base : Bs} {st : St} {c : Pt -> Row} {w : World} {fr : Fr} {a : Act}
theorem qY {o:Obj}(h:w.heap[e]? =some (.map p n)):(setObj e o).run P w= .ok () (setB w e o):=by
 simp[setObj,Sem.run,h]
theorem JcE (h:Instr.sameBits 10000 s x=true):(Instr.keyThatStays s x).run P w= .ok x w:=by
 simp[Instr.keyThatStays,h]
theorem Jki (c:p.size=z.length)
  (h:∀(n:Nat) (k v:V),z[n]? =some (k,v)->∃a:MapEntry,p[n]? =some a/\R γ ρ k a.key/\R γ ρ v a.val/\a.born=n) (f:V×V->V×V) (g:MapEntry->MapEntry)
  (m:∀a,(g a).born=a.born) (d:∀k v (a:MapEntry),z[n]? =some (k,v)->R γ ρ k a.key->R γ ρ v a.val->R γ ρ (f (k,v)).1 (g a).key/\R γ ρ (f (k,v)).2 (g a).val) (o:N.b<w.heap.size):
  Qr γ ρ N (.b e (z.modify n f)) (setB w N.b (.map (p.modify n g) z.length)):=by
 refine⟨p.modify n g,by grind,by simp[c],fun j q r s=> ?_⟩
 grind
theorem JnD {k:V}{key val:Value}(d:p.size=z.length)
  (q:∀(i:Nat) (k b:V),z[i]? =some (k,b)->∃a:MapEntry,p[i]? =some a/\R γ ρ k a.key/\R γ ρ b a.val/\a.born=i) (g:R γ ρ k key) (h:R γ ρ b val) (r:N.b<w.heap.size):
  Qr γ ρ N (.b e (z++[(k,b)])) (setB w N.b (.map (p.push {key,val,born:=z.length}) (z.length+1))):=by
 refine⟨p.push {key,val,born:=z.length},by grind,by simp[d],fun j s t f=> ?_⟩;by_cases m:j<z.length
 ·grind
 ·have c:j=z.length:=by grind
  subst c;simp at f;obtain⟨n,o⟩:=f;subst n;subst o;exact⟨_,by rw[Z6,Xd d.symm],g,h,rfl⟩
theorem JdS {a:Value}{M:List (V×V)}(hu:P.underlying v=some (.map t i))(Y:eqk P t=some m)(hp:m.D=true)(hx:R γ ρ (.q r) x)(O:R γ ρ b s)(hz:R γ ρ g a)
  (hc:γ r≠none->st.A r≠ .none->c r=st.A r) (hs:st.A r= .b e z) (hf:m.A b=true)
  (hv:(∃f w',Yz m b z 0=some (some (f,w'))/\M=z.modify f fun _=>(b,g))\/(Yz m b z 0=some none/\M=z++[(b,g)])) (n:Rel γ ρ base c w):
  OpOK P γ ρ base st c w Kj (.d r e fun u=> .b u M) (do Instr.mapUpdate v x s a;pure .skip):=by
 obtain⟨l,o,Z,h2,S,T,h5,h6⟩:=Jhm n hx hc hs;subst h2;have K:Jbl γ ρ z o.toList:=⟨by omega,fun f b g h=>by grind⟩
 have Q:=Jho (P:=P) (w:=w) Y O hf false;have U:=n.d r l Z;rcases hv with⟨f,w',W,q2⟩|⟨W,q2⟩
 ·obtain⟨L,p1,X⟩:=YO (P:=P) (w:=w) Y O K W
  cases L with
  |none=>exact X.elim
  | some p=>
    obtain⟨j,val⟩:=p;obtain⟨e1,p3⟩:=X;subst e1;subst q2;obtain⟨_,k',s1,s2⟩:=Jei W;rw[GZ]at s1;obtain⟨en,t1,t2,t3,t4⟩:=h6 _ _ _ s1;have N:=Jeh hp s2 O t2;refine OpOK.B (x:= .skip) (w':=setB w l.b (.map (o.modify f fun m=>{m with key:=s,val:=a}) z.length)) ?_ (.inr ⟨rfl,rfl⟩)
     (n.G Z (by rw[S];trivial) (Jki h5 h6 _ _ (fun _=>rfl) (fun _ _ _ _ _ _=>⟨O,hz⟩) U.2)) (Below.A (U.1 (by rw[S];rfl)))
    simp[Instr.mapUpdate,Jf hu,Qz T,Q,p1,t1,JcE N,qY T]
 ·obtain⟨L,p1,X⟩:=YO (P:=P) (w:=w) Y O K W
  cases L with
  |some p=>exact X.elim
  | none=>
    subst q2;refine OpOK.B (x:= .skip) (w':=setB w l.b (.map (o.push {key:=s,val:=a,born:=z.length}) (z.length+1))) ?_ (.inr ⟨rfl,rfl⟩)
     (n.G Z (by rw[S];trivial) (JnD h5 h6 O hz U.2)) (Below.A (U.1 (by rw[S];rfl)))
    simp[Instr.mapUpdate,Jf hu,Qz T,Q,p1,qY T]
end
section
variable {P : Program} {γ : Locs} {ρ : Nat -> Value} {base : Bs} {st : St} {c : Pt -> Row} {w : World} {fr : Fr} {a : Act}
theorem Jqd (g:P.underlying v=some .string)(h:R γ ρ (.t e n) s)(d:Rel γ ρ base c w)(f:γ st.b=none):
  OpOK P γ ρ base st c w (.e st.b 0) (.b fun v=> .e v e n 0) (do pure (.value (<-Instr.range v s))):=by
 obtain⟨a,i,j,k⟩:=h;subst i;refine OpOK.D (o:= .stringIter a 0) (e:=1) (w':=w.alloc (.stringIter a 0)) d f ⟨w.drawn,rfl⟩ (y:= .pointer (some ⟨w.heap.size,0,none⟩)) ?_ ⟨_,JG _ _ _,rfl⟩ ⟨a,Yn _,j,k⟩ (fun _=>by decide);simp[Instr.range,Jf g]
theorem Jh7 (j:P.underlying v=some (.map t i))(g:R γ ρ .w s)(a:Rel γ ρ base c w)(f:γ st.b=none):
  OpOK P γ ρ base st c w (.e st.b 0) (.b fun v=> .d v none 0 0) (do pure (.value (<-Instr.range v s))):=by
 simp[R]at g;subst g;refine OpOK.D (o:= .mapIter none 0 #[] 0) (e:=1) (w':=w.alloc (.mapIter none 0 #[] 0)) a f ⟨w.drawn,rfl⟩ (y:= .pointer (some ⟨w.heap.size,0,none⟩)) ?_ ⟨_,JG _ _ _,rfl⟩
  ⟨none, #[],Yn _,rfl,Gh,fun b h=>by simp at h,rfl⟩ (fun _=>by decide)
 simp[Instr.range,Jf j]
theorem Jqe (j:P.underlying v=some (.map t i))(k:R γ ρ (.q r) s)(m:γ r≠none->st.A r≠ .none->c r=st.A r)(n:st.A r= .b e z)(a:Rel γ ρ base c w)(f:γ st.b=none):
  OpOK P γ ρ base st c w (.e st.b 0) (.b fun v=> .d v (some r) z.length 0) (do pure (.value (<-Instr.range v s))):=by
 obtain⟨l,g,p,u,L,K,M,N⟩:=Jhm a k m n;subst u;refine OpOK.D (o:= .mapIter (some l.b) z.length #[] z.length) (e:=1) (w':=w.alloc (.mapIter (some l.b) z.length #[] z.length)) a f ⟨w.drawn,rfl⟩ (y:= .pointer (some ⟨w.heap.size,0,none⟩)) ?_ ⟨_,JG _ _ _,rfl⟩
  ⟨some l.b, #[],Yn _,rfl,Gh,fun b h=>by simp at h,l,Ext.B f r l p,rfl⟩ (fun _=>by decide)
 simp[Instr.range,Jf j,Qz K]
theorem JbU (d:Rel γ ρ base c w)(g:R γ ρ (.e r 0) s)(h:γ r≠none->st.A r≠ .none->c r=st.A r){a:Row}(i:st.A r=a)(f:a.D):
  ∃l,γ r=some l/\s= .pointer (some ⟨l.b,0,none⟩)/\c r=a/\Qr γ ρ l a w:=by
 obtain⟨l,j,m,k,n⟩:=YE d g h i (by intro e;rw[e]at f;exact f);have:=d.z r l j (by rw[k];cases a<;>first|trivial|exact f.elim)
 grind
theorem Kt {o:Obj}(h:w.heap[e]? =some o)(d:∀c a f,o≠ .cells c a f):(getObj e).run P w= .ok o w:=by
 cases o<;>first|grind|simp[getObj,Sem.run,h]
theorem YG {o c:Obj}(h:w.heap[e]? =some o)(g:∀d a f,o≠ .cells d a f):(setObj e c).run P w= .ok () (setB w e c):=by
 cases o<;>first|grind|simp[setObj,Sem.run,h]
theorem Jhp {s:ByteArray}{pos:Nat}(h:pos<s.data.toList.length)(c:Yg (snum s.data.toList) pos<128):Utf8.decode s pos=(Yg (snum s.data.toList) pos,1):=by
 have b:=JbN s.data.toList pos _ (Xg h);have a:(s.get! pos).toNat=Yg (snum s.data.toList) pos:=by
  rw[b];congr 1;have d:pos<s.data.size:=by omega
  show s.data[pos]! =_
  grind
 unfold Utf8.decode
 grind
theorem JnE (y:R γ ρ (.e r 0) x)(z:γ r≠none->st.A r≠ .none->c r=st.A r)(K:st.A r= .e e n d l)(L:l<n)(O:Yg d l<128)(g:Rel γ ρ base c w):
  OpOK P γ ρ base st c w (.p [.h true, .d .i64 l, .d .i32 (Yg d l)]) (.d r e fun u=> .e u n d (l+1)) (do pure (.value (<-Instr.next x true v))):=by
 obtain⟨a,j,M,k,s,m,N,o⟩:=JbU g y z K trivial;subst M;have q:=g.d r a j;have i:s.size=n:=by simp_all
 have t:=Jhp (s:=s) (pos:=l) (by omega) (by grind);rw[o]at t;refine OpOK.B (x:= .value (.tuple #[.bool true,goInt l, .int .i32 (Yg d l)])) (w':=setB w a.b (.stringIter s (l+1))) ?_ (.inl ⟨_,rfl,[.bool true,goInt l, .int .i32 (Yg d l)],rfl,_,_,rfl,rfl,_,_,rfl,rfl,_,_,rfl,rfl,rfl⟩)
  (g.G j (by rw[k];trivial) ⟨s,jS q.2,N,o⟩) (Below.A (q.1 (by rw[k];rfl)))
 simp[Instr.next,Kt m (fun _ _ _ f=>by cases f),i,L,t,YG m (fun _ _ _ f=>by cases f)]
theorem JfN (z:R γ ρ (.e r 0) x)(K:γ r≠none->st.A r≠ .none->c r=st.A r)(L:st.A r= .e e n d l)(M:l<n)(g:Rel γ ρ base c w):
  OpOK P γ ρ base st c w (.p [.h true, .d .i64 l, .d .i32 (Utf8.decode (jJ n d) l).1]) (.d r e fun u=> .e u n d (l+(Utf8.decode (jJ n d) l).2)) (do pure (.value (<-Instr.next x true v))):=by
 obtain⟨a,k,N,m,s,o,q,t⟩:=JbU g z K L trivial;subst N;have y:=g.d r a k;have i:s.size=n:=by simp_all
 have j:jJ n d=s:=by rw[<-q,<-t];exact Jdc s
 rw[j];refine OpOK.B (x:= .value (.tuple #[.bool true,goInt l, .int .i32 (Utf8.decode s l).1])) (w':=setB w a.b (.stringIter s (l+(Utf8.decode s l).2))) ?_ (.inl ⟨_,rfl,[.bool true,goInt l, .int .i32 (Utf8.decode s l).1],rfl,_,_,rfl,rfl,_,_,rfl,rfl,_,_,rfl,rfl,rfl⟩)
  (g.G k (by rw[m];trivial) ⟨s,jS y.2,q,t⟩) (Below.A (y.1 (by rw[m];rfl)))
 simp[Instr.next,Kt o (fun _ _ _ f=>by cases f),i,M,YG o (fun _ _ _ f=>by cases f)]
theorem Jhq (k:R γ ρ (.e r 0) s)(m:γ r≠none->st.A r≠ .none->c r=st.A r)(o:st.A r= .e e n d l)(q:¬l<n)(i:Rel γ ρ base c w):
  OpOK P γ ρ base st c w (.p [.h false]) .a (do pure (.value (<-Instr.next s true v))):=by
 obtain⟨b,z,t,K,f,u,L,M⟩:=JbU i k m o trivial;subst t;have j:f.size=n:=by simp_all
 refine OpOK.A i (y:= .tuple #[.bool false]) ?_ ⟨[.bool false],rfl,_,_,rfl,rfl,rfl⟩;simp[Instr.next,Kt u (fun _ _ _ g=>by cases g),j,q]
end
section
variable {P : Program} {γ : Locs} {ρ : Nat -> Value} {base : Bs} {st : St} {c : Pt -> Row} {w : World} {fr : Fr} {a : Act}
theorem Jak (h:(loadCells K (n*e)).run P w= .ok q w):(Builtin.firstCells e n (.slice (some K) d l)).run P w= .ok q w:=by
 simp[Builtin.firstCells,h]
theorem Q2 (a:Rel γ ρ base c w)(f:R γ ρ b s)(g:∀r,rowOf b=some r->γ r≠none->st.A r≠ .none->c r=st.A r){z:Nat}{l:List V}(h:JA st z n b=some l):
  l.length=n*z/\∃d:List Value,RL γ ρ l d/\(Builtin.firstCells z n s).run P w= .ok d.toArray w:=by
 obtain⟨i,j⟩:=Jed (P:=P) a f g h;refine⟨i, ?_⟩;rcases j with⟨t,k,m,o,e⟩|⟨u,m,o,d,e,p,q⟩
 ·subst k;subst e;exact⟨[],by rfl,by rfl⟩
 ·subst e;exact⟨d,p,Jak q⟩
theorem Rel.I (h:Rel γ ρ base c w){m:Pt}(Z:γ r=some N)(hq:γ m=none){xs:List V}(hc:c r= .a e xs){fz:Nat×Nat}
  (hb:w.heap[N.b]? =some (.cells q v fz)) (hs:L.size=q.size) {o:Nat} (ab:o<=N.e)
  (ho:∀i,i<N.o\/N.o+N.e<=i->L[i]? =q[i]?) {u1:Nat} 
  (hr:Qr (upd γ m (some ⟨N.b,N.o+o,N.e-o⟩)) ρ ⟨N.b,N.o+o,N.e-o⟩ (.a n k) (setB w N.b (.cells L v fz))):
  Rel (upd γ m (some ⟨N.b,N.o+o,N.e-o⟩)) ρ base (upd (upd c r (.c u1)) m (.a n k)) (setB w N.b (.cells L v fz)):=by
 have Q:=h.F Z hb hs ⟨e,xs,hc⟩ ho (row:= .c u1) trivial (fun u=>u);have hl:=h.d r N Z;have ad:r≠m:=fun u=>by grind
 have hx:Ext γ (upd γ m (some ⟨N.b,N.o+o,N.e-o⟩)):=Ext.B hq;refine⟨Q.y,Q.j,fun x K u=> ?_,fun x u=> ?_,fun x K O M=> ?_,fun x s lr S T O M W a2=> ?_,fun x K O M=> ?_⟩
 ·by_cases P:x=m
  ·subst P;rw[JG]at u;injection u with u;subst u;exact⟨fun _=>hl.1 (by rw[hc];rfl),by grind⟩
  ·rw[Ju _ _ P]at u⊢;exact Q.d x K u
 ·by_cases P:x=m
  ·simp_all
  ·have ec:upd (upd c r (.c u1)) m (.a n k) x=upd c r (.c u1) x:=Ju _ _ P;rw[ec]at u;obtain⟨K,O,M⟩:=Q.f x u;rw[ec];exact⟨K,hx x K O,M.A hx rfl⟩
 ·by_cases P:x=m
  ·simp_all
  ·rw[Ju _ _ P]at O M;exact Q.z x K O M
 ·have aa:∀s S,s≠m->γ s=some S->(upd c r (.c u1) s).B->Jj9 ⟨N.b,N.o+o,N.e-o⟩ S:=fun s S hs K X=>by
   have U:s≠r:=fun u=>by rw[u,JG]at X;exact X
   rw[Ju _ _ U]at X;rcases h.B r s N S (Ne.symm U) Z K (by rw[hc];trivial) X with g|g|g
   ·exact .inl g
   ·exact .inr (.inl (by grind))
   ·exact .inr (.inr (by grind))
  by_cases P:x=m
  ·subst P;rw[JG]at O;injection O with O;subst O;have Y:s≠x:=Ne.symm T;rw[Ju _ _ Y]at M a2
   grind
  ·by_cases Y:s=m
   ·subst Y;rw[JG]at M;injection M with M;subst M;rw[Ju _ _ P]at O W;rcases aa x lr P O W with g|g|g
    ·exact .inl (Ne.symm g)
    ·exact .inr (.inr g)
    ·exact .inr (.inl g)
   ·rw[Ju _ _ P]at O W;rw[Ju _ _ Y]at M a2;exact Q.B x s lr S T O M W a2
 ·by_cases P:x=m
  ·subst P;rw[JG]at M;cases M
  ·rw[Ju _ _ P]at O M;exact Q.H x K O M
theorem Rel.J (h:Rel γ ρ base c w){p:Pt}{t:Nat}{xs:List V}(v:c p= .a t xs):Rel γ ρ base (upd c p (.c e)) w:=by
 refine⟨h.y,h.j,fun r k b=>⟨fun g=>(h.d r k b).1 ?_,(h.d r k b).2⟩,fun r b=> ?_,fun r k m g=> ?_,fun r s x K q m g n o=> ?_,fun r k m g=> ?_⟩
 ·by_cases i:r=p
  ·subst i;rw[v];rfl
  ·rwa [Ju _ _ i]at g
 ·by_cases i:r=p
  ·subst i;obtain⟨l,m,g⟩:=h.f r (by grind);exact⟨l,m,by rw[JG];trivial⟩
  ·rw[Ju _ _ i]at b⊢;exact h.f r b
 ·by_cases i:r=p
  ·simp_all
  ·rw[Ju _ _ i]at g;exact h.z r k m g
 ·have i:r≠p:=fun b=>by subst b;rw[JG]at n;exact n
  have es:s≠p:=fun b=>by subst b;rw[JG]at o;exact o
  rw[Ju _ _ i]at n;rw[Ju _ _ es]at o;exact h.B r s x K q m g n o
 ·by_cases i:r=p
  ·subst i;rw[JG]at g;cases g
  ·rw[Ju _ _ i]at g;exact h.H r k m g
theorem JnF {c:Pt->Row}{q:Pt}{a b:Row}(h:r≠q):upd (upd c r a) q b=upd (upd c q b) r a:=by
 funext d;by_cases e:d=r
 ·subst e;rw[Ju _ _ h,JG,JG]
 ·by_cases f:d=q
  ·subst f;rw[JG,Ju _ _ e,JG]
  ·rw[Ju _ _ f,Ju _ _ e,Ju _ _ e,Ju _ _ f]
theorem Jh8 (w:World)(a b:Nat)(e:TypeId):a<=grownCap w a b e:=by
 simp[grownCap,Question.cut]
theorem JcF {ty:TypeId}(h:P.underlying v=some (.slice i))(l:P.underlying t=some (.slice S))(m:P.info? i=some j)(o:j.bytes<=65536)
  (p:j.zero=some x) (r:(Builtin.lenOf s).run P w= .ok n w) (f:¬e+n<=d) (a:e+n<=2^25) (K:(Builtin.firstCells j.size e (.slice M e d)).run P w.drew= .ok q w.drew)
  (N:(Builtin.firstCells j.size n s).run P w.drew= .ok L w.drew):
  (Builtin.append_ #[v,t] ty #[.slice M e d,s]).run P w= .ok (.slice (some ⟨w.heap.size,0,none⟩) (e+n) (grownCap w (e+n) d i))
   (w.drew.alloc (.cells (q++L++Builtin.zeroCells x.cells (grownCap w (e+n) d i-(e+n))) i)):=by
 have b:¬(9223372036854775807<((e:Int)+(n:Int))):=by omega
 have O:(e+n)*j.bytes<=140737488355328:=by
  have:=Nat.mul_le_mul a o;omega
 have g:=growslice_fits (old:=d) (need:=e+n) (bytes:=j.bytes) (by omega) O;have c:¬(281474976710656<Builtin.nextslicecap (e+n) d*j.bytes):=by omega
 simp[Builtin.append_,Jf h,Jf l,Go.sizeOf,typeInfo,zeroValue,m,p,r,f,b,c,Question.forced,K,N,newRow,grownCap,Array.append_assoc]
theorem Ja6 {ty:TypeId}{ad:Addr}{w':World}(c:P.underlying v=some (.slice i))(f:P.underlying t=some (.slice S))(g:P.info? i=some j)
  (l:(Builtin.lenOf s).run P w= .ok n w) (a:e+n<=d) (m:(Builtin.firstCells j.size n s).run P w= .ok h.toArray w)
  (b:(storeCells (ad.add (e*j.size)) h).run P w= .ok () w'):
  (Builtin.append_ #[v,t] ty #[.slice (some ad) e d,s]).run P w= .ok (.slice (some ad) (e+n) d) w':=by
 simp[Builtin.append_,Jf c,Jf f,Go.sizeOf,typeInfo,g,l,a,m,b]
theorem Jkj {pre:List Value}{γ':Locs}(f:RL γ' ρ k pre)(d:∃c,q.toList=pre++c)(h:n=q.size){w:World}:
  Qr γ' ρ ⟨w.heap.size,0,n⟩ (.a e k) (w.alloc (.cells q v)):=by
 subst h;obtain⟨c,d⟩:=d;have p:=f.A;have j:q.size=pre.length+c.length:=by rw[<-Z7,d];simp
 refine⟨q,v,(0,0), ?_,by simp,by grind,fun i b l=> ?_,fun i _=>by simp⟩
 ·show(w.heap.push _)[w.heap.size]? =_;simp
 ·obtain⟨x,g,m⟩:=f.H l;refine⟨x, ?_,m⟩;have o:i<pre.length:=(Xz.1 g).1;rw[ZD,<-ZV,d,XP o];exact g
theorem Jej (z:Array Value)(n:Nat):(Builtin.zeroCells z n).size=n*z.size:=by simp[Builtin.zeroCells]
theorem Below.D {B:Nat}{w w' a:World}(h:Below B w w')(c:a.heap=w'.heap)(d:a.os=w'.os)(e:a.tape=w'.tape)(f:a.output=w'.output):Below B w a:=
 ⟨by rw[d];exact h.os,by rw[e];exact h.tape,by rw[f];exact h.output,by rw[c];exact h.size,fun b k=>by rw[c];exact h.block b k⟩
theorem JmZ (j:Rel γ ρ base c w)(p:γ st.b=none){e:TypeId}{i:Nat}{m:List V}{g:List Value}(v:RL γ ρ k h)(x:RL γ ρ m g)(s:k.length=l*n)(t:m.length=d*n)
  (q:l+d<=i) {rest:Array Value} (o:rest.size=(i-(l+d))*n):
  ∃γ',R γ' ρ (.u st.b 0 (l+d) n) (.slice (some ⟨w.heap.size,0,none⟩) (l+d) i)/\(∀u,Rel γ' ρ base (upd c st.b (.a u (k++m))) (w.drew.alloc (.cells (h.toArray++g.toArray++rest) e)))/\Ext γ γ'/\
   (∀r,γ' r≠none->γ r≠none\/r=st.b)/\Below base.n w (w.drew.alloc (.cells (h.toArray++g.toArray++rest) e)):=by
 have K:Ext γ (upd γ st.b (some ⟨w.heap.size,0,(h.toArray++g.toArray++rest).size⟩)):=Ext.B p;have L:(h.toArray++g.toArray++rest).size=i*n:=by
  have M:=v.A;have N:=x.A;simp[M,N,s,t,o];rw[<-GM,<-GM]
  grind
 refine⟨_,⟨_,⟨w.heap.size,0,none⟩,i,JG _ _ _,rfl,q,fun _=>rfl, ?_⟩,fun u=> ?_,K,fun r d=> ?_, ?_⟩
 ·grind
 ·refine(j.A (w':=w.drew) rfl).D p (Jkj (pre:=h++g) ((RL.D v x).J K) ⟨rest.toList,by simp⟩ rfl) (fun f=>f.elim)
 ·by_cases O:r=st.b
  ·grind
  ·rw[Ju _ _ O]at d;grind
 ·exact Eva.Below.D ((Below.refl base.n w).alloc j.y _) rfl rfl rfl rfl
theorem Jqf (h:slen b=some e)(c:R γ ρ b s):∃f d,s= .slice f e d/\e<=d:=by
 unfold slen at h
 split at h
 ·injection h with h;subst h;simp[R]at c;grind
 ·injection h with h;subst h;obtain⟨l,a,d,_,k,g,_⟩:=c;grind
 ·injection h with h;subst h;obtain⟨l,a,_,k,g,_⟩:=c;grind
 grind
theorem JdP {ty:TypeId}{ad:Option Addr}(b:P.underlying v=some (.slice i))(c:P.underlying t=some (.slice S))(d:P.info? i=some j)
  (f:(Builtin.lenOf s).run P w= .ok 0 w) (a:e<=n) (g:(Builtin.firstCells j.size 0 s).run P w= .ok #[] w):
  (Builtin.append_ #[v,t] ty #[.slice ad e n,s]).run P w= .ok (.slice ad e n) w:=by
 cases ad<;>simp[Builtin.append_,Jf b,Jf c,Go.sizeOf,typeInfo,d,f,a,g,storeCells]
theorem Jsp (hρ:∀j,(ρ j).oneCell'=true)(h1:P.underlying t=some (.slice S))(h2:P.underlying v=some (.slice T))(h3:P.info? S=some j)(h4:j.bytes<=65536)
  (hz:j.zero=some s) (bc:s.cells.size=j.size) {m:V}  {xx:Value} (hs:R γ ρ b x) (hx:R γ ρ g xx)
  (ag:∀r,rowOf b=some r->γ r≠none->st.A r≠ .none->c r=st.A r) (aw:∀r,rowOf g=some r->γ r≠none->st.A r≠ .none->c r=st.A r) (L:Rel γ ρ base c w)
  (ah:W.A=true->γ st.b=none)   (hk:slen g=some e) (hn:JA st j.size e g=some k) (bm:e<2^20) (ax:Kk k=true) (h:JI st j.size e k b=some (m,W)):
  OpOK P γ ρ base st c w m W (do pure (.value (<-Builtin.append_ #[t,v] i #[x,xx]))):=by
 obtain⟨ay,aa,O,ai⟩:=Q2 (P:=P) L hx aw hn;obtain⟨_,bd,aj,az⟩:=Q2 (P:=P) (L.A (w':=w.drew) rfl) hx aw hn;obtain⟨bn,bo,ex⟩:=YF hk hx;have U:(Builtin.lenOf xx).run P w= .ok e w:=by subst ex;rfl
 have a0:∀m∈aa,m.oneCell'=true:=fun m hv=>by
  obtain⟨j,hi⟩:=Gk.1 hv;have a7:j<k.length:=by have:=(Xz.1 hi).1;have:=O.A;omega
  obtain⟨g,hx,hr⟩:=O.H (Xg a7);rw[hi]at hx;injection hx with hx;subst hx;exact JfW hρ (Ze.1 ax _ (Xh a7)) hr
 have ab:∀{n:Nat} {ad:Option Addr} {cp:Nat} {ols:List V} {olds:List Value},x= .slice ad n cp->n+e<=2^25->¬n+e<=cp->RL γ ρ ols olds->ols.length=n*j.size->(Builtin.firstCells j.size n (.slice ad n cp)).run P w.drew= .ok olds.toArray w.drew->γ st.b=none->
   ∃γ' y w',(Builtin.append_ #[t,v] i #[x,xx]).run P w= .ok y w'/\R γ' ρ (.u st.b 0 (n+e) j.size) y/\(∀v,Rel γ' ρ base (upd c st.b (.a v (ols++k))) w')/\Ext γ γ'/\
    (∀r,γ' r≠none->γ r≠none\/r=st.b)/\Below base.n w w':=by
  intro n ad cp ols olds be ak bf bg ae bh af;have hg:=JcF (P:=P) (ty:=i) h1 h2 h3 h4 hz U bf ak bh az;obtain⟨γ',a1,a2,a3,a4,a5⟩:=JmZ (e:=S) L af bg aj ae ay (Jh8 w (n+e) cp S) (rest:=Builtin.zeroCells s.cells (grownCap w (n+e) cp S-(n+e))) (by rw[Jej,bc])
  grind
 unfold JI at h;by_cases al:e=0
 ·rw[Xd al]at h
  split at h
  ·rename_i am
   injection h with h;injection h with ha hb;subst ha;subst hb;obtain⟨n,bi⟩:=Zw.1 am;obtain⟨ad,cp,be,bj⟩:=Jqf bi hs;subst al;have ao:aa=[]:=Xp (by rw[O.A,ay];simp);subst ao;have:=JdP (P:=P) (ty:=i) (ad:=ad) h1 h2 h3 U bj ai;exact OpOK.A L (y:=x) (by simp_all) hs
  grind
 ·rw[Xa al]at h
  split at h
  ·injection h with h;injection h with ha hb;subst ha;subst hb;simp[R]at hs;obtain⟨γ',y,w',a1,a2,a3,a4,a5,a6⟩:=ab (n:=0) (ols:=[]) (olds:=[]) hs (by omega) (by omega) (by rfl) (by simp) (by rfl) (ah rfl);rw[ZD]at a2;exact⟨_,w',γ',by simp[a1], .inl ⟨y,rfl,a2⟩,by simpa[Eff.D]using a3 st.t,a4,fun r e=>(a5 r e).imp id fun S=>⟨S,rfl⟩,a6⟩
  ·rename_i r o n z'
   split at h
   ·cases h
   ·rename_i N
    simp[GO,ZY]at N;obtain⟨ap,ak⟩:=N;subst ap
    split at h
    ·rename_i tt l Q
     split at h
     ·rename_i ae
      injection h with h;injection h with ha hb;subst ha;subst hb;have aq:=hs;obtain⟨M,ad,cp,g1,g2,g3,g4,g5⟩:=aq;have af:=ah rfl;have Z:c r= .a tt l:=by rw[ag r rfl (by grind) (by grind),Q]
      have a8:r≠st.b:=fun S=>by grind
      by_cases K:n+e<=cp
      ·have ar:=g4 (by omega);subst ar;obtain⟨bp,k1,k2⟩:=L.f r (by grind);rw[g1]at k1;injection k1 with k1;subst k1;rw[Z]at k2;obtain⟨bk,X,fz,m1,m2,m3,m4,m5⟩:=k2;have hl:=L.d r M g1;have bq:=O.A;have a9:(n+e)*j.size<=cp*j.size:=Zb _ K;rw[GM]at a9;obtain⟨Y,e1,e2,e3,e4⟩:=Ym (P:=P) (b:=M.b) (o:=M.o+o+n*j.size) (elem:=X) (fz:=fz) aa 0 w bk m1 (by omega)
        (fun p hj=>by have:=m5 (o+n*j.size+p) (by omega);omega) a0
       simp at e2 e3;have ba:=Ja6 (P:=P) (ty:=i) h1 h2 h3 U K ai (ad:=⟨M.b,M.o+o,none⟩) (w':=setB w M.b (.cells Y X fz)) (by rw[YW];exact e4);have au:Ext γ (upd γ st.b (some ⟨M.b,M.o+o,M.e-o⟩)):=Ext.B af;have bb:((l.drop o).take (n*j.size)).length=n*j.size:=by grind
       have av:Qr (upd γ st.b (some ⟨M.b,M.o+o,M.e-o⟩)) ρ ⟨M.b,M.o+o,M.e-o⟩ (.a (st.t+1) ((l.drop o).take (n*j.size)++k)) (setB w M.b (.cells Y X fz)):=by
        refine⟨Y,X,fz,jS hl.2,by grind,by grind,fun p m hv=> ?_,fun p hj=> ?_⟩
        ·show∃g,Y[M.o+o+p]? =some g/\_;by_cases hj:p<n*j.size
         ·rw[XP (by omega),List.getElem?_take_of_lt hj,Gd]at hv;obtain⟨g,p1,p2⟩:=m4 _ _ hv;refine⟨g, ?_,p2.A au⟩
          grind
         ·rw[X9 (by omega),bb]at hv;obtain⟨g,p1,p2⟩:=O.H hv;have:=e3 _ _ p1;rw[show M.o+o+n*j.size+(p-n*j.size)=M.o+o+p by omega]at this;exact⟨g,this,p2.A au⟩
        ·have br:p<M.e-o:=hj;have:=m5 (o+p) (by omega)
         grind
       refine⟨_,_,_,by simp_all, .inl ⟨_,rfl,⟨_,⟨M.b,M.o+o,none⟩,cp,JG _ _ _,rfl,K,fun _=>rfl, ?_⟩⟩,
        Rel.I (u1:=st.t) L g1 af Z m1 e1 (o:=o) (by omega) (fun p hj=>e2 p (by omega)) av,au,fun q hq=> ?_,Below.A (hl.1 (by rw[Z];rfl))⟩
       ·grind
       ·by_cases er:q=st.b
        ·exact .inr ⟨er,rfl⟩
        ·rw[Ju _ _ er]at hq;grind
      ·obtain⟨q1,olds,q2,q3⟩:=Q2 (P:=P) (w:=w.drew) (z:=j.size) (n:=n) (l:=(l.drop o).take (n*j.size)) (L.A rfl) hs ag (by simp[JA,Kw,Q,ae]);subst g2;obtain⟨γ',y,w',a1,a2,a3,a4,a5,a6⟩:=ab rfl (by omega) K q2 q1 q3 af;refine⟨_,w',γ',by simp[a1], .inl ⟨y,rfl,a2⟩, ?_,a4,fun r e=>(a5 r e).imp id fun S=>⟨S,rfl⟩,a6⟩;show Rel γ' ρ base (upd (upd c r (.c st.t)) st.b (.a (st.t+1) ((l.drop o).take (n*j.size)++k))) w';rw[JnF a8];exact(a3 (st.t+1)).J (t:=tt) (xs:=l) (by rw[Ju _ _ a8];exact Z)
     grind
    grind
  ·rename_i r o n z' cc
   split at h
   ·cases h
   ·rename_i N
    simp[GO,ZY]at N;obtain⟨ap,ak⟩:=N;subst ap
    split at h
    ·rename_i tt l Q
     split at h
     ·rename_i ae
      have aq:=hs;obtain⟨M,ad,g1,g2,g3,g4,g5⟩:=aq;have Z:c r= .a tt l:=by rw[ag r rfl (by grind) (by grind),Q]
      split at h
      ·rename_i K
       split at h
       ·rename_i bl
        injection h with h;injection h with ha hb;subst ha;subst hb;have ar:=g4 (by omega);subst ar;rw[GM]at bl;obtain⟨w',e1,e2,e3⟩:=jK (P:=P) (u:=st.t) hρ L g1 Z (o:=o+n*j.size) (by omega) ax O;have ba:=Ja6 (P:=P) (ty:=i) h1 h2 h3 U K ai (ad:=⟨M.b,M.o+o,none⟩) (w':=w') (by rw[YW,ZU];exact e1);exact OpOK.B (by simp_all) (.inl ⟨_,rfl,⟨M,_,g1,rfl,K,fun _=>rfl,g5⟩⟩) e2 e3
       grind
      ·rename_i K
       injection h with h;injection h with ha hb;subst ha;subst hb;obtain⟨q1,olds,q2,q3⟩:=Q2 (P:=P) (w:=w.drew) (z:=j.size) (n:=n) (l:=(l.drop o).take (n*j.size)) (L.A rfl) hs ag (by simp[JA,Kw,Q,ae]);subst g2;obtain⟨γ',y,w',a1,a2,a3,a4,a5,a6⟩:=ab rfl (by omega) K q2 q1 q3 (ah rfl);exact⟨_,w',γ',by simp[a1], .inl ⟨y,rfl,a2⟩,by simpa[Eff.D]using a3 st.t,a4,fun r e=>(a5 r e).imp id fun S=>⟨S,rfl⟩,a6⟩
     grind
    grind
  grind
end
section
variable {P : Program} {γ : Locs} {ρ : Nat -> Value} {base : Bs} {st : St} {c : Pt -> Row} {w : World} {fr : Fr} {a : Act}
theorem Jdh (h:jQ b=some g)(c:slen b=some e)(q:e≠0)(j:R γ ρ b s):∃k d,s= .slice (some k) e d/\R γ ρ g (.pointer (some k))/\rowOf g=rowOf b:=by
 unfold jQ at h
 split at h
 ·injection h with h;subst h;simp[slen]at c;subst c;obtain⟨l,a,d,f,i,m,o,_⟩:=j;exact⟨a,d,i,⟨l,f,by grind⟩,rfl⟩
 ·injection h with h;subst h;simp[slen]at c;subst c;obtain⟨l,a,f,i,m,o,_⟩:=j;exact⟨a,_,i,⟨l,f,by grind⟩,rfl⟩
 grind
theorem Ja7 (s:∀i,(ρ i).oneCell'=true)(v:R γ ρ b (.pointer (some K)))(x:∀r,rowOf b=some r->γ r≠none->st.A r≠ .none->c r=st.A r)
  (g:Rel γ ρ base c w) (y:RL γ ρ k h) (a:JO st b k=some W):
  ∃r q f m,W= .d r q f/\(storeCells K h).run P w= .ok () m/\Rel γ ρ base (upd c r (f st.t)) m/\Below base.n w m:=by
 unfold JO at a
 split at a
 ·rename_i r o
  split at a
  ·rename_i q N z
   split at a
   ·rename_i j
    injection a with a;subst a;obtain⟨O,L,l,M,Q⟩:=YE g v (x r rfl) z (by simp);injection l with l;injection l with l;subst l;obtain⟨m,S,T,U⟩:=jK (P:=P) (u:=st.t) s g L M j.1 j.2 y
    grind
   grind
  grind
 grind
theorem Jdi {γ:Locs}{ρ:Nat->Value}:∀(k:Nat) (l:List UInt8),k<=l.length->RL γ ρ (jP k (snum l)) ((l.take k).map fun b=>Value.int .u8 b.toNat)
 |0,_,_=>rfl
 |k+1,[],h=>absurd h (by simp)
 | k+1,b::l,h=>by
   have a:b.toNat<256:=b.toNat_lt;rw[jP,snum,show(b.toNat+256*snum l)%256=b.toNat by omega,show(b.toNat+256*snum l)/256=snum l by omega];exact⟨_,_,rfl,rfl,Jdi k l (by grind)⟩
theorem JbV :∀k v:Nat,(jP k v).length=k
 |0,_=>rfl
 |k+1,v=>by rw[jP,XJ,JbV k]
theorem Jm0 (g:Rel γ ρ base c w)(i:R γ ρ b s)(o:∀r,rowOf b=some r->γ r≠none->st.A r≠ .none->c r=st.A r)(h:cellsX st e n b=some k):
  k.length=n*e/\∃j:List Value,RL γ ρ k j/\(Builtin.firstCells e n s).run P w= .ok j.toArray w:=by
 unfold cellsX at h
 split at h
 ·rename_i m a
  split at h
  ·rename_i p
   obtain⟨rfl,t⟩:=p;injection h with h;subst h;obtain⟨d,rfl,u,q⟩:=i;refine⟨by rw[JbV,Gf],_,by rw[<-q];exact Jdi n _ (by omega), ?_⟩;have f:(d.extract 0 n).data=(d.data.toList.take n).toArray:=by
    apply Array.ext';simp
   simp only[Builtin.firstCells,f,List.map_toArray];rfl
  grind
 ·exact Q2 g i o h
theorem Jqg (h:slenX b=some e)(c:R γ ρ b s):(Builtin.lenOf s).run P w= .ok e w:=by
 unfold slenX at h
 split at h
 ·injection h with h;subst h;obtain⟨a,rfl,d,j⟩:=c;rw[<-d,show a.data.toList.length=a.size by rfl];rfl
 ·obtain⟨f,g,i⟩:=YF h c;subst i;rfl
theorem Jla (hρ:∀j,(ρ j).oneCell'=true)(h1:P.underlying v=some (.slice i))(h3:szT P i=some e){x:V}{Q:Value}(hd:R γ ρ b s)(hx:R γ ρ x Q)
   (ht:f[0]? =some v)
  (ae:∀r,rowOf b=some r->γ r≠none->st.A r≠ .none->c r=st.A r) (S:∀r,rowOf x=some r->γ r≠none->st.A r≠ .none->c r=st.A r) (m:Rel γ ρ base c w)
    (hn:slen b=some n) (hk:slenX x=some d) (T:cellsX st e (Nat.min d n) x=some k)  
  (h:(if Nat.min d n=0 then some (V.d .i64 0,Eff.a)else match jQ b with
    |some p=>(JO st p k).map fun i=>(V.d .i64 (Nat.min d n),i)
    |none=>none)=some (g,W)):
  OpOK P γ ρ base st c w g W (do pure (.value (<-Builtin.copy_ f t #[s,Q]))):=by
 obtain⟨U,o,q,K⟩:=Jm0 (P:=P) m hx S T;have u:(Builtin.lenOf Q).run P w= .ok d w:=Jqg hk hx
 split at h
 ·rename_i M
  injection h with h;injection h with X Y;subst X;subst Y;obtain⟨ad,cp,Z⟩:=YF hn hd;have L:o=[]:=Xp (by rw[q.A,U,M];simp);subst L;rw[M]at K;refine OpOK.A m (y:=goInt 0) ?_ rfl;subst Z;have aa:min d n=0:=M
  cases ad<;>simp[Builtin.copy_,ht,Jf h1,u,JX h3,K,aa,storeCells]
 ·rename_i M
  split at h
  ·rename_i p hp
   cases N:JO st p k with
   |none=>grind
   | some i=>
     simp[N]at h;obtain⟨X,Y⟩:=h;subst X;subst Y;obtain⟨ad,cp,Z,ab,af⟩:=Jdh hp hn (fun i=>M (by grind)) hd;obtain⟨r,tt,l,w',e1,e2,e3,e4⟩:=Ja7 (P:=P) hρ ab (by grind) m q N;subst e1;refine OpOK.B (x:= .value (goInt (Nat.min d n))) ?_ (.inl ⟨_,rfl,rfl⟩) e3 e4;subst Z;have O:(Builtin.firstCells e (min d n) Q).run P w= .ok o.toArray w:=K;simp[Builtin.copy_,ht,Jf h1,u,JX h3,O,e2]
  grind
theorem JnG (Y:∀d,(ρ d).oneCell'=true)(Q:P.underlying v=some (.slice i))(Z:KA P i=some k){x:V}(S:R γ ρ x s)
   (T:f[0]? =some v)
  (aa:∀r,rowOf x=some r->γ r≠none->st.A r≠ .none->c r=st.A r) (j:Rel γ ρ base c w)
   (U:slen x=some n)  
  (h:(if n=0 then some (Kj,Eff.a)else match jQ x with
    |some p=>if k.length=e then(JO st p (List.replicate n k).flatten).map fun i=>(Kj,i)else none
    |none=>none)=some (b,W)):
  OpOK P γ ρ base st c w b W (do pure (.value (<-Builtin.clear_ f t #[s]))):=by
 split at h
 ·rename_i o
  injection h with h;injection h with q u;subst q;subst u;subst o;obtain⟨X,cp,K⟩:=YF U S;refine OpOK.A j (y:= .tuple #[]) ?_ ⟨[],rfl,rfl⟩;subst K
  cases X<;>simp[Builtin.clear_,T,Jf Q]
 ·rename_i o
  split at h
  ·rename_i p hp
   split at h
   ·cases l:JO st p (List.replicate n k).flatten with
    |none=>grind
    | some i=>
      simp[l]at h;obtain⟨q,u⟩:=h;subst q;subst u;obtain⟨L,M,hr⟩:=Qa (ρ:=ρ) Z;obtain⟨X,cp,K,N,ab⟩:=Jdh hp U o S;have O:RL γ ρ (List.replicate n k).flatten (Builtin.zeroCells L.cells n).toList:=by
       unfold Builtin.zeroCells;rw[Jbj n L.cells.size L.cells rfl];exact RL.B (hr γ) n
      obtain⟨r,tt,g,w',e1,e2,e3,e4⟩:=Ja7 (P:=P) Y N (by grind) j O l;subst e1;refine OpOK.B (x:= .value (.tuple #[])) ?_ (.inl ⟨_,rfl,[],rfl,rfl⟩) e3 e4;subst K;obtain⟨n,rfl⟩:∃m,n=m+1:=⟨n-1,by omega⟩
      simp[Builtin.clear_,T,Jf Q,M,e2]
   grind
  grind
theorem qz {l:List Nat}:∀{q:List Nat},l.Nodup->(∀b∈l,b∈q)->l.length<=q.length:=by
 induction l with
 |nil=>simp
 | cons a l f=>
   intro q c d;rw[ZJ]at c;have h:a∈q:=d a (by simp);have:=f (q:=q.erase a) c.2 fun b g=>(Hh (fun e=>c.1 (by grind))).2 (d b (by simp[g]))
   grind
theorem Jsq (c:u.Nodup)(d:∀b∈u,b<e)(f:u.length=e)(g:n<e):n∈u:=by
 apply GL;intro a;have:=qz (l:=n::u) (q:=List.range e) (ZJ.2 ⟨a,c⟩) fun b h=>by grind
 grind
theorem Jqh {l:List Nat}(c:l.length<n):∃i,i<n/\i∉l:=by
 apply GL;intro a;have:=qz (l:=List.range n) (q:=l) HD fun b d=>by grind
 grind
theorem Jsr (a:u.Nodup)(c:∀b∈u,b<e):u.length<=e:=by
 have:=qz (l:=u) (q:=List.range e) a fun b d=>by grind
 grind
theorem Jhr (i:R γ ρ (.e r 0) s)(j:γ r≠none->st.A r≠ .none->c r=st.A r)(k:st.A r= .d e none n d)(f:Rel γ ρ base c w):
  OpOK P γ ρ base st c w (.p [.h false]) .a (do pure (.value (<-Instr.next s false v))):=by
 obtain⟨l,t,m,u,o,seen,q,_,_,_,g⟩:=JbU f i j k trivial;subst m;have g:o=none:=g;subst g;refine OpOK.A f (y:= .tuple #[.bool false]) ?_ ⟨[.bool false],rfl,_,_,rfl,rfl,rfl⟩;simp[Instr.next,Kt q (fun _ _ _ b=>by cases b)]
theorem JdQ (b:0<n):∃i a,(choose (.mapNext n)).run P w= .ok i a/\i<n/\a.heap=w.heap/\a.os=w.os/\a.tape=w.tape/\a.output=w.output:=by
 by_cases h:n<=1
 ·exact⟨0,w,by simp[Question.forced,h],b,rfl,rfl,rfl,rfl⟩
 ·exact⟨_,w.drew,by simp[Question.forced,h];rfl,by simp[Question.cut];exact Ha _ b,rfl,rfl,rfl,rfl⟩
theorem JnH {m:Pt}{t2 M:Nat}(hx:R γ ρ (.e r 0) x)(hc:∀r,γ r≠none->st.A r≠ .none->c r=st.A r)(hs:st.A r= .d e (some m) l M)(hm:st.A m= .b t2 z)
  (hn:z.length=l) (q:Rel γ ρ base c w)  
  (h:(if M<l then some (V.p [.h true, .y, .y],Eff.d r e fun u=> .d u (some m) l (M+1))else some (.p [.h false], .a))=some (b,W)):
  OpOK P γ ρ base st c w b W (do pure (.value (<-Instr.next x false v))):=by
 obtain⟨g,h1,h2,h3,mm,seen,h4,h5,h6,h7,Y,h8,h9⟩:=JbU q hx (hc r) hs trivial;subst h2;subst h9;have hl:=q.d r g h1;have aa:c m= .b t2 z:=by grind
 have N:=q.f m (by grind);rw[aa]at N;obtain⟨af,Z,o,k2,k3,k4⟩:=N;rw[h8]at Z;injection Z with Z;subst Z;have s:∀i,i<l->∃k,o[i]? =some k/\k.born=i:=fun i hi=>by
  obtain⟨k,q1,_,_,q2⟩:=k4 i _ _ (Xg (by omega))
  grind
 have ab:∀k∈o.toList,k.born<l:=fun k he=>by
  obtain⟨i,hi⟩:=Gk.1 he
  grind
 have ag:seen.toList.length=M:=by omega
 have t:(!seen.isEmpty&& !o.isEmpty&&o.all (fun k=>decide (k.born≥l)))=false:=by
  by_cases he:o.size=0
  ·grind
  ·obtain⟨k,q1,q2⟩:=s 0 (by omega)
   grind
 have K:(o.filter fun k:MapEntry=> !seen.contains k.born).filter (fun k=>decide (k.born<l))=o.filter fun k:MapEntry=> !seen.contains k.born:=by
  apply Array.filter_eq_self.2
  grind
 have L:(o.filter fun k:MapEntry=> !seen.contains k.born).filter (fun k=>decide (k.born≥l))= #[]:=by simp_all
 split at h
 ·rename_i ad
  injection h with h;injection h with ha hb;subst ha;subst hb;obtain⟨i,hi,ah⟩:=Jqh (l:=seen.toList) (n:=l) (by omega);obtain⟨e0,q1,q2⟩:=s i hi;have ai:(o.filter fun k:MapEntry=> !seen.contains k.born).size≠0:=fun k=>by
   have:e0∈o.filter fun k:MapEntry=> !seen.contains k.born:=by grind
   grind
  have ae:(o.filter fun k:MapEntry=> !seen.contains k.born).isEmpty=false:=by grind
  obtain⟨j,w',c1,c2,c3,c4,c5,c6⟩:=JdQ (P:=P) (w:=w) (n:=(o.filter fun k:MapEntry=> !seen.contains k.born).size) (by omega);have hj:(o.filter fun k:MapEntry=> !seen.contains k.born)[j]? =some (o.filter fun k:MapEntry=> !seen.contains k.born)[j]:=X3 c2;have O:(o.filter fun k:MapEntry=> !seen.contains k.born)[j]∈o.filter fun k:MapEntry=> !seen.contains k.born:=Array.getElem_mem c2;generalize (o.filter fun k:MapEntry=> !seen.contains k.born)[j]=S at hj O;rw[Array.mem_filter]at O;have X:w'.heap[g.b]? =some (.mapIter (some Y.b) l seen l):=by grind
  refine OpOK.B (x:= .value (.tuple #[.bool true,S.key,S.val])) (w':=setB w' g.b (.mapIter (some Y.b) l (seen.push S.born) l)) ?_ (.inl ⟨_,rfl,[.bool true,S.key,S.val],rfl,_,_,rfl,rfl,_,_,rfl,trivial,_,_,rfl,trivial,rfl⟩)
   ((q.A c3).G h1 (by rw[h3];trivial) ⟨some Y.b,seen.push S.born,jS (by grind),by simp[h5], ?_, ?_,Y,h8,rfl⟩) ?_
  ·have T:((((if(o.filter fun k:MapEntry=> !seen.contains k.born).isEmpty then #[(none:Option MapEntry)]else #[])++((o.filter fun k:MapEntry=> !seen.contains k.born)++ #[]).map some)))[j]? =some (some S):=by grind
   have U:(((if(o.filter fun k:MapEntry=> !seen.contains k.born).isEmpty then #[(none:Option MapEntry)]else #[])++((o.filter fun k:MapEntry=> !seen.contains k.born)++ #[]).map some)).size=(o.filter fun k:MapEntry=> !seen.contains k.born).size:=by grind
   simp only[Instr.next,Sem.run_bind,Kt h4 (fun _ _ _ k=>by cases k),Kt k2 (fun _ _ _ k=>by cases k),Result.andThen_ok,t,Zu,X2,Sem.run_pure,K,L,U,c1];rw[T];simp[YG X (fun _ _ _ k=>by cases k),hn]
  ·grind
  ·grind
  ·exact(Eva.Below.D (Below.refl base.n w) c3 c4 c5 c6).trans (Below.A (hl.1 (by rw[h3];rfl)))
 ·rename_i ad
  injection h with h;injection h with ha hb;subst ha;subst hb;have aj:=Jsr h6 h7;have Q:(o.filter fun k:MapEntry=> !seen.contains k.born)= #[]:=by
   apply Array.filter_eq_empty_iff.2;intro k he;have:=Jsq h6 h7 (by omega) (ab k (Array.mem_toList_iff.2 he))
   grind
  have ak:(choose (.mapNext 1)).run P w= .ok 0 w:=by rfl
  rw[Q]at K L;refine OpOK.A q (y:= .tuple #[.bool false]) ?_ ⟨[.bool false],rfl,_,_,rfl,rfl,rfl⟩;simp only[Instr.next,Sem.run_bind,Kt h4 (fun _ _ _ k=>by cases k),Kt k2 (fun _ _ _ k=>by cases k),Result.andThen_ok,t,Zu,X2,Sem.run_pure,Q,K,L]
  simp_all
end
end Eva
