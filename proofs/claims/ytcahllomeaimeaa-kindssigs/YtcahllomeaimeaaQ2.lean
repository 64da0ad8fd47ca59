/- What is wrong with a type, and its kids. What is wrong with types, with functions. Opts in Opts. What is wrong with a schema of one type. The table of a schema of one type. A type added to a table: what is beside it stays. A table used: what is beside it stays. A table asked: which types fit; Opts. Slices copied: a row of one's own. What is wrong with the names of named types. What named types' -/
import Derived.Test.YtcahllomeaimeaaQ1
set_option linter.unusedVariables false
set_option linter.unusedSimpArgs false
set_option maxRecDepth 100000
namespace Go.Proofs.Ytcahllomeaimeaa
open Eva Go.RowKit
def zty :V:= .agg [.int .i64 0,ofL [], .snil, .snil]
set_option maxHeartbeats 4000000 in
theorem mayC :∀(m:Nat) (ty:Ty),tsz ty<m->∀(P:Pt->Prop) (st:St) (kr rm:Pt) (l:List (Str×Ty)) (e:List V) (deep met tk:Nat),WF st->NmMap P st rm l->TyC P st e ty->(∀r,P r->r≠kr)->rm≠kr->st.row kr= .cells tk [.map rm, .int .i64 met]->deep<=13->met<=400->
  Does (tabT tabD) kf [.ptr kr 0, .agg e, .int .i64 deep] st fun v st'=>Ch (fun r=>r=kr) st st'/\(∃t,st'.row kr= .cells t [.map rm, .int .i64 ((mayS (hasN l) ty deep met).2:Nat)])/\v= .int .i64 (mayS (hasN l) ty deep met).1
 |0,_,h=>absurd h (by omega)
 | m+1, .mk k nm ns ks,hm=>by
   intro P st kr rm l e deep met tk hw hM hx hP hrm hkr hdeep hmet
   refine Yn tabM qJ rfl hw fun K fin=> ?_
   obtain⟨n,hn0⟩:∃n,st.nx=up 0 n:=⟨_,up0 _⟩
   have hold:=fun r (h:st.row r≠ .none)=>QP hw hn0 h
   obtain⟨nv,kv,es,rfl,x1,x2,x3,x4⟩:=hx.inv'
   have l1:=x1.len;have l2:=x2.len
   rw[JL]at l1
   rw[x3]at l2
   have hS:=qB (hasN l) k nm ns ks deep met
   obtain⟨zv,hz,hz2⟩:=hM.look zty nm
   have hz':∃c,zv= .agg c/\c.length=4/\allSc c=true:=by
    cases hd:defN l nm with
    |none=>rw[hd]at hz2;exact⟨_,hz2,rfl,rfl⟩
    |some t=>rw[hd]at hz2;obtain⟨c,a,b⟩:=hz2;exact⟨c,a,b.four,b.ok⟩
   obtain⟨zc,rfl,zc4,zok⟩:=hz'
   have zc4':(4:Nat)<=4:=Nat.le_refl 4
   have hmetw:IntKind.i64.wrap ((met:Int)+1)=((met+1:Nat):Int):=by rw[Jp (by omega) (by omega)];rfl
   have okr:=fun k=>nes (Js hw hn0 (Je hkr) k)
   have hrm0:st.row rm≠ .none:=by obtain⟨_,h,_⟩:=hM;exact h.ne
   have orm:=fun k=>nes (Js hw hn0 hrm0 k)
   have hrk:=nes hrm
   have hlk:∀S:St,S.row rm=st.row rm->lookupV S (.one .s) (.agg [.int .i64 0,ofL [], .snil, .snil]) true (.map rm) (ofL nm)=some (.tup [.agg zc, .bool (hasN l nm)], .no):=fun S hS=>hz true S hS
   have hsp:splice [V.int .i64 0,ofL [], .snil, .snil] 0 zc=zc:=Yc (by rw[zc4];rfl)
   have hsp2:splice [.map rm, .int .i64 (met:Int)] 1 [.int .i64 ((met+1:Nat):Int)]=[.map rm, .int .i64 ((met+1:Nat):Int)]:=rfl
   have g0:Gr st (st.new fun t=> .cells t [.int .i64 k,ofL nm,nv,kv]):=Gr.new hw (Ja _)
   obtain⟨S1,hS1⟩:∃S1,S1=(((st.new fun t=>Row.cells t [V.int IntKind.i64 k,ofL nm,nv,kv]).wr kr tk fun u=>Row.cells u [V.map rm,V.int IntKind.i64 ((met+1:Nat):Int)]).new fun t=>Row.cells t [V.int IntKind.i64 0,ofL [],V.snil,V.snil]).wr (up 1 n) ((st.new fun t=>Row.cells t [V.int IntKind.i64 k,ofL nm,nv,kv]).wr kr tk fun u=>Row.cells u [V.map rm,V.int IntKind.i64 ((met+1:Nat):Int)]).t fun u=>Row.cells u zc:=⟨_,rfl⟩
   have c1:Ch (fun r=>r=kr) st S1:=by
    rw[hS1]
    exact((Ch.of (fun r=>r=kr) g0).wr (Je (g0.cells hkr)) (by rw[g0.cells hkr];rfl) (.inl rfl) (Ja _)).nw (p:=up 1 n) (by simp only[YC,Yb,hn0,Ya,Nat.zero_add]) (Ja _) (Ja _)
   have r1k:S1.row kr= .cells (st.t+1) [.map rm, .int .i64 ((met+1:Nat):Int)]:=by rw[hS1];simp only[XZ,simprocAttr,hn0,okr];rfl
   have r1b:S1.row (up 0 n)= .cells st.t [.int .i64 k,ofL nm,nv,kv]:=by rw[hS1];simp only[XZ,simprocAttr,hn0,okr]
   have hx1:TyC P S1 [.int .i64 k,ofL nm,nv,kv] (.mk k nm ns ks):=hx.imp fun r p e=>⟨p,c1.same r e (hP r p)⟩
   have done:∀(S:St) (e:Int),Ch (fun r=>r=kr) st S->(∃t,S.row kr= .cells t [.map rm, .int .i64 ((met+1:Nat):Int)])->mayS (hasN l) (.mk k nm ns ks) deep met=(e,met+1)->K (.int .i64 e) S:=fun S e h1 h2 h3=>by
    refine fin _ _ (fun r a b=>h1.same r a b) fun _=> ?_
    rw[h3];exact⟨h2,rfl⟩
   simp only[Ky,XY,simprocAttr]
   rw[Jc]
   simp only[XY,simprocAttr,hn0,x1.cells,x2.cells,x1.sc,x2.sc]
   rw[Jc]
   simp only[XY,simprocAttr,hn0,okr,hkr,hmetw]
   rw[Jc]
   simp only[XN,simprocAttr,hn0,okr,hkr,hlk,orm,hrk,zc4,zok,hsp,hsp2]
   simp only[<-hS1,YC,Yb,hn0,Ya,Nat.reduceAdd,Nat.zero_add]
   refine Q8 (fun fr S=>S1=S/\fr 0= .ptr kr 0/\fr 2= .int .i64 deep/\fr 4= .ptr (up 0 n) 0/\fr 8= .bool (hasN l nm)/\fr 9= .bool (decide (k=7\/k=8))) ?_ ?_
   ·by_cases c7:k=7
    ·simp only[XZ,simprocAttr,r1b,c7]
     simp
    ·by_cases c8:k=8
     ·simp only[XZ,simprocAttr,r1b,c7,c8]
      simp
     ·simp only[XZ,simprocAttr,r1b,c7,c8]
      simp
   rintro fr _ ⟨rfl,f0,f2,f4,f8,f9⟩
   by_cases d1:400<met+1
   ·have d1':(400:Int)<((met+1:Nat):Int):=by omega
    simp only[XZ,simprocAttr,f0,r1k,d1']
    exact done _ _ c1 ⟨_,r1k⟩ (by rw[hS,if_pos d1])
   have d1':¬(400:Int)<((met+1:Nat):Int):=by omega
   rw[if_neg d1]at hS
   by_cases d2:12<deep
   ·have d2':(12:Int)<(deep:Int):=by omega
    simp only[XZ,simprocAttr,f0,f2,r1k,d1',d2']
    exact done _ _ c1 ⟨_,r1k⟩ (by rw[hS,if_pos d2])
   have d2':¬(12:Int)<(deep:Int):=by omega
   rw[if_neg d2]at hS
   by_cases d3:k<1\/9<k
   ·rw[if_pos d3]at hS
    by_cases d3a:k<1
    ·simp only[XZ,simprocAttr,f0,f2,f4,r1k,r1b,d1',d2',d3a]
     exact done _ _ c1 ⟨_,r1k⟩ hS
    ·have d3b:9<k:=by omega
     simp only[XZ,simprocAttr,f0,f2,f4,r1k,r1b,d1',d2',d3a,d3b]
     exact done _ _ c1 ⟨_,r1k⟩ hS
   have d3a:¬k<1:=by omega
   have d3b:¬9<k:=by omega
   rw[if_neg d3]at hS
   obtain⟨J,hJ⟩:∃J:Fr->St->Prop,∀fr S,J fr S<->((¬(ks.length≠kidsS (.mk k nm ns ks)\/(nm≠[]/\k≠9)\/(0<ns.length/\¬(k=7\/k=8)))/\¬(k=9/\hasN l nm=false))/\Gr S1 S/\fr 0= .ptr kr 0/\fr 2= .int .i64 deep/\fr 4= .ptr (up 0 n) 0):=⟨_,fun _ _=>Iff.rfl⟩
   refine JJ J ?_ ?_
   ·simp only[XY,simprocAttr]
    rw[Jc]
    simp only[XY,simprocAttr,f0,f2,f4,r1k,r1b,d1',d2',d3a,d3b]
    rw[Jc]
    simp only[XY,simprocAttr,f0,f2,f4,r1k,r1b,d1',d2',d3a,d3b]
    rw[Jc]
    simp only[XY,simprocAttr,f0,f2,f4,r1k,r1b,d1',d2',d3a,d3b]
    obtain⟨B,hB⟩:∃B:Prop,B=(ks.length≠kidsS (.mk k nm ns ks)\/(nm≠[]/\k≠9)\/(0<ns.length/\¬(k=7\/k=8))):=⟨_,rfl⟩
    obtain⟨I,hI⟩:∃I:Fr->St->Prop,∀fr S,I fr S<->(Gr S1 S/\fr 0= .ptr kr 0/\fr 2= .int .i64 deep/\fr 4= .ptr (up 0 n) 0/\fr 8= .bool (hasN l nm)/\∃b:Bool,fr 57= .bool b/\(b=true<->B)):=⟨_,fun _ _=>Iff.rfl⟩
    refine Q8 I ?_ ?_
    ·simp only[XZ,simprocAttr,f0,f2,f4,r1k,r1b,l2]
     refine Jn (kidsC (JB c1.wf _) (hx1.low _)) ?_
     rintro _ S2 g2 rfl
     have b2:=g2.cells r1b
     by_cases e1:(ks.length:Int)=(kidsS (.mk k nm ns ks):Nat)
     ·by_cases e2:nm=[]
      ·by_cases e4:(0:Int)<ns.length
       ·simp only[XZ,simprocAttr,f0,f2,f4,f8,f9,b2,l1,e1,e2,e4]
        refine(hI _ _).2 ⟨g2,by simp only[XZ,simprocAttr,f0],by simp only[XZ,simprocAttr,f2],by simp only[XZ,simprocAttr,f4],by simp only[XZ,simprocAttr,f8], ?b1,by simp only[XZ,simprocAttr]<;>rfl, ?_⟩
        rw[hB];subst e2;simp;omega
       ·simp only[XZ,simprocAttr,f0,f2,f4,f8,f9,b2,l1,e1,e2,e4]
        refine(hI _ _).2 ⟨g2,by simp only[XZ,simprocAttr,f0],by simp only[XZ,simprocAttr,f2],by simp only[XZ,simprocAttr,f4],by simp only[XZ,simprocAttr,f8], ?b2,by simp only[XZ,simprocAttr]<;>rfl, ?_⟩
        rw[hB];subst e2;simp;omega
      ·by_cases e3:k=9
       ·by_cases e4:(0:Int)<ns.length
        ·simp only[XZ,simprocAttr,f0,f2,f4,f8,f9,b2,l1,e1,e2,e3,e4]
         refine(hI _ _).2 ⟨g2,by simp only[XZ,simprocAttr,f0],by simp only[XZ,simprocAttr,f2],by simp only[XZ,simprocAttr,f4],by simp only[XZ,simprocAttr,f8], ?b3,by simp only[XZ,simprocAttr]<;>rfl, ?_⟩
         rw[hB];simp;omega
        ·simp only[XZ,simprocAttr,f0,f2,f4,f8,f9,b2,l1,e1,e2,e3,e4]
         refine(hI _ _).2 ⟨g2,by simp only[XZ,simprocAttr,f0],by simp only[XZ,simprocAttr,f2],by simp only[XZ,simprocAttr,f4],by simp only[XZ,simprocAttr,f8], ?b4,by simp only[XZ,simprocAttr]<;>rfl, ?_⟩
         rw[hB];simp;omega
       ·simp only[XZ,simprocAttr,f0,f2,f4,f8,f9,b2,l1,e1,e2,e3]
        refine(hI _ _).2 ⟨g2,by simp only[XZ,simprocAttr,f0],by simp only[XZ,simprocAttr,f2],by simp only[XZ,simprocAttr,f4],by simp only[XZ,simprocAttr,f8], ?b5,by simp only[XZ,simprocAttr]<;>rfl, ?_⟩
        rw[hB];simp[e2,e3]
     ·simp only[XZ,simprocAttr,f0,f2,f4,f8,f9,b2,l1,e1]
      refine(hI _ _).2 ⟨g2,by simp only[XZ,simprocAttr,f0],by simp only[XZ,simprocAttr,f2],by simp only[XZ,simprocAttr,f4],by simp only[XZ,simprocAttr,f8], ?b6,by simp only[XZ,simprocAttr]<;>rfl, ?_⟩
      rw[hB];simp;omega
    intro fr S2 hIf
    obtain⟨g2,f0,f2,f4,f8,b,f57,hb⟩:=(hI _ _).1 hIf
    rw[hB]at hb
    have b2:=g2.cells r1b
    have cS:Ch (fun r=>r=kr) st S2:=c1.gr g2
    cases b with
    | true=>
      simp only[XZ,simprocAttr,f57]
      exact done _ _ cS ⟨_,g2.cells r1k⟩ (by rw[hS,if_pos (hb.1 rfl)])
    | false=>
      have hb':¬(ks.length≠kidsS (.mk k nm ns ks)\/(nm≠[]/\k≠9)\/(0<ns.length/\¬(k=7\/k=8))):=fun h=>by cases hb.2 h
      rw[if_neg hb']at hS
      by_cases e9:k=9
      ·have e9':(k=9)=True:=eq_true e9
       cases hh:hasN l nm with
       | false=>
         rw[hh]at f8
         simp only[XZ,simprocAttr,f57,f4,f8,b2,e9']
         exact done _ _ cS ⟨_,g2.cells r1k⟩ (by rw[hS,if_pos ⟨e9,hh⟩])
       | true=>
         rw[hh]at f8
         simp only[XZ,simprocAttr,f57,f0,f2,f4,f8,b2,e9']
         exact(hJ _ _).2 ⟨⟨hb',fun h=>by rw[hh]at h;cases h.2⟩,g2,by simp only[XZ,simprocAttr,f0],by simp only[XZ,simprocAttr,f2],by simp only[XZ,simprocAttr,f4]⟩
      ·have e9':(k=9)=False:=eq_false e9
       simp only[XZ,simprocAttr,f57,f0,f2,f4,f8,b2,e9']
       exact(hJ _ _).2 ⟨⟨hb',fun h=>e9 h.1⟩,g2,by simp only[XZ,simprocAttr,f0],by simp only[XZ,simprocAttr,f2],by simp only[XZ,simprocAttr,f4]⟩
   ·intro fr S2 hJf
    obtain⟨⟨hb1,hb2⟩,g2,f0,f2,f4⟩:=(hJ _ _).1 hJf
    rw[if_neg hb1,if_neg hb2]at hS
    have b2:=g2.cells r1b
    have cS:Ch (fun r=>r=kr) st S2:=c1.gr g2
    simp only[XZ,simprocAttr,f4,b2]
    refine Jb (fieldsC g2.wf (hx1.gr g2)) ?_
    rintro _ S3 ⟨g3,rfl⟩
    by_cases ef:fieldsS (.mk k nm ns ks)=0
    ·have ef':(fieldsS (.mk k nm ns ks)=0)=True:=eq_true ef
     simp only[XZ,simprocAttr,ef',f0,f2,f4,g3.cells b2,l2]
     rw[if_neg (by simpa using ef)]at hS
     have G3:=cS.gr g3
     have r3k:=g3.cells (g2.cells r1k)
     obtain⟨L,hL⟩:∃L:Nat->Fr->St->Prop,∀j fr S,L j fr S<->∃i mi ti,j+i=ks.length/\fr 0= .ptr kr 0/\fr 2= .int .i64 deep/\fr 98=kv/\fr 99= .int .i64 ks.length/\fr 100= .int .i64 (i:Nat)/\Ch (fun r=>r=kr) st S/\S.row kr= .cells ti [.map rm, .int .i64 (mi:Nat)]/\mi<=400/\maysS (hasN l) ks (deep+1) (met+1)=maysS (hasN l) (ks.drop i) (deep+1) mi:=⟨_,fun _ _ _=>Iff.rfl⟩
     have hns:ns.length<=8:=by
      have h:(if 8<ns.length then(3:Int)else if namesS none ns≠0 then namesS none ns else if k=8/\ns=[]then 12 else 0)=0:=ef
      by_cases e:8<ns.length
      ·rw[if_pos e]at h;cases h
      ·omega
     have hks:ks.length<1000000:=by
      have e1:ks.length=kidsS (.mk k nm ns ks):=Classical.byContradiction fun e=>hb1 (.inl e)
      have e2:kidsS (.mk k nm ns ks)<=8:=by
       show(if k=4\/k=5\/k=6 then 1 else if k=7\/k=8 then ns.length else 0)<=8
       split
       ·omega
       ·split<;>omega
      omega
     refine Jq L ks.length hks ((hL _ _ _).2 ⟨0,met+1,_,by omega,by simp only[XZ,simprocAttr,f0],by simp only[XZ,simprocAttr,f2],by simp only[XZ,simprocAttr],by simp only[XZ,simprocAttr],by simp only[XZ,simprocAttr]<;>rfl,G3,r3k,by omega,rfl⟩) ?_
     intro j fr S hLj
     obtain⟨i,mi,ti,hj,f0,f2,f98,f99,f100,hC,rk,hmi,hrec⟩:=(hL _ _ _).1 hLj
     have wS:=hC.wf
     obtain⟨nS,hnS⟩:∃n,S.nx=up 0 n:=⟨_,up0 _⟩
     by_cases hi:i<ks.length
     ·have hi':(i:Int)<ks.length:=by omega
      have hie:i<es.length:=by omega
      have hSr:∀r,P r->st.row r≠ .none->S.row r=st.row r:=fun r p e=>hC.same r e (hP r p)
      obtain⟨q,qo,a1,a2,a3,a4,a5⟩:=(x2.imp fun r p e=>⟨p,hSr r p e⟩:SlAt P S kv 4 es).elem hie
      have oq:=fun k=>nes (Js wS hnS a3 k)
      have hx4:=x4 i hie hi
      obtain⟨E,hE⟩:∃E,E=es[i]:=⟨_,rfl⟩
      obtain⟨T,hT⟩:∃T,T=ks[i]:=⟨_,rfl⟩
      rw[<-hE]at a4 hx4
      rw[<-hT]at hx4
      have hsz:tsz T<m:=by rw[hT];have:=YN (k:=k) (n:=nm) (ns:=ns) hi;omega
      have e4:=hx4.four
      have eok:=hx4.ok
      have espl:splice [.int .i64 0,ofL [], .snil, .snil] 0 E=E:=Yc (by rw[e4];rfl)
      have etk:E.take 4=E:=by rw[<-e4,List.take_length]
      have edl:4<=E.length:=by omega
      have hdw:IntKind.i64.wrap ((deep:Int)+1)=((deep+1:Nat):Int):=by rw[Jp (by omega) (by omega)];rfl
      have hadd1:IntKind.i64.wrap ((i:Int)+1)=((i+1:Nat):Int):=by rw[Jp (by omega) (by omega)];rfl
      simp only[XM,simprocAttr,f0,f2,f98,f99,f100,hi',a1,a4,hnS,oq,e4,eok,espl,etk,hdw]
      have gS:Gr S ((S.new fun t=> .cells t [.int .i64 0,ofL [], .snil, .snil]).wr (up 0 nS) S.t fun u=> .cells u E):=(Gr.refl wS).nw hnS (Ja _) (Ja _)
      refine Jb (mayC m T hsz P _ kr rm l E (deep+1) mi ti gS.wf (hM.imp (by rw[gS.same rm (by rw[hC.same rm hrm0 hrm];exact hrm0),hC.same rm hrm0 hrm]) fun r p e=>⟨p,by rw[gS.same r (by rw[hSr r p e];exact e),hSr r p e]⟩) ((hx4.imp fun r p e=>⟨p,hSr r p e⟩).gr gS) hP hrm (gS.cells rk) (by omega) hmi) ?_
      rintro _ S4 ⟨c4,⟨t4,r4⟩,rfl⟩
      rw[List.drop_eq_getElem_cons hi,JE,<-hT]at hrec
      have hmet2:=KV (hasN l) T (deep+1) mi hmi
      have cS4:Ch (fun r=>r=kr) st S4:=(hC.gr gS).trans c4 fun r w=> .inl w
      by_cases he:(mayS (hasN l) T (deep+1) mi).1=0
      ·rw[if_neg (by simpa using he)]at hrec
       have he':((mayS (hasN l) T (deep+1) mi).1=0)=True:=eq_true he
       simp only[XZ,simprocAttr,he',f0,f2,f98,f99,f100,hadd1]
       exact⟨ks.length-(i+1),by omega,(hL _ _ _).2 ⟨i+1,_,t4,by omega,by simp only[XZ,simprocAttr,f0],by simp only[XZ,simprocAttr,f2],by simp only[XZ,simprocAttr,f98],by simp only[XZ,simprocAttr,f99],by simp only[XZ,simprocAttr],cS4,r4,hmet2.2 he,hrec⟩⟩
      ·rw[if_pos (by simpa using he)]at hrec
       have he':((mayS (hasN l) T (deep+1) mi).1=0)=False:=eq_false he
       simp only[XZ,simprocAttr,he']
       refine fin _ _ (fun r a b=>cS4.same r a b) fun _=> ?_
       rw[hS,hrec];exact⟨⟨t4,r4⟩,rfl⟩
     ·have hi':¬(i:Int)<ks.length:=by omega
      have hie:i=ks.length:=by omega
      rw[hie,List.drop_length,J6]at hrec
      simp only[XZ,simprocAttr,f0,f2,f98,f99,f100,hi']
      refine fin _ _ (fun r a b=>hC.same r a b) fun _=> ?_
      rw[hS,hrec];exact⟨⟨ti,rk⟩,rfl⟩
    ·have ef':(fieldsS (.mk k nm ns ks)=0)=False:=eq_false ef
     simp only[XZ,simprocAttr,ef']
     exact done _ _ (cS.gr g3) ⟨_,g3.cells (g2.cells r1k)⟩ (by rw[hS,if_pos ef])
structure LookAt (P:Pt->Prop) (st:St) (kr rm:Pt) (l:List (Str×Ty)) (met:Nat):Prop where
 map:NmMap P st rm l
 cell:∃t,st.row kr= .cells t [.map rm, .int .i64 met]
 sep:∀r,P r->r≠kr
 ne:rm≠kr
theorem LookAt.mapne {P:Pt->Prop}{st:St}{kr rm:Pt}{l:List (Str×Ty)}{met:Nat}(h:LookAt P st kr rm l met):st.row rm≠ .none:=by
 obtain⟨_,h,_⟩:=h.map
 exact h.ne
theorem LookAt.krne {P:Pt->Prop}{st:St}{kr rm:Pt}{l:List (Str×Ty)}{met:Nat}(h:LookAt P st kr rm l met):st.row kr≠ .none:=by
 obtain⟨_,h⟩:=h.cell
 exact Je h
theorem LookAt.ch {P:Pt->Prop}{st st':St}{kr rm:Pt}{l:List (Str×Ty)}{met met':Nat}(h:LookAt P st kr rm l met)(c:Ch (fun r=>r=kr) st st')(k:∃t,st'.row kr= .cells t [.map rm, .int .i64 met']):LookAt P st' kr rm l met':=
 ⟨h.map.imp (c.same rm h.mapne h.ne) fun r p e=>⟨p,c.same r e (h.sep r p)⟩,k,h.sep,h.ne⟩
theorem LookAt.gr {P:Pt->Prop}{st st':St}{kr rm:Pt}{l:List (Str×Ty)}{met:Nat}(h:LookAt P st kr rm l met)(g:Gr st st'):LookAt P st' kr rm l met:=
 h.ch (Ch.of _ g) (by obtain⟨t,e⟩:=h.cell;exact⟨t,g.cells e⟩)
theorem mayD {P:Pt->Prop}{st:St}{kr rm:Pt}{l:List (Str×Ty)}{met:Nat}{e:List V}{ty:Ty}{deep:Nat}(hw:WF st)(hL:LookAt P st kr rm l met)(hx:TyC P st e ty)(hd:deep<=13)(hmet:met<=400):
  Does (tabT tabD) kf [.ptr kr 0, .agg e, .int .i64 deep] st fun v st'=>Ch (fun r=>r=kr) st st'/\LookAt P st' kr rm l (mayS (hasN l) ty deep met).2/\v= .int .i64 (mayS (hasN l) ty deep met).1:=by
 obtain⟨t,ht⟩:=hL.cell
 exact(mayC _ ty (Nat.lt_succ_self _) P st kr rm l e deep met t hw hL.map hx hL.sep hL.ne ht hd hmet).mono fun v st' ⟨a,b,c⟩=>⟨a,hL.ch a b,c⟩
set_option maxHeartbeats 4000000 in
theorem allC {P:Pt->Prop}{st:St}{kr rm:Pt}{l:List (Str×Ty)}{met:Nat}{v:V}{ts:List Ty}(hw:WF st)(hL:LookAt P st kr rm l met)(hx:LstAt (TyC P st) P st v 4 ts)(hlen:ts.length<1000000)(hmet:met<=400):
  Does (tabT tabD) JaH [.ptr kr 0,v] st fun v st'=>Ch (fun r=>r=kr) st st'/\LookAt P st' kr rm l (maysS (hasN l) ts 1 met).2/\v= .int .i64 (maysS (hasN l) ts 1 met).1:=by
 refine Yn tabM qO rfl hw fun K fin=> ?_
 have l1:=hx.len
 simp only[KA,XZ,simprocAttr,l1]
 obtain⟨L,hLp⟩:∃L:Nat->Fr->St->Prop,∀j fr S,L j fr S<->∃i mi,j+i=ts.length/\fr 0= .ptr kr 0/\fr 8=v/\fr 9= .int .i64 ts.length/\fr 10= .int .i64 (i:Nat)/\Ch (fun r=>r=kr) st S/\LookAt P S kr rm l mi/\mi<=400/\maysS (hasN l) ts 1 met=maysS (hasN l) (ts.drop i) 1 mi:=⟨_,fun _ _ _=>Iff.rfl⟩
 refine Jq L ts.length hlen ((hLp _ _ _).2 ⟨0,met,by omega,by simp only[XZ,simprocAttr],by simp only[XZ,simprocAttr],by simp only[XZ,simprocAttr],by simp only[XZ,simprocAttr]<;>rfl,Ch.refl _ hw,hL,hmet,rfl⟩) ?_
 intro j fr S hLj
 obtain⟨i,mi,hj,f0,f8,f9,f10,hC,hLi,hmi,hrec⟩:=(hLp _ _ _).1 hLj
 have wS:=hC.wf
 obtain⟨nS,hnS⟩:∃n,S.nx=up 0 n:=⟨_,up0 _⟩
 by_cases hi:i<ts.length
 ·have hi':(i:Int)<ts.length:=by omega
  have hk:∀r,P r->st.row r≠ .none->P r/\S.row r=st.row r:=fun r p e=>⟨p,hC.same r e (hL.sep r p)⟩
  obtain⟨q,qo,E,a1,a2,a3,a4,hx4,e4,a5⟩:=(hx.imp (fun e x h=>h.imp hk) hk:LstAt (TyC P S) P S v 4 ts).elem hi
  have oq:=fun k=>nes (Js wS hnS a3 k)
  have eok:=hx4.ok
  have espl:splice [.int .i64 0,ofL [], .snil, .snil] 0 E=E:=Yc (by rw[e4];rfl)
  have etk:E.take 4=E:=by rw[<-e4,List.take_length]
  have hadd1:IntKind.i64.wrap ((i:Int)+1)=((i+1:Nat):Int):=by rw[Jp (by omega) (by omega)];rfl
  simp only[XM,simprocAttr,f0,f8,f9,f10,hi',a1,a4,hnS,oq,e4,eok,espl,etk]
  have gS:Gr S ((S.new fun t=> .cells t [.int .i64 0,ofL [], .snil, .snil]).wr (up 0 nS) S.t fun u=> .cells u E):=(Gr.refl wS).nw hnS (Ja _) (Ja _)
  refine Jb (mayD (deep:=1) gS.wf (hLi.gr gS) (hx4.gr gS) (by omega) hmi) ?_
  rintro _ S4 ⟨c4,L4,rfl⟩
  rw[List.drop_eq_getElem_cons hi,JE]at hrec
  have hmet2:=KV (hasN l) ts[i] 1 mi hmi
  have cS4:Ch (fun r=>r=kr) st S4:=(hC.gr gS).trans c4 fun r w=> .inl w
  by_cases he:(mayS (hasN l) ts[i] 1 mi).1=0
  ·rw[if_neg (by simpa using he)]at hrec
   have he':((mayS (hasN l) ts[i] 1 mi).1=0)=True:=eq_true he
   simp only[XZ,simprocAttr,he',f0,f8,f9,f10,hadd1]
   exact⟨ts.length-(i+1),by omega,(hLp _ _ _).2 ⟨i+1,_,by omega,by simp only[XZ,simprocAttr,f0],by simp only[XZ,simprocAttr,f8],by simp only[XZ,simprocAttr,f9],by simp only[XZ,simprocAttr],cS4,L4,hmet2.2 he,hrec⟩⟩
  ·rw[if_pos (by simpa using he)]at hrec
   have he':((mayS (hasN l) ts[i] 1 mi).1=0)=False:=eq_false he
   simp only[XZ,simprocAttr,he']
   refine fin _ _ (fun r a b=>cS4.same r a b) fun _=> ?_
   rw[hrec];exact⟨L4,rfl⟩
 ·have hi':¬(i:Int)<ts.length:=by omega
  have hie:i=ts.length:=by omega
  rw[hie,List.drop_length,J6]at hrec
  simp only[XZ,simprocAttr,f0,f8,f9,f10,hi']
  refine fin _ _ (fun r a b=>hC.same r a b) fun _=> ?_
  rw[hrec];exact⟨hLi,rfl⟩
theorem JiM {P:Pt->Prop}{st:St}{v:V}{ts:List Ty}{g:Nat}{fa fb:List V}(p:Ty->Bool)(hw:WF st)(h:LstAt (TyC P st) P st v 4 ts)(hl:ts.length<1000000)
  (hc:∀i (hi:i<ts.length) (S:St) (e:List V),Gr st S->TyC P S e ts[i]->Does (tabT tabD) g (fa++[.agg e]++fb) S fun v S'=>Gr S S'/\v= .bool (p ts[i])):
  Does (tabT tabD) kZ [v, .fn g fa fb] st fun v' st'=>Gr st st'/\v'= .int .i64 (match firstI p ts 0 with|some j=>(j:Int)|none=> -1):=by
 refine Jw tabM kG rfl hw fun K fin=> ?_
 have l1:=h.len
 simp only[JU,XZ,simprocAttr,l1]
 obtain⟨L,hL⟩:∃L:Nat->Fr->St->Prop,∀j fr S,L j fr S<->∃(i:Nat),Gr st S/\j+i=ts.length/\fr 0=v/\fr 1= .fn g fa fb/\fr 7= .int .i64 ts.length/\fr 8= .int .i64 i/\firstI p ts 0=firstI p (ts.drop i) i:=⟨_,fun _ _ _=>Iff.rfl⟩
 refine Jq L ts.length hl ((hL _ _ _).2 ⟨0,Gr.refl hw,by omega,by simp only[XZ,simprocAttr],by simp only[XZ,simprocAttr],by simp only[XZ,simprocAttr],by simp only[XZ,simprocAttr]<;>rfl,rfl⟩) ?_
 intro j fr S hLj
 obtain⟨i,hg,hj,f0,f1,f7,f8,hrec⟩:=(hL _ _ _).1 hLj
 by_cases hi:i<ts.length
 ·have hi':(i:Int)<ts.length:=by omega
  obtain⟨q,qo,E,a1,a2,a3,a4,hx4,e4,a5⟩:=(h.imp (fun e x h=>h.gr hg) (fun r p e=>⟨p,hg.same r e⟩):LstAt (TyC P S) P S v 4 ts).elem hi
  have hadd1:IntKind.i64.wrap ((i:Int)+1)=((i+1:Nat):Int):=by rw[Jp (by omega) (by omega)];rfl
  simp only[XZ,simprocAttr,f0,f1,f7,f8,hi',a1,a4]
  refine Jb (by simpa using hc i hi S E hg hx4) ?_
  rintro _ S2 ⟨g2,rfl⟩
  rw[List.drop_eq_getElem_cons hi,firstI]at hrec
  cases hp:p ts[i]with
  | true=>
    rw[if_pos hp]at hrec
    simp only[XZ,simprocAttr,f0,f1,f7,f8]
    refine fin _ _ (fun r e=>(hg.trans g2).same r e) fun _=> ?_
    rw[hrec]
  | false=>
    rw[if_neg (by rw[hp];simp)]at hrec
    simp only[XZ,simprocAttr,f0,f1,f7,f8,hadd1]
    exact⟨ts.length-(i+1),by omega,(hL _ _ _).2 ⟨i+1,hg.trans g2,by omega,by simp only[XZ,simprocAttr,f0],by simp only[XZ,simprocAttr,f1],by simp only[XZ,simprocAttr,f7],by simp only[XZ,simprocAttr],hrec⟩⟩
 ·have hi':¬(i:Int)<ts.length:=by omega
  have hie:i=ts.length:=by omega
  rw[hie,List.drop_length,firstI]at hrec
  simp only[XZ,simprocAttr,f0,f1,f7,f8,hi']
  refine fin _ _ (fun r e=>hg.same r e) fun _=> ?_
  rw[hrec]
theorem Q1 {P:Pt->Prop}{st:St}{v:V}{ts:List Ty}{g:Nat}{fa fb:List V}(p:Ty->Bool)(hw:WF st)(h:LstAt (TyC P st) P st v 4 ts)(hl:ts.length<1000000)
  (hc:∀i (hi:i<ts.length) (S:St) (e:List V),Gr st S->TyC P S e ts[i]->Does (tabT tabD) g (fa++[.agg e]++fb) S fun v S'=>Gr S S'/\v= .bool (p ts[i])):
  Does (tabT tabD) kg [v, .fn g fa fb] st fun v' st'=>Gr st st'/\v'= .bool (ts.any p):=by
 refine Jw tabM YQ rfl hw fun K fin=> ?_
 simp only[JM,XZ,simprocAttr]
 refine Jb (JiM p hw h hl hc) ?_
 rintro _ S2 ⟨g2,rfl⟩
 have ha:=Jd0 p ts 0
 cases hf:firstI p ts 0 with
 | none=>
   rw[hf]at ha
   simp only[XZ,simprocAttr]
   refine fin _ _ (fun r e=>g2.same r e) fun _=> ?_
   rw[<-ha];rfl
 | some j=>
   rw[hf]at ha
   have h0:(0:Int)<=(j:Int):=by omega
   simp only[XZ,simprocAttr,h0]
   refine fin _ _ (fun r e=>g2.same r e) fun _=> ?_
   rw[<-ha];rfl
set_option maxHeartbeats 4000000 in
theorem optsC :∀(m:Nat) (ty:Ty),tsz ty<m->∀(P:Pt->Prop) (st:St) (kr rm:Pt) (l:List (Str×Ty)) (met:Nat) (e:List V),WF st->LookAt P st kr rm l met->TyC P st e ty->l.length<1000000->cntT ty<1000000->
  Does (tabT tabD) qK [.ptr kr 0, .agg e] st fun v st'=>Gr st st'/\v= .bool (optsS l ty)
 |0,_,h=>absurd h (by omega)
 | m+1, .mk k nm ns ks,hm=>by
   intro P st kr rm l met e hw hL hx hl hsz
   refine Jw tabM qg rfl hw fun K fin=> ?_
   obtain⟨n,hn0⟩:∃n,st.nx=up 0 n:=⟨_,up0 _⟩
   obtain⟨nv,kv,es,rfl,x1,x2,x3,x4⟩:=hx.inv'
   have l2:=x2.len
   rw[x3]at l2
   have hS:=JhC l k nm ns ks
   have g0:Gr st (st.new fun t=> .cells t [.int .i64 k,ofL nm,nv,kv]):=Gr.new hw (Ja _)
   have ok0:=fun k=>nes (Js hw hn0 hL.krne k)
   have orm:=fun k=>nes (Js hw hn0 hL.mapne k)
   have hlen:ks.length<1000000:=by have h1:=Ja6 ks;rw[Yw]at hsz;omega
   have cl1:(ks.length=1)->((ks.length:Int)=1)=True:=fun h=>eq_true (by omega)
   have cl2:¬(ks.length=1)->((ks.length:Int)=1)=False:=fun h=>eq_false (by omega)
   have hx2:LstAt (TyC P st) P st kv 4 ks:=⟨es,x2,x3,x4⟩
   obtain⟨B,hB⟩:∃B:Bool,B=(if k=6/\ks.length=1 then decide ((openT l l.length (ks.headD zeroTy)).kind=6)else false):=⟨_,rfl⟩
   rw[<-hB]at hS
   obtain⟨I,hI⟩:∃I:Fr->St->Prop,∀fr S,I fr S<->(Gr st S/\fr 0= .ptr kr 0/\fr 3= .ptr (up 0 n) 0/\S.row (up 0 n)= .cells st.t [.int .i64 k,ofL nm,nv,kv]/\B=false):=⟨_,fun _ _=>Iff.rfl⟩
   simp only[Kt,XY,simprocAttr]
   rw[Jc]
   simp only[XY,simprocAttr,hn0,x1.cells,x2.cells,x1.sc,x2.sc]
   have r0:(st.new fun t=> .cells t [.int .i64 k,ofL nm,nv,kv]).row (up 0 n)= .cells st.t [.int .i64 k,ofL nm,nv,kv]:=by simp only[XZ,simprocAttr,hn0]
   refine JJ I ?_ ?_
   ·by_cases k6:k=6
    ·have k6':(k=6)=True:=eq_true k6
     by_cases c1:ks.length=1
     ·rw[if_pos ⟨k6,c1⟩]at hB
      have hi0:0<ks.length:=by omega
      obtain⟨x,hx0⟩:∃x,ks=[x]:=List.length_eq_one_iff.1 c1
      obtain⟨q,qo,E,a1,a2,a3,a4,hxE,e4,a5⟩:=hx2.elem hi0
      have a1:iaddrSV 4 kv (.int .i64 0)=some (.ptr q qo, .no):=a1
      have hxE:TyC P st E x:=by subst hx0;exact hxE
      have hhead:ks.headD zeroTy=x:=by rw[hx0];rfl
      rw[hhead]at hB
      have oq:=fun k=>nes (Js hw hn0 a3 k)
      have eok:=hxE.ok
      have espl:splice [.int .i64 0,ofL [], .snil, .snil] 0 E=E:=Yc (by rw[e4];rfl)
      obtain⟨tk,ck⟩:=hL.cell
      obtain⟨em,hmm,hml,_⟩:=hL.map
      obtain⟨tm,hmm⟩:=hmm
      have hml':((em.map fun p=>(p.1,V.agg p.2)).map fun p=>(ofL p.1,p.2)).length=l.length:=by simp[hml]
      have hrng:∀S:St,S.row rm=st.row rm->rngMV S (.map rm)=some (.ptr S.nx 0, .new fun t=> .mit t (some rm) l.length 0):=fun S hS=>by rw[JmW (hS.trans hmm),hml']
      simp only[XM,simprocAttr,hn0,l2,k6',cl1 c1,a1,oq,a4,e4,eok,espl,ok0,ck,JmV,Jpl,hrng,orm]
      obtain⟨L,hLp⟩:∃L:Nat->Fr->St->Prop,∀j fr S,L j fr S<->∃(i t1 t2:Nat) (c:List V),j+i=l.length/\Gr st S/\fr 0= .ptr kr 0/\fr 3= .ptr (up 0 n) 0/\fr 5= .ptr (up 1 n) 0/\fr 23= .ptr (up 2 n) 0/\S.row (up 0 n)= .cells st.t [.int .i64 k,ofL nm,nv,kv]/\S.row (up 1 n)= .cells t1 c/\TyC (fun r=>P r/\st.row r≠ .none) S c (openT l i x)/\S.row (up 2 n)= .mit t2 (some rm) l.length i:=⟨_,fun _ _ _=>Iff.rfl⟩
      have gS:Gr st ((((st.new fun t=> .cells t [.int .i64 k,ofL nm,nv,kv]).new fun t=> .cells t [.int .i64 0,ofL [], .snil, .snil]).wr (up 1 n) (st.new fun t=> .cells t [.int .i64 k,ofL nm,nv,kv]).t fun u=> .cells u E).new fun t=> .mit t (some rm) l.length 0):=(g0.nw (by simp only[Yb,hn0,Ya,Nat.zero_add]) (Ja _) (Ja _)).nn fun u=>⟨rfl,fun e=>by cases e⟩
      refine Jq L l.length hl ((hLp _ _ _).2 ⟨0,_,_,E,by omega,gS,by simp only[XZ,simprocAttr],by simp only[XZ,simprocAttr],by simp only[XZ,simprocAttr],by simp only[XZ,simprocAttr],by simp only[XZ,simprocAttr,hn0],by simp only[XZ,simprocAttr,hn0];rfl,(hxE.imp fun r p e=>⟨⟨p,e⟩,rfl⟩:TyC (fun r=>P r/\st.row r≠ .none) st E x).gr gS,by simp only[XZ,simprocAttr,hn0];rfl⟩) ?_
      intro j fr S hLj
      obtain⟨i,t1,t2,c,hj,hg,f0,f3,f5,f23,r0,r1,hc,r2⟩:=(hLp _ _ _).1 hLj
      have hmS:S.row rm= .mob tm ((em.map fun p=>(p.1,V.agg p.2)).map fun p=>(ofL p.1,p.2)):=(hg.same rm hL.mapne).trans hmm
      have ckS:=hg.cells ck
      have c4:=hc.four
      obtain⟨T,hT⟩:∃T,T=openT l i x:=⟨_,rfl⟩
      rw[<-hT]at hc
      have hlast:=Y4 l i x
      rw[<-hT]at hlast
      obtain⟨k',n',ns',ks'⟩:=T
      have hlast:openT l (i+1) x=if k'=9 then(defN l n').getD zeroTy else .mk k' n' ns' ks':=hlast
      obtain⟨nv',kv',es',rfl,y1,y2,y3,y4⟩:=hc.inv'
      have hq0:=nx0 hw hn0
      have rne2:=Jhu 2 1 n
      by_cases hi:i<l.length
      ·have hnx:=JiA (st:=S) (q:=up 2 n) (r:=rm) (n:=i) (t:=t2) (es:=((em.map fun p=>(p.1,V.agg p.2)).map fun p=>(ofL p.1,p.2))) (by rw[hml'];exact r2) hmS (by rw[hml'];exact hi)
       rw[hml']at hnx
       have g2:Gr st (S.wr (up 2 n) t2 fun u=> .mit u (some rm) l.length (i+1)):=hg.wr (hq0 2) (by rw[r2];exact fun e=>by cases e) (by rw[r2];rfl) fun u=>⟨rfl,fun e=>by cases e⟩
       have o2m:=nes (Js hw hn0 hL.mapne 2)
       have o2k:=nes (Js hw hn0 hL.krne 2)
       by_cases k9:k'=9
       ·have k9':(k'=9)=True:=eq_true k9
        obtain⟨zv,hz,hz2⟩:=hL.map.look (.agg [.int .i64 0,ofL [], .snil, .snil]) n'
        have hz':∃c',zv= .agg c'/\TyC P st c' ((defN l n').getD zeroTy):=by
         cases hd:defN l n' with
         |none=>rw[hd]at hz2;exact⟨_,hz2,JlW P st⟩
         |some t=>rw[hd]at hz2;obtain⟨c',a,b⟩:=hz2;exact⟨c',a,b⟩
        obtain⟨c',rfl,hc'⟩:=hz'
        have hlk:∀S':St,S'.row rm=S.row rm->lookupV S' (.one .s) (.agg [.int .i64 0,ofL [], .snil, .snil]) false (.map rm) (ofL n')=some (.agg c', .no):=fun S' hS'=>by
         have:=hz false S' (hS'.trans (hg.same rm hL.mapne));simpa using this
        have c'4:=hc'.four
        have c'ok:=hc'.ok
        have csp:splice [.int .i64 k',ofL n',nv',kv'] 0 c'=c':=Yc (by rw[c'4];rfl)
        simp only[XM,simprocAttr,f0,f3,f5,f23,Ja5,Jdb,hnx,r1,k9',ckS,hlk,o2m,o2k,c'4,c'ok,csp]
        have r1':(S.wr (up 2 n) t2 fun u=> .mit u (some rm) l.length (i+1)).row (up 1 n)= .cells t1 [.int .i64 k',ofL n',nv',kv']:=by rw[Jx,if_neg (by rw[Jhu];decide)];exact r1
        have g3:Gr st ((S.wr (up 2 n) t2 fun u=> .mit u (some rm) l.length (i+1)).wr (up 1 n) t1 fun u=> .cells u c'):=g2.wr (hq0 1) (Je r1') (by rw[r1'];rfl) (Ja _)
        refine⟨l.length-(i+1),by omega,(hLp _ _ _).2 ⟨i+1,_,_,c',by omega,g3,by simp only[XZ,simprocAttr,f0],by simp only[XZ,simprocAttr,f3],by simp only[XZ,simprocAttr,f5],by simp only[XZ,simprocAttr,f23],by simp only[XZ,simprocAttr];exact r0,by simp only[XZ,simprocAttr]<;>rfl, ?_,by simp only[XZ,simprocAttr]<;>rfl⟩⟩
        rw[hlast,if_pos k9]
        exact(hc'.imp fun r p e=>⟨⟨p,e⟩,rfl⟩:TyC (fun r=>P r/\st.row r≠ .none) st c' _).gr g3
       ·have k9':(k'=9)=False:=eq_false k9
        simp only[XZ,simprocAttr,f0,f3,f5,f23,Ja5,Jdb,hnx,r1,k9']
        refine⟨l.length-(i+1),by omega,(hLp _ _ _).2 ⟨i+1,t1,_,[.int .i64 k',ofL n',nv',kv'],by omega,g2,by simp only[XZ,simprocAttr,f0],by simp only[XZ,simprocAttr,f3],by simp only[XZ,simprocAttr,f5],by simp only[XZ,simprocAttr,f23],by simp only[XZ,simprocAttr];exact r0,by simp only[XZ,simprocAttr];exact r1, ?_,by simp only[XZ,simprocAttr]<;>rfl⟩⟩
        rw[hlast,if_neg k9]
        exact hc.imp fun r p e=>⟨p,Jm _ _ _ (Js hw hn0 p.2 2)⟩
      ·have hie:i=l.length:=by omega
       have hnx:=JiB (st:=S) (q:=up 2 n) (r:=rm) (n:=i) (t:=t2) (es:=((em.map fun p=>(p.1,V.agg p.2)).map fun p=>(ofL p.1,p.2))) (by rw[hml'];exact r2) hmS (by rw[hml'];exact hi)
       rw[<-hie,<-hT]at hB
       have hB:B=decide (k'=6):=hB
       by_cases k6x:k'=6
       ·have k6x':(k'=6)=True:=eq_true k6x
        simp only[XZ,simprocAttr,f0,f3,f5,f23,Ja5,Jdb,hnx,r1,k6x']
        refine fin _ _ (fun r e=>hg.same r e) fun _=> ?_
        rw[hS,hB,decide_eq_true k6x];rfl
       ·have k6x':(k'=6)=False:=eq_false k6x
        simp only[XZ,simprocAttr,f0,f3,f5,f23,Ja5,Jdb,hnx,r1,k6x']
        exact(hI _ _).2 ⟨hg,by simp only[XZ,simprocAttr,f0],by simp only[XZ,simprocAttr,f3],r0,by rw[hB];exact decide_eq_false k6x⟩
     ·rw[if_neg (fun h=>c1 h.2)]at hB
      simp only[XZ,simprocAttr,hn0,l2,k6',cl2 c1]
      exact(hI _ _).2 ⟨g0,by simp only[XZ,simprocAttr],by simp only[XZ,simprocAttr],r0,hB⟩
    ·have k6':(k=6)=False:=eq_false k6
     rw[if_neg (fun h=>k6 h.1)]at hB
     simp only[XZ,simprocAttr,hn0,l2,k6']
     exact(hI _ _).2 ⟨g0,by simp only[XZ,simprocAttr],by simp only[XZ,simprocAttr],r0,hB⟩
   ·intro fr S hIf
    obtain⟨hg,f0,f3,r0,hBf⟩:=(hI _ _).1 hIf
    simp only[XZ,simprocAttr,f0,f3,r0]
    refine Jb (Q1 (fa:=[.ptr kr 0]) (fb:=[]) (optsS l) hg.wf (hx2.imp (fun e x h=>h.gr hg) fun r p e=>⟨p,hg.same r e⟩) hlen fun i hi S' E' g' hE'=> ?_) ?_
    ·have h1:=kq hi
     have h2:=Yw k nm ns ks
     exact optsC m ks[i] (by have:=YN (k:=k) (n:=nm) (ns:=ns) hi;omega) P S' kr rm l met E' g'.wf (hL.gr (hg.trans g')) hE' hl (by omega)
    ·rintro _ S2 ⟨g2,rfl⟩
     simp only[XZ,simprocAttr]
     refine fin _ _ (fun r e=>(hg.trans g2).same r e) fun _=> ?_
     rw[hS,hBf,Y5];rfl
theorem types0 {P:Pt->Prop}{st:St}{v:V}(h:LstAt (NmC P st) P st v 5 []):Does (tabT tabD) Jaa [v] st fun v' st'=>v'= .int .i64 0/\st=st':=by
 refine Jv qb rfl ?_
 simp only[Ql,XZ,simprocAttr,h.nil_len]
 refine Qz (by decide) ?_
 simp only[XZ,simprocAttr]
theorem sigs0 {P:Pt->Prop}{st:St}{v:V}{kr:Pt}(h:LstAt (SgC P st) P st v 6 []):Does (tabT tabD) YJ [.ptr kr 0,v] st fun v' st'=>v'= .int .i64 0/\st=st':=by
 refine Jv YG rfl ?_
 simp only[J7,XZ,simprocAttr,h.nil_len]
 refine Qz (by decide) ?_
 simp only[XZ,simprocAttr]
theorem named0 {P:Pt->Prop}{st:St}{e:List V}{s:Sch}(hw:WF st)(h:SchC P st e s)(h0:s.types=[]):Does (tabT tabD) Jab [.agg e] st fun v' st'=>Gr st st'/\∃r,v'= .map r/\st.row r= .none/\∃t,st'.row r= .mob t []:=by
 refine Jw tabM qd rfl hw fun K fin=> ?_
 obtain⟨n,hn0⟩:∃n,st.nx=up 0 n:=⟨_,up0 _⟩
 have hold:=fun r (h:st.row r≠ .none)=>QP hw hn0 h
 obtain⟨c,tv,sv,rfl,h1,h2,h3⟩:=h
 obtain⟨k,nm,ns,ks⟩:=s.main
 obtain⟨nv,kv,es,rfl,x1,x2,x3,x4⟩:=h1.inv
 rw[h0]at h2
 simp only[Qm,XZ,simprocAttr,hn0,x1.sc,x2.sc,h2.sc.1,h3.sc.1,h2.nil_len]
 refine Qz (by decide) ?_
 simp only[XZ,simprocAttr]
 refine fin _ _ (fun r e=>by simp only[JQ,Yb,hn0,Ya,hold r e,if_false]) fun _=>⟨up 1 n,rfl,nx0 hw hn0 1,_,by simp only[XZ,simprocAttr,hn0];rfl⟩
theorem every0 {P Q:Pt->Prop}{st:St}{e:List V}{s:Sch}(hw:WF st)(h:SchC P st e s)(h0:s.types=[])(h00:s.sigs=[])(hQ:∀r,P r->Q r)(hN:∀r,st.row r= .none->Q r):Does (tabT tabD) Jac [.agg e] st fun v' st'=>Gr st st'/\LstAt (TyC Q st') Q st' v' 4 [s.main]:=by
 refine Jw tabM qf rfl hw fun K fin=> ?_
 obtain⟨n,hn0⟩:∃n,st.nx=up 0 n:=⟨_,up0 _⟩
 have hold:=fun r (h:st.row r≠ .none)=>QP hw hn0 h
 obtain⟨c,tv,sv,rfl,h1,h2,h3⟩:=h
 obtain⟨M,hM⟩:∃M,M=s.main:=⟨_,rfl⟩
 rw[<-hM]at h1
 simp only[<-hM]at fin
 obtain⟨k,nm,ns,ks⟩:=M
 have h1':=h1
 obtain⟨nv,kv,es,rfl,x1,x2,x3,x4⟩:=h1.inv'
 rw[h0]at h2
 rw[h00]at h3
 simp only[Qo,XZ,simprocAttr,hn0,x1.sc,x2.sc,x1.cells,x2.cells,h2.sc.1,h3.sc.1,h2.nil_len]
 refine Qz (by decide) ?_
 simp only[XZ,simprocAttr,hn0,x1.sc,x2.sc,x1.cells,x2.cells]
 have g:Gr st ((st.new fun t=> .cells t [.int .i64 k,ofL nm,nv,kv,tv,sv]).new fun t=> .cells t [.int .i64 k,ofL nm,nv,kv]):=(Gr.new hw (Ja _)).nn (Ja _)
 have happ:∀S:St,S.row (up 1 n)= .cells (st.t+1) [.int .i64 k,ofL nm,nv,kv]->appV S 4 .snil (.slx (up 1 n) 0 1 4 1)=some (.sl S.nx 0 1 4, .new fun t=> .cells t [.int .i64 k,ofL nm,nv,kv]):=fun S hS=>by
  simp only[appV,slen,Jy,loadN,hS]
  simp only[Nat.le_refl,true_and,if_true,Nat.one_mul,List.length_cons,List.length_nil,Nat.zero_add,Nat.reduceAdd,List.drop_zero]
  rw[show([V.int .i64 k,ofL nm,nv,kv].take 4)=[.int .i64 k,ofL nm,nv,kv]from rfl]
  simp only[jm,JfX,JfY,x1.sc,x2.sc,qA,Bool.and_self]
  rfl
 have hrow:((st.new fun t=> .cells t [.int .i64 k,ofL nm,nv,kv,tv,sv]).new fun t=> .cells t [.int .i64 k,ofL nm,nv,kv]).row (up 1 n)= .cells (st.t+1) [.int .i64 k,ofL nm,nv,kv]:=by simp only[JQ,Yb,hn0,Ya,Nat.zero_add,if_true];rfl
 simp only[happ _ hrow,XZ,simprocAttr,hn0,h3.nil_len]
 refine Qz (by decide) ?_
 simp only[XZ,simprocAttr]
 have g3:Gr st (((st.new fun t=> .cells t [.int .i64 k,ofL nm,nv,kv,tv,sv]).new fun t=> .cells t [.int .i64 k,ofL nm,nv,kv]).new fun t=> .cells t [.int .i64 k,ofL nm,nv,kv]):=g.nn (Ja _)
 refine fin _ _ (fun r e=>g3.same r e) fun _=>⟨[[.int .i64 k,ofL nm,nv,kv]], ?_,rfl,fun i a b=> ?_⟩
 ·exact⟨fun e he=>by rw[List.mem_singleton.1 he];rfl, .inr ⟨up 2 n,0,hN _ (nx0 hw hn0 2), .inl rfl,[.int .i64 k,ofL nm,nv,kv], .inl ⟨_,by simp only[XZ,simprocAttr,hn0];rfl⟩,by simp,by simp⟩⟩
 ·have:i=0:=by simp at b;omega
  subst this
  exact(h1'.imp fun r p e=>⟨hQ r p,g3.same r e⟩)
theorem checkS0 {s:Sch}(h0:s.types=[])(h00:s.sigs=[]):checkS s=if(mayS (hasN []) s.main 1 0).1≠0 then(mayS (hasN []) s.main 1 0).1 else if optssS [] [s.main]then 17 else 0:=by
 unfold checkS everyS
 rw[h0,h00]
 simp only[List.length_nil,List.map_nil,typesS,J6,sigsS]
 simp
set_option maxHeartbeats 4000000 in
theorem check0 {P:Pt->Prop}{st:St}{e:List V}{s:Sch}(hw:WF st)(h:SchC P st e s)(h0:s.types=[])(h00:s.sigs=[]):Does (tabT tabD) kF [.agg e] st fun v' st'=>Gr st st'/\v'= .int .i64 (checkS s):=by
 refine Jw tabM j7 rfl hw fun K fin=> ?_
 obtain⟨n,hn0⟩:∃n,st.nx=up 0 n:=⟨_,up0 _⟩
 have hchk:=checkS0 h0 h00
 have hsch:=h
 obtain⟨c,tv,sv,rfl,h1,h2,h3⟩:=h
 obtain⟨M,hM⟩:∃M,M=s.main:=⟨_,rfl⟩
 rw[<-hM]at h1 hchk
 obtain⟨k,nm,ns,ks⟩:=M
 have h1':=h1
 obtain⟨nv,kv,es,rfl,x1,x2,x3,x4⟩:=h1.inv'
 rw[h0]at h2
 rw[h00]at h3
 have g0:Gr st (st.new fun t=> .cells t [.int .i64 k,ofL nm,nv,kv,tv,sv]):=Gr.new hw (Ja _)
 have r0:(st.new fun t=> .cells t [.int .i64 k,ofL nm,nv,kv,tv,sv]).row (up 0 n)= .cells st.t [.int .i64 k,ofL nm,nv,kv,tv,sv]:=by simp only[XZ,simprocAttr,hn0]
 have ft:∀{S:St},Gr st S->LstAt (NmC P S) P S tv 5 []:=fun g=>h2.imp (fun e x h=>h.imp fun r p e=>⟨p,g.same r e⟩) fun r p e=>⟨p,g.same r e⟩
 have fs:∀{S:St},Gr st S->LstAt (SgC P S) P S sv 6 []:=fun g=>h3.imp (fun e x h=>h.imp fun r p e=>⟨p,g.same r e⟩) fun r p e=>⟨p,g.same r e⟩
 have fsch:∀{S:St},Gr st S->SchC P S ([.int .i64 k,ofL nm,nv,kv]++[tv,sv]) s:=fun g=>hsch.imp fun r p e=>⟨p,g.same r e⟩
 simp only[Qk,XZ,simprocAttr,hn0,x1.sc,x2.sc,h2.sc.1,h3.sc.1,h2.nil_len,h3.nil_len]
 refine Jb (types0 (ft g0)) ?_
 rintro _ _ ⟨rfl,rfl⟩
 simp only[XZ,simprocAttr,hn0]
 refine Jb (named0 g0.wf (fsch g0) h0) ?_
 rintro _ S1 ⟨g1,rm,rfl,hrm,tm,mrm⟩
 have G1:=g0.trans g1
 have b1:=g1.cells r0
 obtain⟨n1,hn1⟩:∃n,S1.nx=up 0 n:=⟨_,up0 _⟩
 have w1:=g1.wf
 have o10:=fun k=>nes (Js w1 hn1 (Je b1) k)
 have hrm1:S1.row rm≠ .none:=by rw[mrm];exact fun e=>by cases e
 have spl:splice [.mnil, .int .i64 0] 0 [.map rm]=[.map rm, .int .i64 0]:=rfl
 simp only[XZ,simprocAttr,hn1,o10,b1,Ja2,Y1,h2.nil_len]
 refine Qz (by decide) ?_
 have gL:Gr S1 (S1.new fun t=> .cells t [.map rm, .int .i64 0]):=Gr.new w1 (Ja _)
 have hL0:LookAt (fun r=>P r/\st.row r≠ .none) (S1.new fun t=> .cells t [.map rm, .int .i64 0]) (up 0 n1) rm [] 0:=by
  refine⟨⟨[],⟨tm, ?_⟩,rfl,fun i h=>absurd h (by simp)⟩,⟨S1.t, ?_⟩,fun r p=> ?_,Js w1 hn1 hrm1 0⟩
  ·rw[gL.same rm hrm1,mrm];rfl
  ·simp only[XZ,simprocAttr,hn1]<;>rfl
  ·exact Js w1 hn1 (by rw[G1.same r p.2];exact p.2) 0
 have lv:∀{S:St} {T:Ty} {E:List V},Gr st S->TyC P st E T->TyC (fun r=>P r/\st.row r≠ .none) S E T:=fun g h=>h.imp fun r p e=>⟨⟨p,e⟩,g.same r e⟩
 have b2:=gL.cells b1
 have G2:=G1.trans gL
 simp only[XZ,simprocAttr,hn1,o10,b1]
 refine Jb (mayD (deep:=1) gL.wf hL0 (lv G2 h1') (by decide) (by decide)) ?_
 rintro _ S2 ⟨c2,L2,rfl⟩
 have q1:st.row (up 0 n1)= .none:=Ch.fresh (Ch.of (fun _=>False) G1) (nx0 w1 hn1 0)
 have G3:Ch (fun _=>False) st S2:=(Ch.of _ G2).trans c2 fun r w=> .inr (by rw[w];exact q1)
 have b3:S2.row (up 0 n)= .cells st.t [.int .i64 k,ofL nm,nv,kv,tv,sv]:=by rw[c2.same _ (Je b2) (Js w1 hn1 (Je b1) 0),b2]
 have w2:=c2.wf
 have ft':∀{S:St},Ch (fun _=>False) st S->LstAt (NmC P S) P S tv 5 []:=fun g=>h2.imp (fun e x h=>h.imp fun r p e=>⟨p,g.same r e id⟩) fun r p e=>⟨p,g.same r e id⟩
 have fs':∀{S:St},Ch (fun _=>False) st S->LstAt (SgC P S) P S sv 6 []:=fun g=>h3.imp (fun e x h=>h.imp fun r p e=>⟨p,g.same r e id⟩) fun r p e=>⟨p,g.same r e id⟩
 have fsch':∀{S:St},Ch (fun _=>False) st S->SchC (fun r=>P r/\st.row r≠ .none) S ([.int .i64 k,ofL nm,nv,kv]++[tv,sv]) s:=fun g=>hsch.imp fun r p e=>⟨⟨p,e⟩,g.same r e id⟩
 have hcnt:=kO (hasN []) (.mk k nm ns ks) 1 0
 have hm4:=KV (hasN []) (.mk k nm ns ks) 1 0 (by decide)
 by_cases he:(mayS (hasN []) (.mk k nm ns ks) 1 0).1=0
 ·have he':((mayS (hasN []) (.mk k nm ns ks) 1 0).1=0)=True:=eq_true he
  rw[if_neg (fun h=>h he)]at hchk
  simp only[XZ,simprocAttr,he',b3]
  refine Jb (sigs0 (fs' G3)) ?_
  rintro _ _ ⟨rfl,rfl⟩
  simp only[XZ,simprocAttr,b3,(ft' G3).nil_len]
  refine Qz (by decide) ?_
  simp only[XZ,simprocAttr,b3]
  refine Jb (every0 (Q:=fun r=>(P r/\st.row r≠ .none)\/S2.row r= .none) w2 (fsch' G3) h0 h00 (fun r p=> .inl p) (fun r p=> .inr p)) ?_
  rintro ev S4 ⟨g4,hev⟩
  rw[<-hM]at hev
  have hcn:cntT (.mk k nm ns ks)<1000000:=by have h1:=hcnt he;have h2:=hm4.2 he;omega
  have hL4:LookAt (fun r=>(P r/\st.row r≠ .none)\/S2.row r= .none) S2 (up 0 n1) rm [] (mayS (hasN []) (.mk k nm ns ks) 1 0).2:=by
   refine⟨⟨[], ?_,rfl,fun i h=>absurd h (by simp)⟩,L2.cell,fun r p=> ?_,L2.ne⟩
   ·obtain⟨es',h5,h6,_⟩:=L2.map
    rw[List.length_eq_zero_iff.1 h6]at h5
    exact h5
   ·rcases p with p|p
    ·exact L2.sep r p
    ·exact fun e=>L2.krne (by rw[<-e];exact p)
  simp only[XZ,simprocAttr]
  refine Jb (Q1 (fa:=[.ptr (up 0 n1) 0]) (fb:=[]) (optsS []) g4.wf hev (by simp) fun i hi S' E' g' hE'=> ?_) ?_
  ·have:i=0:=by simp at hi;omega
   subst this
   exact optsC _ _ (Nat.lt_succ_self _) _ S' (up 0 n1) rm [] _ E' g'.wf (hL4.gr (g4.trans g')) hE' (by decide) hcn
  ·rintro _ S5 ⟨g5,rfl⟩
   have GF:∀r,st.row r≠ .none->S5.row r=st.row r:=fun r e=>by
    have e2:=G3.same r e id
    rw[(g4.trans g5).same r (by rw[e2];exact e),e2]
   cases ho:[Ty.mk k nm ns ks].any (optsS [])with
   | true=>
     simp only[XZ,simprocAttr]
     refine fin _ _ GF fun _=> ?_
     rw[hchk,Y5,ho];rfl
   | false=>
     simp only[XZ,simprocAttr]
     refine fin _ _ GF fun _=> ?_
     rw[hchk,Y5,ho];rfl
 ·have he':((mayS (hasN []) (.mk k nm ns ks) 1 0).1=0)=False:=eq_false he
  rw[if_pos he]at hchk
  simp only[XZ,simprocAttr,he']
  refine fin _ _ (fun r e=>G3.same r e id) fun _=> ?_
  rw[hchk]
def NewPost (st:St)(v:V)(st':St)(r:Option Tb×Int):Prop:=match r.1 with
 |none=>v= .tup [.pnil, .int .i64 r.2]
 |some tb=>∃rt W F,v= .tup [.ptr rt 0, .int .i64 0]/\Tab W F st' rt tb/\∀r,W r\/F r->st.row r= .none
set_option maxHeartbeats 4000000 in
theorem new0 {P:Pt->Prop}{st:St}{e:List V}{s:Sch}(hw:WF st)(h:SchC P st e s)(h0:s.types=[])(h00:s.sigs=[]):Does (tabT tabD) Jav [.agg e] st fun v' st'=>Gr st st'/\NewPost st v' st' (newS s):=by
 refine Jw tabM JcM rfl hw fun K fin=> ?_
 obtain⟨n,hn0⟩:∃n,st.nx=up 0 n:=⟨_,up0 _⟩
 have hnew:=newS0 h0 h00
 have hsch:=h
 obtain⟨c,tv,sv,rfl,h1,h2,h3⟩:=h
 obtain⟨M,hM⟩:∃M,M=s.main:=⟨_,rfl⟩
 rw[<-hM]at h1 hnew
 obtain⟨k,nm,ns,ks⟩:=M
 have h1':=h1
 obtain⟨nv,kv,es,rfl,x1,x2,x3,x4⟩:=h1.inv'
 rw[h0]at h2
 rw[h00]at h3
 have g0:Gr st (st.new fun t=> .cells t [.int .i64 k,ofL nm,nv,kv,tv,sv]):=Gr.new hw (Ja _)
 have r0:(st.new fun t=> .cells t [.int .i64 k,ofL nm,nv,kv,tv,sv]).row (up 0 n)= .cells st.t [.int .i64 k,ofL nm,nv,kv,tv,sv]:=by simp only[XZ,simprocAttr,hn0]
 simp only[Yh,XZ,simprocAttr,hn0,x1.sc,x2.sc,h2.sc.1,h3.sc.1,h2.nil_len,h3.nil_len]
 refine Jb (check0 g0.wf (hsch.imp fun r p e=>⟨p,g0.same r e⟩) h0 h00) ?_
 rintro _ S1 ⟨g1,rfl⟩
 have G1:=g0.trans g1
 have b1:=g1.cells r0
 have w1:=g1.wf
 obtain⟨n1,hn1⟩:∃n,S1.nx=up 0 n:=⟨_,up0 _⟩
 have o10:=fun k=>nes (Js w1 hn1 (Je b1) k)
 by_cases hc:checkS s=0
 ·have hc':(checkS s=0)=True:=eq_true hc
  rw[if_neg (fun h=>h hc)]at hnew
  simp only[XZ,simprocAttr,hc',hn1,Ja2,Y1,o10,b1,h2.nil_len]
  refine Qz (by decide) ?_
  simp only[XZ,simprocAttr,hn1,o10,b1]
  obtain⟨S2,hS2⟩:∃S2,S2=((((S1.new fun t=> .mob t []).new fun t=> .mob t []).new fun t=> .mob t []).new fun t=> .cells t [.snil, .map (up 0 n1), .map (up 1 n1), .int .i64 0, .map (up 2 n1)]):=⟨_,rfl⟩
  have g2:Gr S1 S2:=by rw[hS2];exact(((Gr.new w1 (Kx _)).nn (Kx _)).nn (Kx _)).nn (Ja _)
  have hT:Tab (fun r=>r=up 0 n1\/r=up 1 n1\/r=up 2 n1\/r=up 3 n1) (fun _=>False) S2 (up 3 n1) emptyTb:=by
   refine⟨.snil,up 0 n1,up 1 n1,up 2 n1,[],[],⟨⟨_,by rw[hS2];simp only[XZ,simprocAttr,hn1];rfl⟩,⟨.inr (.inr (.inr rfl)), .inl rfl, .inr (.inl rfl), .inr (.inr (.inl rfl))⟩, ?_,fun r f=>f.elim,⟨?_, ?_, ?_⟩,⟨rfl, .inl ⟨rfl,rfl⟩⟩,fun e h=>absurd h (by simp),rfl,fun i h=>absurd h (by simp),fun n h=>absurd h (by simp[emptyTb]),by decide,⟨_,by rw[hS2];simp only[XZ,simprocAttr,hn1];rfl⟩,⟨_,by rw[hS2];simp only[XZ,simprocAttr,hn1];rfl⟩,⟨_,by rw[hS2];simp only[XZ,simprocAttr,hn1];rfl⟩,rfl,fun i h=>absurd h (by simp)⟩⟩
   ·intro r hr
    rcases hr with e|e|e|e
    all_goals rw[hS2,e];simp only[XZ,simprocAttr,hn1]
    all_goals exact fun e=>by cases e
   ·rw[kM];decide
   ·rw[kM];decide
   ·rw[kM];decide
  rw[<-hS2]
  have hx:TyC (fun r=>P r/\st.row r≠ .none) S2 [.int .i64 k,ofL nm,nv,kv] (.mk k nm ns ks):=h1'.imp fun r p e=>⟨⟨p,e⟩,(G1.trans g2).same r e⟩
  have fresh:∀k,st.row (up k n1)= .none:=fun k=>Ch.fresh (Ch.of (fun _=>False) G1) (nx0 w1 hn1 k)
  refine Jb (addTop g2.wf hT hx (fun r p w=> ?_)) ?_
  ·rcases w with w|w|w|w<;>exact p.2 (by rw[w];exact fresh _)
  rintro _ S3 ⟨c3,⟨W3,F3,a1,a2,a3,T3⟩,rfl⟩
  by_cases ha:(addT (.mk k nm ns ks) 400 emptyTb).2.2.1=0
  ·have ha':((addT (.mk k nm ns ks) 400 emptyTb).2.2.1=0)=True:=eq_true ha
   rw[if_neg (fun h=>h ha)]at hnew
   obtain⟨t3,l3,e3,len3,T4⟩:=T3.setMain (addT (.mk k nm ns ks) 400 emptyTb).2.1
   have b3:S3.row (up 0 n)= .cells st.t [.int .i64 k,ofL nm,nv,kv,tv,sv]:=by
    have h5:=g2.cells b1
    rw[c3.same _ (Je h5) (fun w=>by rcases w with w|w|w|w<;>exact absurd w (Js w1 hn1 (Je b1) _)),h5]
   have o3:up 0 n≠up 3 n1:=Js w1 hn1 (Je b1) 3
   have o3':=nes o3
   have h45:3+1<=l3.length:=by omega
   have h45':4<=l3.length:=by omega
   simp only[XM,simprocAttr,ha',e3,h45',o3',b3,h3.nil_len]
   refine Qz (by decide) ?_
   simp only[XZ,simprocAttr]
   refine fin _ _ (fun r e=> ?_) fun _=> ?_
   ·have e1:r≠up 3 n1:=fun k=>e (by rw[k];exact fresh 3)
    rw[Jx,if_neg e1,c3.same r (by rw[(G1.trans g2).same r e];exact e) (fun w=>by rcases w with w|w|w|w<;>exact e (by rw[w];exact fresh _)),(G1.trans g2).same r e]
   ·rw[hnew]
    refine⟨up 3 n1,W3,F3,rfl,T4,fun r w=> ?_⟩
    have fr:S2.row r= .none->st.row r= .none:=fun h=>Ch.fresh (Ch.of (fun _=>False) (G1.trans g2)) h
    rcases w with w|w
    ·rcases a2 r w with w|w
     ·rcases w with w|w|w|w<;>(rw[w];exact fresh _)
     ·exact fr w
    ·rcases a3 r w with w|w
     ·exact w.elim
     ·exact fr w
  ·have ha':((addT (.mk k nm ns ks) 400 emptyTb).2.2.1=0)=False:=eq_false ha
   rw[if_pos ha]at hnew
   simp only[XZ,simprocAttr,ha']
   refine fin _ _ (fun r e=> ?_) fun _=> ?_
   ·rw[c3.same r (by rw[(G1.trans g2).same r e];exact e) (fun w=>by rcases w with w|w|w|w<;>exact e (by rw[w];exact fresh _)),(G1.trans g2).same r e]
   ·rw[hnew];exact rfl
 ·have hc':(checkS s=0)=False:=eq_false hc
  rw[if_pos hc]at hnew
  simp only[XZ,simprocAttr,hc']
  refine fin _ _ (fun r e=>G1.same r e) fun _=> ?_
  rw[hnew];exact rfl
theorem addX {W:Pt->Prop}{st:St}{rt:Pt}{tb:Tb}{e:List V}{ty:Ty}(hT:TabX st W rt tb)(hx:TyC (fun r=>¬W r) st e ty):
  Does (tabT tabD) Yv [.ptr rt 0, .agg e] st fun v S=>∃W',TabX S W' rt (addT ty 400 tb).1/\Kept st W S W'/\v= .tup [.int .i64 ((addT ty 400 tb).2.1:Nat), .int .i64 (addT ty 400 tb).2.2.1]:=by
 obtain⟨hw,F,hT⟩:=hT
 refine(addTop hw hT hx fun r n=>n).mono ?_
 rintro v S ⟨c,⟨W',F',b1,b2,b3,T'⟩,rfl⟩
 exact⟨W',⟨c.wf,F',T'⟩,Kept.ch c b2,rfl⟩
theorem addZ {W Z:Pt->Prop}{st:St}{rt:Pt}{tb:Tb}{e:List V}{ty:Ty}(hT:TabZ st W Z rt tb)(hZ:∀r,Z r->st.row r≠ .none)(hx:TyC (fun r=>¬W r) st e ty):
  Does (tabT tabD) Yv [.ptr rt 0, .agg e] st fun v S=>∃W',TabZ S W' Z rt (addT ty 400 tb).1/\Kept st W S W'/\v= .tup [.int .i64 ((addT ty 400 tb).2.1:Nat), .int .i64 (addT ty 400 tb).2.2.1]:=by
 obtain⟨hw,F,hT,hF⟩:=hT
 refine(addTop hw hT hx fun r n=>n).mono ?_
 rintro v S ⟨c,⟨W',F',b1,b2,b3,T'⟩,rfl⟩
 exact⟨W',⟨c.wf,F',T',fun r f z=>by rcases b3 r f with f|f;exact hF r f z;exact hZ r z f⟩,Kept.ch c b2,rfl⟩
theorem schC1 {P:Pt->Prop}{st:St}{e:List V}{t:Ty}(h:TyC P st e t):SchC P st (e++[.snil, .snil]) ⟨t,[],[]⟩:=
 ⟨e, .snil, .snil,rfl,h,⟨[],SlAt.nil _ _ _,rfl,fun i h=>absurd h (by simp)⟩,⟨[],SlAt.nil _ _ _,rfl,fun i h=>absurd h (by simp)⟩⟩
theorem newX1 {P:Pt->Prop}{st:St}{e:List V}{t:Ty}(hw:WF st)(h:TyC P st e t):Does (tabT tabD) Jav [.agg (e++[.snil, .snil])] st fun v S=>Gr st S/\NewX st v S (newS ⟨t,[],[]⟩):=by
 refine(new0 hw (schC1 h) rfl rfl).mono ?_
 rintro v S ⟨g,hp⟩
 refine⟨g, ?_⟩
 unfold NewPost at hp
 unfold NewX
 cases hn:(newS ⟨t,[],[]⟩).1 with
 |none=>rw[hn]at hp;exact hp
 | some tb=>
   rw[hn]at hp
   obtain⟨rt,W,F,h1,h2,h3⟩:=hp
   exact⟨rt,W,h1,⟨g.wf,F,h2⟩,fun r e _=>⟨g.same r e,fun w=>e (h3 r (.inl w))⟩⟩
theorem JcJ {P:Pt->Prop}{st:St}{v:V}{es:List (List V)}(hw:WF st)(h:SlAt P st v 4 es)(hok:okC es)(hn:es.length<2^20):
  Does (tabT tabD) qG [v] st fun v' st'=>Gr st st'/\SlF st st' v' 4 es:=by
 refine Does.gr tabM hw (Jv j8 rfl ?_)
 obtain⟨n,hn0⟩:∃n,st.nx=up 0 n:=⟨_,up0 _⟩
 have hold:=fun r (h:st.row r≠ .none)=>QP hw hn0 h
 rcases h.2 with⟨rfl,rfl⟩|⟨r,o,hp,hv,l,hl,h1,h2⟩
 ·have e1:eqV (.one .l) false .snil .snil=some (.bool true, .no):=rfl
  simp only[JO,XZ,simprocAttr,e1]
  exact⟨fun _ _=>trivial,SlF.nil _ _ _⟩
 ·have e1:eqV (.one .l) false v .snil=some (.bool false, .no):=by rcases hv with rfl|⟨c,_,rfl⟩<;>rfl
  have h':SlAt P (st.new fun t=> .cells t []) v 4 es:=h.imp fun r p e=>⟨p,JZ hw _ e⟩
  have r0:=JD st fun t=> .cells t []
  have ha:appV (st.new fun t=> .cells t []) 4 (.slx st.nx 0 0 4 0) v=if 0<es.length then some (.sl (st.new fun t=> .cells t []).nx 0 es.length 4, .new fun u=> .cells u es.flatten)else some (.slx st.nx 0 0 4 0, .no):=by
   by_cases h0:0<es.length
   ·rw[if_pos h0];exact JbO h' hok hn h0 r0
   ·rw[if_neg h0]
    have:es=[]:=List.length_eq_zero_iff.1 (by omega)
    subst this
    exact Jao h'
  rw[hn0]at ha
  by_cases h0:0<es.length
  ·simp only[h0]at ha
   simp only[JO,XZ,simprocAttr,e1,hn0,Jcw,ha]
   refine⟨fun r hr=>by simp only[hold r hr,if_false],⟨h.1, .inr ⟨up 1 n,(st.new fun t=> .cells t []).t,nx0 hw hn0 1,by simp only[XZ,simprocAttr,hn0], .inl rfl⟩⟩⟩
  ·simp only[h0]at ha
   simp only[JO,XZ,simprocAttr,e1,hn0,Jcw,ha]
   have:es=[]:=List.length_eq_zero_iff.1 (by omega)
   subst this
   exact⟨fun r hr=>by simp only[hold r hr,if_false],⟨h.1, .inr ⟨up 0 n,st.t,nx0 hw hn0 0,by simp only[XZ,simprocAttr,hn0,List.flatten_nil], .inr rfl⟩⟩⟩
theorem Jh3 {p:Option Str}{n:Str}{r:List Str}(h1:badName n=false)(h2:notLess p n=false):typesS p (n::r)=typesS (some n) r:=by
 rw[typesS,if_neg (by rw[h1];simp),if_neg (by rw[h2];simp)]
set_option maxHeartbeats 2000000 in
theorem typesC {P:Pt->Prop}{st:St}{v:V}{l:List (Str×Ty)}(hw:WF st)(h:LstAt (NmC P st) P st v 5 l)(hl:l.length<=1000):Does (tabT tabD) Jaa [v] st fun v' st'=>Gr st st'/\v'= .int .i64 (typesS none (l.map Prod.fst)):=by
 refine Jw tabM qb rfl hw fun K fin=> ?_
 have l1:=h.len
 simp only[Ql,XY,simprocAttr]
 rw[Jc];simp only[XY,simprocAttr]
 rw[Jf,Jc];simp only[XY,simprocAttr,l1]
 obtain⟨I,hI⟩:∃I:Nat->Fr->St->Prop,∀j fr S,I j fr S<->∃(i:Nat) (p:Option Str),j+i=l.length/\fr 0=v/\fr 5=v/\fr 6= .int .i64 l.length/\fr 7= .int .i64 i/\Gr st S/\typesS none (l.map Prod.fst)=typesS p ((l.map Prod.fst).drop i)/\(p=if i=0 then none else(l.map Prod.fst)[i-1]?):=⟨_,fun _ _ _=>Iff.rfl⟩
 refine Jq I l.length (by omega) ((hI _ _ _).2 ⟨0,none,by omega,by simp only[XZ,simprocAttr],by simp only[XZ,simprocAttr],by simp only[XZ,simprocAttr],by simp only[XZ,simprocAttr]<;>rfl,Gr.refl hw,rfl,rfl⟩) ?_
 intro j fr S hIj
 obtain⟨i,p,hj,f0,f5,f6,f7,hg,hrec,hp⟩:=(hI _ _ _).1 hIj
 by_cases hi:i<l.length
 ·have hi':(i:Int)<l.length:=by omega
  have hS:LstAt (NmC P S) P S v 5 l:=h.imp (fun e x h=>h.imp fun r p e=>⟨p,hg.same r e⟩) fun r p e=>⟨p,hg.same r e⟩
  obtain⟨r,q,e,a1,a2,a3,a4,⟨c,he,hc⟩,a6,a7⟩:=hS.elem hi
  obtain⟨nv,kv,es,rfl,x1,x2,x3,x4⟩:=hc.inv
  subst he
  have d1:=x1.cells
  have d2:=x1.sc
  have d3:=x2.cells
  have d4:=x2.sc
  have wS:=hg.wf
  obtain⟨nS,hnS⟩:∃n,S.nx=up 0 n:=⟨_,up0 _⟩
  have oq:=fun k=>nes (Js wS hnS a3 k)
  obtain⟨N,hN⟩:∃N,N=l[i].1:=⟨_,rfl⟩
  obtain⟨T,hT⟩:∃T,T=l[i].2:=⟨_,rfl⟩
  rw[<-hN,<-hT]at a4
  have hd:(l.map Prod.fst).drop i=N::(l.map Prod.fst).drop (i+1):=by
   rw[List.drop_eq_getElem_cons (by simpa using hi),List.getElem_map,<-hN]
  rw[hd]at hrec
  have hadd1:IntKind.i64.wrap ((i:Int)+1)=((i+1:Nat):Int):=by rw[Jp (by omega) (by omega)];rfl
  rw[Jc];simp only[XY,simprocAttr,f6,f7,hi']
  rw[Jf];simp only[XY,simprocAttr]
  rw[Jf];simp only[XY,simprocAttr]
  rw[Jc];simp only[XY,simprocAttr,f5,f7,a1,a4,hnS,oq,d1,d2,d3,d4]
  obtain⟨S1,hS1⟩:∃S1,S1=((S.new fun t=> .cells t [ofL [], .int .i64 0,ofL [], .snil, .snil]).wr (up 0 nS) S.t fun u=> .cells u [ofL N, .int .i64 T.kind,ofL T.name,nv,kv]):=⟨_,rfl⟩
  have g1:Gr S S1:=by rw[hS1];exact(Gr.refl wS).nw hnS (Ja _) (Ja _)
  obtain⟨t1,r1⟩:∃t,S1.row (up 0 nS)= .cells t [ofL N, .int .i64 T.kind,ofL T.name,nv,kv]:=⟨_,by rw[hS1];simp only[XZ,simprocAttr,hnS];rfl⟩
  rw[<-hS1]
  rw[Jc];simp only[XY,simprocAttr,r1]
  refine Jb (identC N _ g1.wf) ?_
  rintro _ S2 ⟨g2,rfl⟩
  have G2:=(hg.trans g1).trans g2
  have r2:=g2.cells r1
  have last:∀S3,Gr st S3->S3.row (up 0 nS)= .cells t1 [ofL N, .int .i64 T.kind,ofL T.name,nv,kv]->True:=fun _ _ _=>trivial
  have bad:badName N=true->typesS none (l.map Prod.fst)=15:=fun hb=>by rw[hrec,typesS,if_pos hb]
  cases hid:identB N with
  | false=>
    simp only[XZ,simprocAttr]
    refine fin _ _ (fun r e=>G2.same r e) fun _=> ?_
    rw[bad (by unfold badName;rw[hid];rfl)]
  | true=>
    have hlN:=JdY hid
    simp only[XY,simprocAttr,r2,List.length_append]
    refine⟨by omega,by omega, ?_⟩
    refine Jb (Je0 (Q:=fun v st'=>v= .bool (Lib.contains words (32::(N++[32])))/\S2=st') YK (Jcz words (32::(N++[32])) (by decide)) ⟨rfl,rfl⟩) ?_
    rintro _ _ ⟨rfl,rfl⟩
    cases hwd:Lib.contains words (32::(N++[32]))with
    | true=>
      simp only[XZ,simprocAttr]
      refine fin _ _ (fun r e=>G2.same r e) fun _=> ?_
      rw[bad (by unfold badName;rw[hid,hwd];rfl)]
    | false=>
      have hbn:badName N=false:=by unfold badName;rw[hid,hwd];rfl
      have next:∀{fr':Fr},notLess p N=false->fr' 0=v->fr' 5=v->fr' 6= .int .i64 l.length->fr' 7= .int .i64 ((i+1:Nat):Int)->∃j',j'<j/\I j' fr' S2:=fun{fr'} hl e0 e5 e6 e7=>
       ⟨l.length-(i+1),by omega,(hI _ _ _).2 ⟨i+1,some N,by omega,e0,e5,e6,e7,G2,by rw[hrec,Jh3 hbn hl],by rw[if_neg (by omega)];simp[hi,hN]⟩⟩
      by_cases h0:i=0
      ·have h0':¬(0:Int)<(i:Int):=by omega
       simp only[XZ,simprocAttr,f7,h0',hadd1,Jk]
       refine next (by rw[hp,if_pos h0];rfl) ?_ ?_ ?_ ?_<;>simp only[XZ,simprocAttr,f0,f5,f6]
      ·have h0':(0:Int)<(i:Int):=by omega
       have hsub:IntKind.i64.wrap ((i:Int)-1)=((i-1:Nat):Int):=by rw[Jp (by omega) (by omega)];omega
       have hS2:LstAt (NmC P S2) P S2 v 5 l:=h.imp (fun e x h=>h.imp fun r p e=>⟨p,G2.same r e⟩) fun r p e=>⟨p,G2.same r e⟩
       have hi1:i-1<l.length:=by omega
       obtain⟨r',q',e',b1,b2,b3,b4,⟨c',hb,hb'⟩,b6,b7⟩:=hS2.elem hi1
       subst hb
       have b8:=b7 0 (by simp)
       have b8:ld1 (S2.row r') q'=some (ofL l[i-1].1, .no):=b8
       have hp':p=some l[i-1].1:=by rw[hp,if_neg h0,List.getElem?_map,List.getElem?_eq_getElem hi1];rfl
       cases hl:Op.bytesLess l[i-1].1 N with
       | false=>
         simp only[XZ,simprocAttr,f0,f7,h0',r2,hsub,b1,b8,QV,hl,Jk]
         refine fin _ _ (fun r e=>G2.same r e) fun _=> ?_
         rw[hrec,typesS,if_neg (by rw[hbn];simp),if_pos (by rw[hp',notLess,hl];rfl)]
       | true=>
         simp only[XZ,simprocAttr,f0,f7,h0',r2,hsub,b1,b8,QV,hl,Jk,hadd1]
         refine next (by rw[hp',notLess,hl];rfl) ?_ ?_ ?_ ?_<;>simp only[XZ,simprocAttr,f0,f5,f6]
 ·have hi':¬(i:Int)<l.length:=by omega
  simp only[XZ,simprocAttr,f6,f7,hi']
  refine fin _ _ (fun r e=>hg.same r e) fun _=> ?_
  rw[hrec,List.drop_eq_nil_of_le (by simp;omega),typesS]
theorem Jj8 {α:Type}[DecidableEq α]{k:α}{v:V}:∀{es:List (α×V)},(∀p∈es,k≠p.1)->YB k v es=es++[(k,v)]
 |[],_=>rfl
 | (a,w)::r,h=>by
   rw[YB,if_neg (h (a,w) (by simp)),Jj8 fun p hp=>h p (List.mem_cons_of_mem _ hp)]
   rfl
set_option maxHeartbeats 2000000 in
theorem namedC {P:Pt->Prop}{st:St}{e:List V}{s:Sch}(hw:WF st)(h:SchC P st e s)(hl:s.types.length<=1000)(hd:(s.types.map Prod.fst).Nodup):Does (tabT tabD) Jab [.agg e] st fun v' st'=>Gr st st'/\∃r,v'= .map r/\st.row r= .none/\NmMap P st' r s.types:=by
 refine Jw tabM qd rfl hw fun K fin=> ?_
 obtain⟨n,hn0⟩:∃n,st.nx=up 0 n:=⟨_,up0 _⟩
 obtain⟨c,tv,sv,rfl,h1,h2,h3⟩:=h
 obtain⟨l,hll⟩:∃l,l=s.types:=⟨_,rfl⟩
 rw[<-hll]at h2 hl hd
 simp only[<-hll]at fin
 obtain⟨M,hM⟩:∃M,M=s.main:=⟨_,rfl⟩
 rw[<-hM]at h1
 obtain⟨k,nm,ns,ks⟩:=M
 obtain⟨nv,kv,es,rfl,x1,x2,x3,x4⟩:=h1.inv'
 have l1:=h2.len
 simp only[Qm,XY,simprocAttr]
 rw[Jc];simp only[XY,simprocAttr,hn0,x1.sc,x2.sc,h2.sc.1,h3.sc.1]
 rw[Jc];simp only[XY,simprocAttr,hn0]
 obtain⟨S0,hS0⟩:∃S0,S0=((st.new fun t=> .cells t [.int .i64 k,ofL nm,nv,kv,tv,sv]).new fun t=> .mob t []):=⟨_,rfl⟩
 have g0:Gr st S0:=by rw[hS0];exact(Gr.new hw (Ja _)).nn (Kx _)
 obtain⟨t0,r0⟩:∃t,S0.row (up 0 n)= .cells t [.int .i64 k,ofL nm,nv,kv,tv,sv]:=⟨_,by rw[hS0];simp only[XZ,simprocAttr,hn0];rfl⟩
 obtain⟨tm,m0⟩:∃t,S0.row (up 1 n)= .mob t []:=⟨_,by rw[hS0];simp only[XZ,simprocAttr,hn0];rfl⟩
 obtain⟨rm,hrm⟩:∃p,p=up 1 n:=⟨_,rfl⟩
 have q0:st.row rm= .none:=by rw[hrm];exact nx0 hw hn0 1
 rw[<-hS0,<-hrm]
 rw[<-hrm]at m0
 clear hS0
 rw[Jf,Jc];simp only[XY,simprocAttr,r0,l1]
 obtain⟨I,hI⟩:∃I:Nat->Fr->St->Prop,∀j fr S,I j fr S<->∃(i:Nat) (ms:List (Str×List V)),j+i=l.length/\fr 3= .map rm/\fr 8=tv/\fr 9= .int .i64 l.length/\fr 10= .int .i64 i/\Gr st S/\(∃t,S.row rm= .mob t (ms.map fun p=>(ofL p.1,V.agg p.2)))/\ms.length=i/\∀j (h:j<ms.length) (h':j<l.length),ms[j].1=l[j].1/\TyC P st ms[j].2 l[j].2:=⟨_,fun _ _ _=>Iff.rfl⟩
 refine Jq I l.length (by omega) ((hI _ _ _).2 ⟨0,[],by omega,by simp only[XZ,simprocAttr],by simp only[XZ,simprocAttr],by simp only[XZ,simprocAttr],by simp only[XZ,simprocAttr]<;>rfl,g0,⟨tm,m0⟩,rfl,fun j h=>absurd h (by simp)⟩) ?_
 intro j fr S hIj
 obtain⟨i,ms,hj,f3,f8,f9,f10,hg,⟨t,hm⟩,hml,hms⟩:=(hI _ _ _).1 hIj
 by_cases hi:i<l.length
 ·have hi':(i:Int)<l.length:=by omega
  obtain⟨r,q,e,a1,a2,a3,a4,⟨c,he,hc⟩,a6,a7⟩:=h2.elem hi
  have hc0:=hc
  obtain⟨nv1,kv1,es1,rfl,y1,y2,y3,y4⟩:=hc.inv
  subst he
  rw[<-hg.same r a3]at a4
  have d1:=y1.cells
  have d2:=y1.sc
  have d3:=y2.cells
  have d4:=y2.sc
  have wS:=hg.wf
  obtain⟨nS,hnS⟩:∃n,S.nx=up 0 n:=⟨_,up0 _⟩
  have a3S:S.row r≠ .none:=by rw[hg.same r a3];exact a3
  have oq:=fun k=>nes (Js wS hnS a3S k)
  have hmn:S.row rm≠ .none:=by rw[hm];exact fun e=>by cases e
  have om:=fun k=>nes (Js wS hnS hmn k)
  obtain⟨N,hN⟩:∃N,N=l[i].1:=⟨_,rfl⟩
  obtain⟨T,hT⟩:∃T,T=l[i].2:=⟨_,rfl⟩
  rw[<-hT]at hc0
  rw[<-hN,<-hT]at a4
  have hadd1:IntKind.i64.wrap ((i:Int)+1)=((i+1:Nat):Int):=by rw[Jp (by omega) (by omega)];rfl
  rw[Jc];simp only[XY,simprocAttr,f9,f10,hi']
  rw[Jf];simp only[XY,simprocAttr]
  rw[Jf];simp only[XY,simprocAttr]
  rw[Jc];simp only[XY,simprocAttr,f8,f10,a1,a4,hnS,oq,d1,d2,d3,d4]
  obtain⟨S1,hS1⟩:∃S1,S1=((S.new fun t=> .cells t [ofL [], .int .i64 0,ofL [], .snil, .snil]).wr (up 0 nS) S.t fun u=> .cells u [ofL N, .int .i64 T.kind,ofL T.name,nv1,kv1]):=⟨_,rfl⟩
  have g1:Gr S S1:=by rw[hS1];exact(Gr.refl wS).nw hnS (Ja _) (Ja _)
  obtain⟨t1,r1⟩:∃t,S1.row (up 0 nS)= .cells t [ofL N, .int .i64 T.kind,ofL T.name,nv1,kv1]:=⟨_,by rw[hS1];simp only[XZ,simprocAttr,hnS];rfl⟩
  have m1:S1.row rm= .mob t (ms.map fun p=>(ofL p.1,V.agg p.2)):=by rw[g1.same rm hmn,hm]
  rw[<-hS1]
  have hnew:∀p∈ms.map (fun p=>(p.1,V.agg p.2)),N≠p.1:=fun p hp e=>by
   obtain⟨p0,hp0,rfl⟩:=List.mem_map.1 hp
   obtain⟨j,hj1,rfl⟩:=List.mem_iff_getElem.1 hp0
   have hj2:j<l.length:=by omega
   have e1:=(hms j hj1 hj2).1
   have e2:(l.map Prod.fst)[j]'(by simpa using hj2)=(l.map Prod.fst)[i]'(by simpa using hi):=by
    rw[List.getElem_map,List.getElem_map,<-e1,<-hN];exact e.symm
   exact List.pairwise_iff_getElem.1 hd j i (by simpa using hj2) (by simpa using hi) (by omega) e2
  have hmm:S1.row rm= .mob t ((ms.map fun p=>(p.1,V.agg p.2)).map fun p=>(ofL p.1,p.2)):=by rw[m1,List.map_map];rfl
  have hup:=qz (enc:=ofL) (e:= .one .s) hmm N (.agg [.int .i64 T.kind,ofL T.name,nv1,kv1]) (Q9 N _) rfl
  rw[Jj8 hnew]at hup
  simp only[XZ,simprocAttr,f3,r1,hup,hadd1,f10]
  refine⟨l.length-(i+1),by omega,(hI _ _ _).2 ⟨i+1,ms++[(N,[.int .i64 T.kind,ofL T.name,nv1,kv1])],by omega,by simp only[XZ,simprocAttr,f3],by simp only[XZ,simprocAttr,f8],by simp only[XZ,simprocAttr,f9],by simp only[XZ,simprocAttr], ?_, ?_,by simp[hml],fun j h h'=> ?_⟩⟩
  ·exact(hg.trans g1).wr q0 (by rw[m1];exact fun e=>by cases e) (by rw[m1];rfl) (Kx _)
  ·exact⟨_,by rw[Jl];simp;rfl⟩
  ·by_cases c:j<ms.length
   ·rw[List.getElem_append_left c]
    exact hms j c h'
   ·have:j=i:=by simp at h;omega
    subst this
    subst hml
    simp only[List.getElem_concat_length]
    exact⟨hN,by rw[<-hT];exact hc0⟩
 ·have hi':¬(i:Int)<l.length:=by omega
  simp only[XZ,simprocAttr,f3,f9,f10,hi']
  refine fin _ _ (fun r e=>hg.same r e) fun G=>⟨rm,rfl,q0,ms,⟨t,by rw[hm,List.map_map];rfl⟩,by omega,fun j h h'=>⟨(hms j h h').1,(hms j h h').2.gr hg⟩⟩
theorem JiN (has:Str->Bool)(p:Option Str)(f:Sg)(r:List Sg)(met:Nat):sigsS has p (f::r) met=if(!identB f.name||QI f.name)=true then(15,met)else if notLess p f.name=true then(6,met)else if 4<f.params.length then(18,met)else
  if(maysS has (f.params++[f.result]) 1 met).1≠0 then maysS has (f.params++[f.result]) 1 met else sigsS has (some f.name) r (maysS has (f.params++[f.result]) 1 met).2:=by rw[sigsS]
theorem LookAt.low {P:Pt->Prop}{st:St}{kr rm:Pt}{l:List (Str×Ty)}{met:Nat}(h:LookAt P st kr rm l met)(k:Nat):LookAt P {st with low:=k} kr rm l met:=⟨h.map.imp rfl fun r p _=>⟨p,rfl⟩,h.cell,h.sep,h.ne⟩
theorem _root_.Eva.LstAt.low {P:Pt->Prop}{st:St}{v:V}{l:List Ty}(h:LstAt (TyC P st) P st v 4 l)(k:Nat):LstAt (TyC P {st with low:=k}) P {st with low:=k} v 4 l:=h.imp (fun e x h=>h.imp fun r p _=>⟨p,rfl⟩) fun r p _=>⟨p,rfl⟩
set_option maxHeartbeats 4000000 in
theorem sigsC {P:Pt->Prop}{st:St}{kr rm:Pt}{l:List (Str×Ty)}{met:Nat}{v:V}{fs:List Sg}(hw:WF st)(hL:LookAt P st kr rm l met)(h:LstAt (SgC P st) P st v 6 fs)(hl:fs.length<=1000)(hmet:met<=400):
  Does (tabT tabD) YJ [.ptr kr 0,v] st fun v' st'=>Ch (fun r=>r=kr) st st'/\LookAt P st' kr rm l (sigsS (hasN l) none fs met).2/\v'= .int .i64 (sigsS (hasN l) none fs met).1:=by
 refine Yn tabM YG rfl hw fun K fin=> ?_
 have l1:=h.len
 simp only[J7,XY,simprocAttr]
 rw[Jc];simp only[XY,simprocAttr]
 rw[Jf,Jc];simp only[XY,simprocAttr,l1]
 obtain⟨I,hI⟩:∃I:Nat->Fr->St->Prop,∀j fr S,I j fr S<->∃(i mi:Nat) (p:Option Str),j+i=fs.length/\fr 0= .ptr kr 0/\fr 1=v/\fr 8=v/\fr 9= .int .i64 fs.length/\fr 10= .int .i64 i/\Ch (fun r=>r=kr) st S/\LookAt P S kr rm l mi/\mi<=400/\sigsS (hasN l) none fs met=sigsS (hasN l) p (fs.drop i) mi/\(p=if i=0 then none else(fs.map Sg.name)[i-1]?):=⟨_,fun _ _ _=>Iff.rfl⟩
 refine Jq I fs.length (by omega) ((hI _ _ _).2 ⟨0,met,none,by omega,by simp only[XZ,simprocAttr],by simp only[XZ,simprocAttr],by simp only[XZ,simprocAttr],by simp only[XZ,simprocAttr],by simp only[XZ,simprocAttr]<;>rfl,Ch.refl _ hw,hL,hmet,rfl,rfl⟩) ?_
 intro j fr S hIj
 obtain⟨i,mi,p,hj,f0,f1,f8,f9,f10,hC,hLi,hmi,hrec,hp⟩:=(hI _ _ _).1 hIj
 have kst:st.row kr≠ .none:=hL.krne
 by_cases hi:i<fs.length
 ·have hi':(i:Int)<fs.length:=by omega
  have hold:∀{S':St},Ch (fun r=>r=kr) st S'->LstAt (SgC P S') P S' v 6 fs:=fun c=>by
   have hk:∀r,P r->st.row r≠ .none->P r/\_=st.row r:=fun r p e=>⟨p,c.same r e (hL.sep r p)⟩
   exact h.imp (fun e x h=>h.imp hk) hk
  obtain⟨r,q,e,a1,a2,a3,a4,⟨pv,c,he,hps,hc⟩,a6,a7⟩:=(hold hC).elem hi
  obtain⟨es,sp,sp1,sp2⟩:=hps
  obtain⟨nv,kv,es1,rfl,x1,x2,x3,x4⟩:=hc.inv
  subst he
  have d1:=x1.cells
  have d2:=x1.sc
  have d3:=x2.cells
  have d4:=x2.sc
  have d5:=sp.cells
  have d6:=sp.sc
  have wS:=hC.wf
  obtain⟨nS,hnS⟩:∃n,S.nx=up 0 n:=⟨_,up0 _⟩
  have oq:=fun k=>nes (Js wS hnS a3 k)
  have hadd1:IntKind.i64.wrap ((i:Int)+1)=((i+1:Nat):Int):=by rw[Jp (by omega) (by omega)];rfl
  obtain⟨f,hf⟩:∃f,f=fs[i]:=⟨_,rfl⟩
  have hd:fs.drop i=f::fs.drop (i+1):=by rw[List.drop_eq_getElem_cons hi,<-hf]
  rw[hd,JiN]at hrec
  rw[<-hf]at a4 hc sp1 sp2 x4 x3 x1
  rw[Jc];simp only[XY,simprocAttr,f9,f10,hi']
  rw[Jf];simp only[XY,simprocAttr]
  rw[Jf];simp only[XY,simprocAttr]
  rw[Jc];simp only[XY,simprocAttr,f8,f10,a1,a4,hnS,oq,d1,d2,d3,d4,d5,d6]
  obtain⟨S1,hS1⟩:∃S1,S1=((S.new fun t=> .cells t [ofL [], .snil, .int .i64 0,ofL [], .snil, .snil]).wr (up 0 nS) S.t fun u=> .cells u [ofL f.name,pv, .int .i64 f.result.kind,ofL f.result.name,nv,kv]):=⟨_,rfl⟩
  have g1:Gr S S1:=by rw[hS1];exact(Gr.refl wS).nw hnS (Ja _) (Ja _)
  obtain⟨t1,r1⟩:∃t,S1.row (up 0 nS)= .cells t [ofL f.name,pv, .int .i64 f.result.kind,ofL f.result.name,nv,kv]:=⟨_,by rw[hS1];simp only[XZ,simprocAttr,hnS];rfl⟩
  rw[<-hS1]
  obtain⟨J,hJ⟩:∃J:Fr->St->Prop,∀fr S',J fr S'<->(Gr S1 S'/\fr 0= .ptr kr 0/\fr 1=v/\fr 6= .ptr (up 0 nS) 0/\fr 8=v/\fr 9= .int .i64 fs.length/\fr 10= .int .i64 i/\(!identB f.name||QI f.name)=false/\notLess p f.name=false/\f.params.length<=4):=⟨_,fun _ _=>Iff.rfl⟩
  have lp:=sp.len
  rw[sp1]at lp
  refine JJ J ?_ ?_
  ·simp only[XY,simprocAttr]
   rw[Jc];simp only[XY,simprocAttr,r1]
   refine Jb (identC f.name _ g1.wf) ?_
   rintro _ S2 ⟨g2,rfl⟩
   have G12:=g1.trans g2
   have r2:=g2.cells r1
   have C2:Ch (fun r=>r=kr) st S2:=hC.trans (Ch.of _ G12) fun r w=> .inl w
   have L2:=hLi.gr G12
   have bad:(!identB f.name||QI f.name)=true->sigsS (hasN l) none fs met=(15,mi):=fun hb=>by rw[hrec,if_pos hb]
   cases hid:identB f.name with
   | false=>
     simp only[XZ,simprocAttr]
     refine fin _ _ (fun r a b=>C2.same r a b) fun _=> ?_
     rw[bad (by rw[hid];rfl)]
     exact⟨L2,rfl⟩
   | true=>
     simp only[XY,simprocAttr,r2]
     refine Jb (kU f.name _ g2.wf) ?_
     rintro _ S3 ⟨g3,hv3⟩
     rw[show(identB f.name&&Lib.contains YD (32::(f.name++[32])))=QI f.name from rfl]at hv3
     subst hv3
     have G23:=g2.trans g3
     have G13:=g1.trans G23
     have r3:=g3.cells r2
     have C3:Ch (fun r=>r=kr) st S3:=hC.trans (Ch.of _ G13) fun r w=> .inl w
     have L3:=hLi.gr G13
     cases hbi:QI f.name with
     | true=>
       simp only[XZ,simprocAttr]
       refine fin _ _ (fun r a b=>C3.same r a b) fun _=> ?_
       rw[bad (by rw[hbi];simp)]
       exact⟨L3,rfl⟩
     | false=>
       have hnb:(!identB f.name||QI f.name)=false:=by rw[hid,hbi];rfl
       have hrec2:=hrec
       rw[if_neg (by rw[hnb];simp)]at hrec2
       by_cases h0:i=0
       ·have h0':¬(0:Int)<(i:Int):=by omega
        have hnl:notLess p f.name=false:=by rw[hp,if_pos h0];rfl
        by_cases h4:4<f.params.length
        ·have h4':(4:Int)<f.params.length:=by omega
         simp only[XZ,simprocAttr,h0',Jk,r3,lp,h4']
         refine fin _ _ (fun r a b=>C3.same r a b) fun _=> ?_
         rw[hrec2,if_neg (by rw[hnl];simp),if_pos h4]
         exact⟨L3,rfl⟩
        ·have h4':¬(4:Int)<f.params.length:=by omega
         simp only[XZ,simprocAttr,h0',Jk,r3,lp,h4']
         exact(hJ _ _).2 ⟨G23,by simp only[XZ,simprocAttr,f0],by simp only[XZ,simprocAttr,f1],by simp only[XZ,simprocAttr],by simp only[XZ,simprocAttr,f8],by simp only[XZ,simprocAttr,f9],by simp only[XZ,simprocAttr,f10],hnb,hnl,by omega⟩
       ·have h0':(0:Int)<(i:Int):=by omega
        have hsub:IntKind.i64.wrap ((i:Int)-1)=((i-1:Nat):Int):=by rw[Jp (by omega) (by omega)];omega
        have hi1:i-1<fs.length:=by omega
        obtain⟨r',q',e',b1,b2,b3,b4,⟨pv',c',hb,hb1,hb2⟩,b6,b7⟩:=(hold C3).elem hi1
        subst hb
        have b8:=b7 0 (by simp)
        have b8:ld1 (S3.row r') q'=some (ofL fs[i-1].name, .no):=b8
        have hp':p=some fs[i-1].name:=by rw[hp,if_neg h0,List.getElem?_map,List.getElem?_eq_getElem hi1];rfl
        cases hl2:Op.bytesLess fs[i-1].name f.name with
        | false=>
          simp only[XZ,simprocAttr,f1,h0',r3,hsub,b1,b8,QV,hl2,Jk]
          refine fin _ _ (fun r a b=>C3.same r a b) fun _=> ?_
          rw[hrec2,if_pos (by rw[hp',notLess,hl2];rfl)]
          exact⟨L3,rfl⟩
        | true=>
          have hnl:notLess p f.name=false:=by rw[hp',notLess,hl2];rfl
          by_cases h4:4<f.params.length
          ·have h4':(4:Int)<f.params.length:=by omega
           simp only[XZ,simprocAttr,f1,h0',r3,hsub,b1,b8,QV,hl2,Jk,lp,h4']
           refine fin _ _ (fun r a b=>C3.same r a b) fun _=> ?_
           rw[hrec2,if_neg (by rw[hnl];simp),if_pos h4]
           exact⟨L3,rfl⟩
          ·have h4':¬(4:Int)<f.params.length:=by omega
           simp only[XZ,simprocAttr,f1,h0',r3,hsub,b1,b8,QV,hl2,Jk,lp,h4']
           exact(hJ _ _).2 ⟨G23,by simp only[XZ,simprocAttr,f0],by simp only[XZ,simprocAttr,f1],by simp only[XZ,simprocAttr],by simp only[XZ,simprocAttr,f8],by simp only[XZ,simprocAttr,f9],by simp only[XZ,simprocAttr,f10],hnb,hnl,by omega⟩
  intro fr S3 hJf
  obtain⟨g13,f0,f1,f6,f8,f9,f10,hnb,hnl,h4⟩:=(hJ _ _).1 hJf
  rw[if_neg (by rw[hnb];simp),if_neg (by rw[hnl];simp),if_neg (by omega)]at hrec
  have G3:=g1.trans g13
  have C3:Ch (fun r=>r=kr) st S3:=hC.trans (Ch.of _ G3) fun r w=> .inl w
  have L3:=hLi.gr G3
  have r3:=g13.cells r1
  have sp3:=sp.gr G3
  have hes:okC es:=fun e he=>by
   obtain⟨j,hj,rfl⟩:=List.mem_iff_getElem.1 he
   exact(sp2 j hj (by omega)).ok
  have w3:=G3.wf
  rw[Jc];simp only[XY,simprocAttr,f0,f6,r3]
  refine Jn (JcJ (JB w3 S3.t) (sp3.low _) hes (by omega)) ?_
  rintro cv S4 g4 hcv
  have hcv:SlF S3 S4 cv 4 es:=hcv
  have r4:=g4.cells r3
  have w4:=g4.wf
  obtain⟨n4,hn4⟩:∃n,S4.nx=up 0 n:=⟨_,up0 _⟩
  simp only[XY,simprocAttr,f6,r4,hn4,d1,d2,d3,d4]
  obtain⟨ce,hce⟩:∃ce,ce=[V.int .i64 f.result.kind,ofL f.result.name,nv,kv]:=⟨_,rfl⟩
  rw[<-hce]at hc
  rw[<-hce]
  have gn:Gr S4 (S4.new fun t=> .cells t ce):=Gr.new w4 (by rw[hce];exact Ja _)
  have hone:SlAt (fun r=>r=up 0 n4) (S4.new fun t=> .cells t ce) (.slx (up 0 n4) 0 1 4 1) 4 [ce]:=by
   have:=YI (st:=S4) (z:=4) hc.four
   rwa [hn4]at this
  refine JjV (S0:=S3) (g4.trans gn) (hcv.gr gn) hone (fun e he=>by rw[List.mem_singleton.1 he];exact hc.ok) (by simp) (by simp;omega) ?_
  intro S5 v5 g5 h5 _
  have G5:=G3.trans g5
  have L5:=hLi.gr G5
  have C5:Ch (fun r=>r=kr) st S5:=hC.trans (Ch.of _ G5) fun r w=> .inl w
  have kr3:S3.row kr≠ .none:=L3.krne
  have L5':LookAt (fun r=>P r\/S3.row r= .none) S5 kr rm l mi:=
   ⟨L5.map.imp rfl fun r p _=>⟨.inl p,rfl⟩,L5.cell,fun r p=>by rcases p with p|p;exact L5.sep r p;exact fun e=>kr3 (by rw[<-e];exact p),L5.ne⟩
  have hx5:LstAt (TyC (fun r=>P r\/S3.row r= .none) S5) (fun r=>P r\/S3.row r= .none) S5 v5 4 (f.params++[f.result]):=by
   refine⟨es++[ce],h5.at.imp fun r p _=>⟨.inr p,rfl⟩,by simp[sp1],fun i a b=> ?_⟩
   have lift:∀{e t},TyC P S e t->TyC (fun r=>P r\/S3.row r= .none) S5 e t:=fun h=>h.imp fun r p e=>⟨.inl p,G5.same r e⟩
   by_cases hi:i<es.length
   ·rw[List.getElem_append_left hi,List.getElem_append_left (by omega)]
    exact lift (sp2 i hi (by omega))
   ·have:i=es.length:=by simp at a;omega
    subst this
    rw[List.getElem_append_right (Nat.le_refl _),List.getElem_append_right (by omega)]
    simp only[Nat.sub_self,List.getElem_singleton]
    exact lift hc
  simp only[XY,simprocAttr]
  refine QH (W:=fun r=>r=kr) C5.wf ((allC (JB C5.wf S5.t) (L5'.low S5.t) (hx5.low S5.t) (by simp;omega) hmi).mono fun v st' h=>⟨h.1,h.2⟩) ?_
  rintro _ S6 lo c6 ⟨L6,rfl⟩
  have cS6:Ch (fun r=>r=kr) st {S6 with low:=lo}:=C5.trans c6 fun r w=> .inl w
  have L6':LookAt P {S6 with low:=lo} kr rm l (maysS (hasN l) (f.params++[f.result]) 1 mi).2:=L5.ch c6 L6.cell
  have hmet2:=QW (hasN l) (f.params++[f.result]) 1 mi hmi
  by_cases he:(maysS (hasN l) (f.params++[f.result]) 1 mi).1=0
  ·rw[if_neg (by simpa using he)]at hrec
   simp only[XZ,simprocAttr,he,Jk,f0,f10,hadd1]
   exact⟨fs.length-(i+1),by omega,(hI _ _ _).2 ⟨i+1,_,some f.name,by omega,by simp only[XZ,simprocAttr,f0],by simp only[XZ,simprocAttr,f1],by simp only[XZ,simprocAttr,f8],by simp only[XZ,simprocAttr,f9],by simp only[XZ,simprocAttr],cS6,L6',hmet2.2 he,hrec,by rw[if_neg (by omega)];simp[hi,hf]⟩⟩
  ·rw[if_pos (by simpa using he)]at hrec
   simp only[XZ,simprocAttr,he,Jk]
   refine fin _ _ (fun r a b=>cS6.same r a b) fun _=> ?_
   rw[hrec];exact⟨L6',rfl⟩
 ·have hi':¬(i:Int)<fs.length:=by omega
  simp only[XZ,simprocAttr,f9,f10,hi']
  refine fin _ _ (fun r a b=>hC.same r a b) fun _=> ?_
  rw[hrec,List.drop_eq_nil_of_le (by omega),sigsS]
  exact⟨hLi,rfl⟩
theorem JiO (l:List Sg)(f:Sg):sgTys (l++[f])=sgTys l++(f.params++[f.result]):=by unfold sgTys;simp
theorem Jb2 :∀(l:List Sg),(∀f∈l,f.params.length<=100)->(sgTys l).length<=101*l.length
 |[],_=>Nat.zero_le _
 | f::l,h=>by
   have ih:=Jb2 l fun g hg=>h g (List.mem_cons_of_mem _ hg)
   have:=h f (by simp)
   have e:(sgTys (f::l)).length=f.params.length+1+(sgTys l).length:=by unfold sgTys;simp;omega
   rw[e,List.length_cons]
   omega
set_option maxHeartbeats 4000000 in
theorem everyC {P Q:Pt->Prop}{st:St}{e:List V}{s:Sch}(hw:WF st)(h:SchC P st e s)(hl1:s.types.length<=1000)(hl2:s.sigs.length<=1000)(hl3:∀f∈s.sigs,f.params.length<=100)(hQ:∀r,P r->Q r)(hN:∀r,st.row r= .none->Q r):
  Does (tabT tabD) Jac [.agg e] st fun v' st'=>Gr st st'/\LstAt (TyC Q st') Q st' v' 4 (everyS s):=by
 refine Jw tabM qf rfl hw fun K fin=> ?_
 obtain⟨n,hn0⟩:∃n,st.nx=up 0 n:=⟨_,up0 _⟩
 obtain⟨c,tv,sv,rfl,h1,h2,h3⟩:=h
 obtain⟨M,hM⟩:∃M,M=s.main:=⟨_,rfl⟩
 obtain⟨l,hl⟩:∃l,l=s.types:=⟨_,rfl⟩
 obtain⟨fs,hfs⟩:∃l,l=s.sigs:=⟨_,rfl⟩
 have hev:everyS s=l.map Prod.snd++[M]++sgTys fs:=by rw[hM,hl,hfs];rfl
 rw[hev]at fin
 rw[<-hM]at h1
 rw[<-hl]at h2 hl1
 rw[<-hfs]at h3 hl2 hl3
 obtain⟨nv,kv,es,rfl,x1,x2,x3,x4⟩:=h1.inv
 have h1':TyC P st [.int .i64 M.kind,ofL M.name,nv,kv] M:=h1
 have l1:=h2.len
 have l2:=h3.len
 simp only[Qo,XY,simprocAttr]
 rw[Jc];simp only[XY,simprocAttr,hn0,x1.sc,x2.sc,x1.cells,x2.cells,h2.sc.1,h3.sc.1]
 obtain⟨S0,hS0⟩:∃S0,S0=(st.new fun t=> .cells t [.int .i64 M.kind,ofL M.name,nv,kv,tv,sv]):=⟨_,rfl⟩
 have g0:Gr st S0:=by rw[hS0];exact Gr.new hw (Ja _)
 obtain⟨t0,r0⟩:∃t,S0.row (up 0 n)= .cells t [.int .i64 M.kind,ofL M.name,nv,kv,tv,sv]:=⟨_,by rw[hS0];simp only[XZ,simprocAttr,hn0];rfl⟩
 rw[<-hS0]
 clear hS0
 have hM0:TyC P S0 [.int .i64 M.kind,ofL M.name,nv,kv] M:=h1'.gr g0
 have h2:LstAt (NmC P S0) P S0 tv 5 l:=h2.imp (fun e x h=>h.imp fun r p e=>⟨p,g0.same r e⟩) fun r p e=>⟨p,g0.same r e⟩
 have h3:LstAt (SgC P S0) P S0 sv 6 fs:=h3.imp (fun e x h=>h.imp fun r p e=>⟨p,g0.same r e⟩) fun r p e=>⟨p,g0.same r e⟩
 have hN:∀r,S0.row r= .none->Q r:=fun r h=>hN r (Ch.fresh (Ch.of (fun _=>False) g0) h)
 have c1:=x1.cells
 have c2:=x1.sc
 have c3:=x2.cells
 have c4:=x2.sc
 rw[Jc];simp only[XY,simprocAttr]
 obtain⟨J,hJ⟩:∃J:Fr->St->Prop,∀fr S,J fr S<->(∃v,fr 1= .ptr (up 0 n) 0/\fr 3=v/\Gr S0 S/\TysF P S0 S v (l.map Prod.snd)):=⟨_,fun _ _=>Iff.rfl⟩
 refine JJ J ?_ ?_
 ·rw[Jc];simp only[XY,simprocAttr,r0,l1]
  obtain⟨I,hI⟩:∃I:Nat->Fr->St->Prop,∀j fr S,I j fr S<->∃(i:Nat) (v:V),j+i=l.length/\fr 1= .ptr (up 0 n) 0/\fr 3=v/\fr 9=tv/\fr 10= .int .i64 l.length/\fr 11= .int .i64 i/\Gr S0 S/\TysF P S0 S v ((l.take i).map Prod.snd):=⟨_,fun _ _ _=>Iff.rfl⟩
  refine Jq I l.length (by omega) ((hI _ _ _).2 ⟨0, .snil,by omega,by simp only[XZ,simprocAttr],by simp only[XZ,simprocAttr],by simp only[XZ,simprocAttr],by simp only[XZ,simprocAttr],by simp only[XZ,simprocAttr]<;>rfl,Gr.refl g0.wf,TysF.nil _ _ _⟩) ?_
  intro j fr S hIj
  obtain⟨i,v,hj,f1,f3,f9,f10,f11,hg,hv⟩:=(hI _ _ _).1 hIj
  by_cases hi:i<l.length
  ·have hi':(i:Int)<l.length:=by omega
   obtain⟨r,q,e,a1,a2,a3,a4,⟨c,he,hc⟩,a6,a7⟩:=h2.elem hi
   have hc0:=hc
   obtain⟨nv1,kv1,es1,rfl,y1,y2,y3,y4⟩:=hc.inv
   subst he
   rw[<-hg.same r a3]at a4
   have d1:=y1.cells
   have d2:=y1.sc
   have d3:=y2.cells
   have d4:=y2.sc
   have wS:=hg.wf
   obtain⟨nS,hnS⟩:∃n,S.nx=up 0 n:=⟨_,up0 _⟩
   have a3S:S.row r≠ .none:=by rw[hg.same r a3];exact a3
   have oq:=fun k=>nes (Js wS hnS a3S k)
   have hadd1:IntKind.i64.wrap ((i:Int)+1)=((i+1:Nat):Int):=by rw[Jp (by omega) (by omega)];rfl
   have htk:(l.take (i+1)).map Prod.snd=(l.take i).map Prod.snd++[l[i].2]:=by rw[List.take_succ_eq_append_getElem hi,List.map_append];rfl
   obtain⟨N,hN'⟩:∃N,N=l[i].1:=⟨_,rfl⟩
   obtain⟨T,hT⟩:∃T,T=l[i].2:=⟨_,rfl⟩
   rw[<-hT]at hc0 htk
   rw[<-hN',<-hT]at a4
   rw[Jc];simp only[XY,simprocAttr,f10,f11,hi']
   rw[Jf];simp only[XY,simprocAttr]
   rw[Jf];simp only[XY,simprocAttr]
   rw[Jc];simp only[XY,simprocAttr,f9,f11,a1,a4,hnS,oq,d1,d2,d3,d4]
   obtain⟨S1,hS1⟩:∃S1,S1=((S.new fun t=> .cells t [ofL [], .int .i64 0,ofL [], .snil, .snil]).wr (up 0 nS) S.t fun u=> .cells u [ofL N, .int .i64 T.kind,ofL T.name,nv1,kv1]):=⟨_,rfl⟩
   have g1:Gr S S1:=by rw[hS1];exact(Gr.refl wS).nw hnS (Ja _) (Ja _)
   obtain⟨t1,r1⟩:∃t,S1.row (up 0 nS)= .cells t [ofL N, .int .i64 T.kind,ofL T.name,nv1,kv1]:=⟨_,by rw[hS1];simp only[XZ,simprocAttr,hnS];rfl⟩
   rw[<-hS1]
   have w1:=g1.wf
   have hn1:S1.nx=up 1 nS:=by rw[hS1];simp only[XZ,simprocAttr,hnS]
   simp only[XY,simprocAttr,f3,r1,hn1,d1,d2,d3,d4]
   have gn:Gr S1 (S1.new fun t=> .cells t [.int .i64 T.kind,ofL T.name,nv1,kv1]):=Gr.new w1 (Ja _)
   refine YP (ts':=[T]) ((hg.trans g1).trans gn) ((hv.gr g1).gr gn) (Jap hn1 hc0.four) rfl (fun i a b=>by
    have:i=0:=by simpa using a
    subst this;exact hc0) (by simp) (by simp;omega) ?_
   intro S2 v2 g2 h5 rv kp
   rw[<-htk]at h5
   simp only[XZ,simprocAttr,f11,hadd1]
   exact⟨l.length-(i+1),by omega,(hI _ _ _).2 ⟨i+1,v2,by omega,by simp only[XZ,simprocAttr,f1],by simp only[XZ,simprocAttr],by simp only[XZ,simprocAttr,f9],by simp only[XZ,simprocAttr,f10],by simp only[XZ,simprocAttr],g2,h5⟩⟩
  ·have hi':¬(i:Int)<l.length:=by omega
   simp only[XZ,simprocAttr,f10,f11,hi']
   rw[List.take_of_length_le (by omega)]at hv
   exact(hJ _ _).2 ⟨v,by simp only[XZ,simprocAttr,f1],by simp only[XZ,simprocAttr,f3],hg,hv⟩
 intro fr S hJf
 obtain⟨v,f1,f3,hg,hv⟩:=(hJ _ _).1 hJf
 have r1:=hg.cells r0
 have wS:=hg.wf
 obtain⟨nS,hnS⟩:∃n,S.nx=up 0 n:=⟨_,up0 _⟩
 rw[Jc];simp only[XY,simprocAttr,f1,f3,r1,hnS,c1,c2,c3,c4]
 have gn:Gr S (S.new fun t=> .cells t [.int .i64 M.kind,ofL M.name,nv,kv]):=Gr.new wS (Ja _)
 refine YP (ts':=[M]) (hg.trans gn) (hv.gr gn) (Jap hnS hM0.four) rfl (fun i a b=>by
  have:i=0:=by simpa using a
  subst this;exact hM0) (by simp) (by simp;omega) ?_
 intro S2 v2 g2 h5 _ _
 have r2:=g2.cells r0
 simp only[XY,simprocAttr]
 obtain⟨J2,hJ2⟩:∃J:Fr->St->Prop,∀fr S,J fr S<->(∃v,fr 3=v/\Gr S0 S/\TysF P S0 S v (l.map Prod.snd++[M]++sgTys fs)):=⟨_,fun _ _=>Iff.rfl⟩
 refine JJ J2 ?_ ?_
 ·rw[Jc];simp only[XY,simprocAttr,f1,r2,l2]
  obtain⟨I,hI⟩:∃I:Nat->Fr->St->Prop,∀j fr S,I j fr S<->∃(i:Nat) (v:V),j+i=fs.length/\fr 3=v/\fr 27=sv/\fr 28= .int .i64 fs.length/\fr 29= .int .i64 i/\Gr S0 S/\TysF P S0 S v (l.map Prod.snd++[M]++sgTys (fs.take i)):=⟨_,fun _ _ _=>Iff.rfl⟩
  refine Jq I fs.length (by omega) ((hI _ _ _).2 ⟨0,v2,by omega,by simp only[XZ,simprocAttr],by simp only[XZ,simprocAttr],by simp only[XZ,simprocAttr],by simp only[XZ,simprocAttr]<;>rfl,g2,by rw[List.take_zero];unfold sgTys;simpa using h5⟩) ?_
  intro j fr S hIj
  obtain⟨i,v,hj,f3,f27,f28,f29,hg,hv⟩:=(hI _ _ _).1 hIj
  by_cases hi:i<fs.length
  ·have hi':(i:Int)<fs.length:=by omega
   obtain⟨r,q,e,a1,a2,a3,a4,⟨pv,c,he,⟨ep,p1,p2,p3⟩,hc⟩,a6,a7⟩:=h3.elem hi
   have hc0:=hc
   obtain⟨nv1,kv1,es1,rfl,y1,y2,y3,y4⟩:=hc.inv
   subst he
   rw[<-hg.same r a3]at a4
   have d1:=y1.cells
   have d2:=y1.sc
   have d3:=y2.cells
   have d4:=y2.sc
   have d5:=p1.cells
   have d6:=p1.sc
   have wS:=hg.wf
   obtain⟨nS,hnS⟩:∃n,S.nx=up 0 n:=⟨_,up0 _⟩
   have a3S:S.row r≠ .none:=by rw[hg.same r a3];exact a3
   have oq:=fun k=>nes (Js wS hnS a3S k)
   have hadd1:IntKind.i64.wrap ((i:Int)+1)=((i+1:Nat):Int):=by rw[Jp (by omega) (by omega)];rfl
   obtain⟨f,hf⟩:∃f,f=fs[i]:=⟨_,rfl⟩
   have htk:sgTys (fs.take (i+1))=sgTys (fs.take i)++(f.params++[f.result]):=by rw[List.take_succ_eq_append_getElem hi,JiO,hf]
   have hfl:=hl3 f (by rw[hf];exact List.getElem_mem hi)
   have htl:=Jb2 (fs.take i) fun g hg=>hl3 g (List.mem_of_mem_take hg)
   rw[List.length_take]at htl
   rw[<-hf]at a4 hc0 p2 p3
   rw[Jc];simp only[XY,simprocAttr,f28,f29,hi']
   rw[Jf];simp only[XY,simprocAttr]
   rw[Jf];simp only[XY,simprocAttr]
   rw[Jc];simp only[XY,simprocAttr,f27,f29,a1,a4,hnS,oq,d1,d2,d3,d4,d5,d6]
   obtain⟨S1,hS1⟩:∃S1,S1=((S.new fun t=> .cells t [ofL [], .snil, .int .i64 0,ofL [], .snil, .snil]).wr (up 0 nS) S.t fun u=> .cells u [ofL f.name,pv, .int .i64 f.result.kind,ofL f.result.name,nv1,kv1]):=⟨_,rfl⟩
   have g1:Gr S S1:=by rw[hS1];exact(Gr.refl wS).nw hnS (Ja _) (Ja _)
   obtain⟨t1,r1⟩:∃t,S1.row (up 0 nS)= .cells t [ofL f.name,pv, .int .i64 f.result.kind,ofL f.result.name,nv1,kv1]:=⟨_,by rw[hS1];simp only[XZ,simprocAttr,hnS];rfl⟩
   rw[<-hS1]
   have hvn:rowOf v≠some (up 0 nS):=fun e=>hv.alive e (nx0 wS hnS 0)
   simp only[XY,simprocAttr,f3,r1]
   refine YP (ts':=f.params) (hg.trans g1) (hv.gr g1) ((p1.gr hg).gr g1) p2 p3 (by omega) (by simp;omega) ?_
   intro S2 v2 g2 h5 rv kp
   have r2:S2.row (up 0 nS)= .cells t1 [ofL f.name,pv, .int .i64 f.result.kind,ofL f.result.name,nv1,kv1]:=by rw[kp _ (Je r1) hvn,r1]
   have w2:=g2.wf
   obtain⟨n2,hn2⟩:∃n,S2.nx=up 0 n:=⟨_,up0 _⟩
   simp only[XY,simprocAttr,r2,hn2,d1,d2,d3,d4]
   have gn:Gr S2 (S2.new fun t=> .cells t [.int .i64 f.result.kind,ofL f.result.name,nv1,kv1]):=Gr.new w2 (Ja _)
   refine YP (ts':=[f.result]) (g2.trans gn) (h5.gr gn) (Jap hn2 hc0.four) rfl (fun i a b=>by
    have:i=0:=by simpa using a
    subst this;exact hc0) (by simp) (by simp;omega) ?_
   intro S3 v3 g3 h6 _ _
   have h6:TysF P S0 S3 v3 (l.map Prod.snd++[M]++sgTys (fs.take (i+1))):=by rw[htk];simpa using h6
   simp only[XZ,simprocAttr,f29,hadd1]
   refine⟨Kr (v:=v) (w:= .ptr (up 0 nS) 2) (q:=up 0 nS) (by simp only[XZ,simprocAttr,f3]) (by simp only[XZ,simprocAttr]) rfl hvn, ?_⟩
   exact⟨fs.length-(i+1),by omega,(hI _ _ _).2 ⟨i+1,v3,by omega,by simp only[XZ,simprocAttr],by simp only[XZ,simprocAttr,f27],by simp only[XZ,simprocAttr,f28],by simp only[XZ,simprocAttr],g3,h6⟩⟩
  ·have hi':¬(i:Int)<fs.length:=by omega
   simp only[XZ,simprocAttr,f28,f29,hi']
   rw[List.take_of_length_le (by omega)]at hv
   exact(hJ2 _ _).2 ⟨v,by simp only[XZ,simprocAttr,f3],hg,hv⟩
 intro fr S hJf
 obtain⟨v,f3,hg,hv⟩:=(hJ2 _ _).1 hJf
 simp only[XZ,simprocAttr,f3]
 exact fin _ _ (fun r e=>(g0.trans hg).same r e) fun _=>hv.lst hg hQ hN
theorem Jmo (has:Str->Bool)(k:Int)(n:Str)(ns:List Str)(ks:List Ty)(deep:Nat):endsS has (.mk k n ns ks) deep=if 12<deep then false else if k=9 then has n else if k=8 then endsAny has ks (deep+1)else if k=7 then endsAll has ks (deep+1)else true:=by rw[endsS]
theorem JcK (has:Str->Bool)(deep:Nat):∀ks:List Ty,endsAny has ks deep=ks.any fun t=>endsS has t deep
 |[]=>by rw[endsAny];rfl
 |t::r=>by rw[endsAny,JcK has deep r];rfl
theorem JcL (has:Str->Bool)(deep:Nat):∀ks:List Ty,endsAll has ks deep= !(ks.any fun t=> !endsS has t deep)
 |[]=>by rw[endsAll];rfl
 |t::r=>by rw[endsAll,JcL has deep r];simp
def hasE (has:List (Str×Bool)):List (Str×V):=has.map fun p=>(p.1,V.bool p.2)
theorem JiP (n:Str):∀has:List (Str×Bool),ansL (.bool false) false (at_ n (hasE has))= .bool (gB n has)
 |[]=>rfl
 | (a,b)::r=>by
   have ih:=JiP n r
   unfold hasE at ih⊢
   rw[List.map_cons,at_,gB]
   by_cases e:n=a
   ·rw[if_pos e,if_pos e];rfl
   ·rw[if_neg e,if_neg e];exact ih
set_option maxHeartbeats 4000000 in
theorem endsC :∀(m:Nat) (ty:Ty),tsz ty<m->∀(P:Pt->Prop) (st:St) (rh:Pt) (has:List (Str×Bool)) (e:List V) (deep:Nat),WF st->MobAt st rh ofL (hasE has)->TyC P st e ty->deep<=13->cntT ty<1000000->
  Does (tabT tabD) Jgk [.agg e, .map rh, .int .i64 deep] st fun v st'=>Gr st st'/\v= .bool (endsS (fun x=>gB x has) ty deep)
 |0,_,h=>absurd h (by omega)
 | m+1, .mk k nm ns ks,hm=>by
   intro P st rh has e deep hw hmob hx hdeep hsz
   refine Jw tabM Jev rfl hw fun K fin=> ?_
   obtain⟨n,hn0⟩:∃n,st.nx=up 0 n:=⟨_,up0 _⟩
   obtain⟨nv,kv,es,rfl,x1,x2,x3,x4⟩:=hx.inv'
   have hS:=Jmo (fun x=>gB x has) k nm ns ks deep
   have hlen:ks.length<1000000:=by have h1:=Ja6 ks;rw[Yw]at hsz;omega
   have hx2:LstAt (TyC P st) P st kv 4 ks:=⟨es,x2,x3,x4⟩
   have c1:=x1.cells
   have c2:=x1.sc
   have c3:=x2.cells
   have c4:=x2.sc
   obtain⟨I,hI⟩:∃I:Fr->St->Prop,∀fr S,I fr S<->(Gr st S/\fr 3= .ptr (up 0 n) 0/\fr 4= .ptr (up 1 n) 0/\fr 5= .ptr (up 2 n) 0/\(∃t,S.row (up 0 n)= .cells t [.int .i64 k,ofL nm,nv,kv])/\(∃t,S.row (up 1 n)= .cells t [.map rh])/\(∃t,S.row (up 2 n)= .cells t [.int .i64 deep])):=⟨_,fun _ _=>Iff.rfl⟩
   simp only[Q4,XY,simprocAttr]
   refine Q8 I ?_ ?_
   ·simp only[XZ,simprocAttr,hn0,c1,c2,c3,c4]
    exact(hI _ _).2 ⟨((Gr.new hw (Ja _)).nn (Ja _)).nn (Ja _),by simp only[XZ,simprocAttr],by simp only[XZ,simprocAttr],by simp only[XZ,simprocAttr],⟨_,by simp only[XZ,simprocAttr,hn0];rfl⟩,⟨_,by simp only[XZ,simprocAttr,hn0];rfl⟩,⟨_,by simp only[XZ,simprocAttr,hn0];rfl⟩⟩
   intro fr S hIf
   obtain⟨hg,f3,f4,f5,⟨t0,r0⟩,⟨t1,r1⟩,⟨t2,r2⟩⟩:=(hI _ _).1 hIf
   by_cases hd:12<deep
   ·have hd':(12:Int)<(deep:Int):=by omega
    rw[Jf,Jc];simp only[XZ,simprocAttr,f5,r2,hd']
    refine fin _ _ (fun r e=>hg.same r e) fun _=> ?_
    rw[hS,if_pos hd]
   have hd':¬(12:Int)<(deep:Int):=by omega
   rw[if_neg hd]at hS
   rw[Jf,Jc];simp only[XY,simprocAttr,f5,r2,hd']
   have wS:=hg.wf
   obtain⟨nS,hnS⟩:∃n,S.nx=up 0 n:=⟨_,up0 _⟩
   rw[Jc];simp only[XY,simprocAttr,f4,f5,hnS]
   obtain⟨S1,hS1⟩:∃S1,S1=((S.new fun t=> .cells t [.fnil]).wr (up 0 nS) S.t fun u=> .cells u [.fn ki [] [.ptr (up 1 n) 0, .ptr (up 2 n) 0]]):=⟨_,rfl⟩
   have g1:Gr S S1:=by rw[hS1];exact(Gr.refl wS).nw hnS (Ja _) (Ja _)
   obtain⟨t3,r3⟩:∃t,S1.row (up 0 nS)= .cells t [.fn ki [] [.ptr (up 1 n) 0, .ptr (up 2 n) 0]]:=⟨_,by rw[hS1];simp only[XZ,simprocAttr,hnS];rfl⟩
   rw[<-hS1]
   have G1:=hg.trans g1
   have r0:=g1.cells r0
   have r1:=g1.cells r1
   have r2:=g1.cells r2
   have hx3:LstAt (TyC P S1) P S1 kv 4 ks:=hx2.imp (fun e x h=>h.gr G1) fun r p e=>⟨p,G1.same r e⟩
   have clo:∀(i:Nat) (hi:i<ks.length) (S':St) (e:List V),Gr S1 S'->TyC P S' e ks[i]->Does (tabT tabD) ki ([]++[.agg e]++[.ptr (up 1 n) 0, .ptr (up 2 n) 0]) S' fun v S''=>Gr S' S''/\v= .bool (endsS (fun x=>gB x has) ks[i] (deep+1)):=fun i hi S' e g' hx'=>by
    have h1:=kq hi
    have h2:=Yw k nm ns ks
    have w':=g'.wf
    obtain⟨n',hn'⟩:∃n,S'.nx=up 0 n:=⟨_,up0 _⟩
    have e4:=hx'.four
    have eok:=hx'.ok
    have etk:e.take 4=e:=by rw[<-e4,List.take_length]
    refine Jw tabM Jc0 rfl w' fun K fin=> ?_
    have hadd:IntKind.i64.wrap ((deep:Int)+1)=((deep+1:Nat):Int):=by rw[Jp (by omega) (by omega)];rfl
    have b1:=g'.cells r1
    have b2:=g'.cells r2
    have gb:Gr S' (S'.new fun t=> .cells t e):=Gr.new w' (Ja _)
    have b1:=gb.cells b1
    have b2:=gb.cells b2
    simp only[QB,XZ,simprocAttr,hn',e4,eok,etk,b1,b2,hadd]
    refine Jb (endsC m ks[i] (by have:=YN (k:=k) (n:=nm) (ns:=ns) hi;omega) P _ rh has e (deep+1) gb.wf ?_ (hx'.gr gb) (by omega) (by omega)) ?_
    ·exact hmob.of (by rw[gb.same rh (by rw[g'.same rh (by rw[G1.same rh hmob.ne];exact hmob.ne),G1.same rh hmob.ne];exact hmob.ne),g'.same rh (by rw[G1.same rh hmob.ne];exact hmob.ne),G1.same rh hmob.ne])
    rintro _ S2 ⟨g2,rfl⟩
    simp only[XZ,simprocAttr]
    exact fin _ _ (fun r e=>(gb.trans g2).same r e) fun _=>rfl
   by_cases k9:k=9
   ·have hmS:MobAt S1 rh ofL (hasE has):=hmob.of (G1.same rh hmob.ne)
    have hlk:=Yg (enc:=ofL) (e:= .one .s) hmS (.bool false) false nm (Q9 nm _) rfl
    rw[JiP]at hlk
    rw[if_pos k9]at hS
    simp only[XZ,simprocAttr,f3,f4,r0,r1,k9,hlk]
    refine fin _ _ (fun r e=>G1.same r e) fun _=> ?_
    rw[hS]
   rw[if_neg k9]at hS
   by_cases k8:k=8
   ·rw[if_pos k8,JcK]at hS
    simp only[XZ,simprocAttr,f3,r0,r3,k9,k8]
    refine Jb (Q1 (fa:=[]) (fb:=[.ptr (up 1 n) 0, .ptr (up 2 n) 0]) (fun t=>endsS (fun x=>gB x has) t (deep+1)) G1.wf hx3 hlen clo) ?_
    rintro _ S2 ⟨g2,rfl⟩
    simp only[XZ,simprocAttr]
    refine fin _ _ (fun r e=>(G1.trans g2).same r e) fun _=> ?_
    rw[hS]
   rw[if_neg k8]at hS
   by_cases k7:k=7
   ·rw[if_pos k7,JcL]at hS
    simp only[XZ,simprocAttr,f3,r0,k9,k8,k7]
    refine Jb (Q1 (fa:=[]) (fb:=[.ptr (up 0 nS) 0]) (fun t=> !endsS (fun x=>gB x has) t (deep+1)) G1.wf hx3 hlen fun i hi S' e g' hx'=> ?_) ?_
    ·refine Jw tabM Jc1 rfl g'.wf fun K fin=> ?_
     obtain⟨n',hn'⟩:∃n,S'.nx=up 0 n:=⟨_,up0 _⟩
     have e4:=hx'.four
     have eok:=hx'.ok
     have etk:e.take 4=e:=by rw[<-e4,List.take_length]
     have gb:Gr S' (S'.new fun t=> .cells t e):=Gr.new g'.wf (Ja _)
     have b3:=gb.cells (g'.cells r3)
     simp only[QC,XZ,simprocAttr,hn',e4,eok,etk,b3]
     refine Jb (by simpa using clo i hi _ e (g'.trans gb) (hx'.gr gb)) ?_
     rintro _ S2 ⟨g2,rfl⟩
     simp only[XZ,simprocAttr]
     exact fin _ _ (fun r e=>(gb.trans g2).same r e) fun _=>rfl
    rintro _ S2 ⟨g2,rfl⟩
    simp only[XZ,simprocAttr]
    refine fin _ _ (fun r e=>(G1.trans g2).same r e) fun _=> ?_
    rw[hS]
   rw[if_neg k7]at hS
   simp only[XZ,simprocAttr,f3,r0,k9,k8,k7]
   refine fin _ _ (fun r e=>G1.same r e) fun _=> ?_
   rw[hS]
end Go.Proofs.Ytcahllomeaimeaa
