/- Slices copied: what Clone answers. Slices copied: a row of one's own. The parts of a text, by the document. The parser: a node is put at the end of the whole. An action is read: up to where it takes its place among the others. The parser: a call takes its place. The parser: an action that is known, in a parser that is known. The parser goes through the parts of a text. Flow: a call is noted. Fl -/
import Derived.Test.YtdapogfnhpbanaaGreatDoorRel
set_option linter.unusedVariables false
set_option linter.unusedSimpArgs false
set_option linter.unusedSectionVars false
set_option maxRecDepth 100000
namespace Go.Proofs.YtdapogfnhpbanaaGreatDoor
open Eva Go.RowKit
theorem Jha {P:Pt->Prop}{st:St}{v:V}{es:List (List V)}(hw:WF st)(h:SlAt P st v 9 es)(hok:okC es)(hn:es.length<2^20):
  Does (tabT tabD) qe [v] st fun v' st'=>Gr st st'/\SlF st st' v' 9 es:=by
 refine Does.gr tabM hw (Ym jT rfl ?_)
 obtain⟨n,hn0⟩:∃n,st.nx=up 0 n:=⟨_,up0 _⟩
 have hold:=fun r (h:st.row r≠ .none)=>JeL hw hn0 h
 rcases h.2 with⟨rfl,rfl⟩|⟨r,o,hp,hv,l,hl,h1,h2⟩
 ·have e1:eqV (.one .l) false .snil .snil=some (.bool true, .no):=rfl
  simp only[JF,XZ,simprocAttr,e1]
  exact⟨fun _ _=>trivial,SlF.nil _ _ _⟩
 ·have e1:eqV (.one .l) false v .snil=some (.bool false, .no):=by rcases hv with rfl|⟨c,_,rfl⟩<;>rfl
  have h':SlAt P (st.new fun t=> .cells t []) v 9 es:=h.imp fun r p e=>⟨p,QH hw _ e⟩
  have r0:=JN st fun t=> .cells t []
  have ha:appV (st.new fun t=> .cells t []) 9 (.slx st.nx 0 0 9 0) v=if 0<es.length then some (.sl (st.new fun t=> .cells t []).nx 0 es.length 9, .new fun u=> .cells u es.flatten)else some (.slx st.nx 0 0 9 0, .no):=by
   by_cases h0:0<es.length
   ·rw[if_pos h0];exact JaQ h' hok hn h0 r0
   ·rw[if_neg h0]
    have:es=[]:=List.length_eq_zero_iff.1 (by omega)
    subst this
    exact qF h'
  rw[hn0]at ha
  by_cases h0:0<es.length
  ·simp only[h0]at ha
   simp only[JF,XZ,simprocAttr,e1,hn0,jH,ha]
   refine⟨fun r hr=>by simp only[hold r hr,if_false],⟨h.1, .inr ⟨up 1 n,(st.new fun t=> .cells t []).t,nx0 hw hn0 1,by simp only[XZ,simprocAttr,hn0], .inl rfl⟩⟩⟩
  ·simp only[h0]at ha
   simp only[JF,XZ,simprocAttr,e1,hn0,jH,ha]
   have:es=[]:=List.length_eq_zero_iff.1 (by omega)
   subst this
   exact⟨fun r hr=>by simp only[hold r hr,if_false],⟨h.1, .inr ⟨up 0 n,st.t,nx0 hw hn0 0,by simp only[XZ,simprocAttr,hn0,List.flatten_nil], .inr rfl⟩⟩⟩
theorem Jbr {P:Pt->Prop}{st:St}{v:V}{es:List (List V)}(hw:WF st)(h:SlAt P st v 2 es)(hok:okC es)(hn:es.length<2^20):
  Does (tabT tabD) je [v] st fun v' st'=>Gr st st'/\SlF st st' v' 2 es:=by
 refine Does.gr tabM hw (Ym kO rfl ?_)
 obtain⟨n,hn0⟩:∃n,st.nx=up 0 n:=⟨_,up0 _⟩
 have hold:=fun r (h:st.row r≠ .none)=>JeL hw hn0 h
 rcases h.2 with⟨rfl,rfl⟩|⟨r,o,hp,hv,l,hl,h1,h2⟩
 ·have e1:eqV (.one .l) false .snil .snil=some (.bool true, .no):=rfl
  simp only[Jx,XZ,simprocAttr,e1]
  exact⟨fun _ _=>trivial,SlF.nil _ _ _⟩
 ·have e1:eqV (.one .l) false v .snil=some (.bool false, .no):=by rcases hv with rfl|⟨c,_,rfl⟩<;>rfl
  have h':SlAt P (st.new fun t=> .cells t []) v 2 es:=h.imp fun r p e=>⟨p,QH hw _ e⟩
  have r0:=JN st fun t=> .cells t []
  have ha:appV (st.new fun t=> .cells t []) 2 (.slx st.nx 0 0 2 0) v=if 0<es.length then some (.sl (st.new fun t=> .cells t []).nx 0 es.length 2, .new fun u=> .cells u es.flatten)else some (.slx st.nx 0 0 2 0, .no):=by
   by_cases h0:0<es.length
   ·rw[if_pos h0];exact JaQ h' hok hn h0 r0
   ·rw[if_neg h0]
    have:es=[]:=List.length_eq_zero_iff.1 (by omega)
    subst this
    exact qF h'
  rw[hn0]at ha
  by_cases h0:0<es.length
  ·simp only[h0]at ha
   simp only[Jx,XZ,simprocAttr,e1,hn0,jH,ha]
   refine⟨fun r hr=>by simp only[hold r hr,if_false],⟨h.1, .inr ⟨up 1 n,(st.new fun t=> .cells t []).t,nx0 hw hn0 1,by simp only[XZ,simprocAttr,hn0], .inl rfl⟩⟩⟩
  ·simp only[h0]at ha
   simp only[Jx,XZ,simprocAttr,e1,hn0,jH,ha]
   have:es=[]:=List.length_eq_zero_iff.1 (by omega)
   subst this
   exact⟨fun r hr=>by simp only[hold r hr,if_false],⟨h.1, .inr ⟨up 0 n,st.t,nx0 hw hn0 0,by simp only[XZ,simprocAttr,hn0,List.flatten_nil], .inr rfl⟩⟩⟩
theorem Jhb {P:Pt->Prop}{st:St}{v:V}{es:List (List V)}(hw:WF st)(h:SlAt P st v 2 es)(hok:okC es)(hn:es.length<2^20):
  Does (tabT tabD) qd [v] st fun v' st'=>Gr st st'/\SlF st st' v' 2 es:=by
 refine Does.gr tabM hw (Ym jS rfl ?_)
 obtain⟨n,hn0⟩:∃n,st.nx=up 0 n:=⟨_,up0 _⟩
 have hold:=fun r (h:st.row r≠ .none)=>JeL hw hn0 h
 rcases h.2 with⟨rfl,rfl⟩|⟨r,o,hp,hv,l,hl,h1,h2⟩
 ·have e1:eqV (.one .l) false .snil .snil=some (.bool true, .no):=rfl
  simp only[JG,XZ,simprocAttr,e1]
  exact⟨fun _ _=>trivial,SlF.nil _ _ _⟩
 ·have e1:eqV (.one .l) false v .snil=some (.bool false, .no):=by rcases hv with rfl|⟨c,_,rfl⟩<;>rfl
  have h':SlAt P (st.new fun t=> .cells t []) v 2 es:=h.imp fun r p e=>⟨p,QH hw _ e⟩
  have r0:=JN st fun t=> .cells t []
  have ha:appV (st.new fun t=> .cells t []) 2 (.slx st.nx 0 0 2 0) v=if 0<es.length then some (.sl (st.new fun t=> .cells t []).nx 0 es.length 2, .new fun u=> .cells u es.flatten)else some (.slx st.nx 0 0 2 0, .no):=by
   by_cases h0:0<es.length
   ·rw[if_pos h0];exact JaQ h' hok hn h0 r0
   ·rw[if_neg h0]
    have:es=[]:=List.length_eq_zero_iff.1 (by omega)
    subst this
    exact qF h'
  rw[hn0]at ha
  by_cases h0:0<es.length
  ·simp only[h0]at ha
   simp only[JG,XZ,simprocAttr,e1,hn0,jH,ha]
   refine⟨fun r hr=>by simp only[hold r hr,if_false],⟨h.1, .inr ⟨up 1 n,(st.new fun t=> .cells t []).t,nx0 hw hn0 1,by simp only[XZ,simprocAttr,hn0], .inl rfl⟩⟩⟩
  ·simp only[h0]at ha
   simp only[JG,XZ,simprocAttr,e1,hn0,jH,ha]
   have:es=[]:=List.length_eq_zero_iff.1 (by omega)
   subst this
   exact⟨fun r hr=>by simp only[hold r hr,if_false],⟨h.1, .inr ⟨up 0 n,st.t,nx0 hw hn0 0,by simp only[XZ,simprocAttr,hn0,List.flatten_nil], .inr rfl⟩⟩⟩
set_option maxHeartbeats 4000000 in
theorem endC (l:List UInt8)(i0:Nat)(st:St)(hl:l.length<=100000)(h00:i0<=l.length):Does (tabT tabD) Jbs [ofL l, .int .i64 i0] st fun v st'=>v=endV (endS (l.drop i0) false 0) i0/\st=st':=by
 refine Ym Ja3 rfl ?_
 simp only[KZ,XZ,simprocAttr]
 refine Yw (fun k fr st'=>∃(i b:Nat) (q:Bool),k+i=l.length/\i0<=i/\b<=i/\endS (l.drop i0) false 0=(endS (l.drop i) q b).map (·+(i-i0))/\fr 0=ofL l/\fr 1= .int .i64 i/\fr 5= .bool q/\fr 6= .int .i64 b/\st=st') (l.length-i0) (by omega) ?_ ?_
 ·refine⟨i0,0,false,by omega,Nat.le_refl _,Nat.zero_le _,by simp, ?_, ?_, ?_, ?_,rfl⟩
  all_goals simp only[XZ,simprocAttr]
  all_goals rfl
 ·rintro k fr st1 ⟨i,b,q,hk,hi0',hb,he,h0,h1,h5,h6,rfl⟩
  by_cases hlt:i<l.length
  ·have hlt':(i:Int)<l.length:=by omega
   have hi0:(0:Int)<=(i:Int)/\(i:Int)<l.length:=by omega
   have s34:byteAt l i=34<->l[i]=34:=kW hlt 34
   have s92:byteAt l i=92<->l[i]=92:=kW hlt 92
   have s125:byteAt l i=125<->l[i]=125:=kW hlt 125
   have e2:=JkK hlt q b
   have hadd:IntKind.i64.wrap ((i:Int)+1)=(i:Int)+1:=QL (by omega) (by omega)
   have next:∀(q':Bool) (b':Nat) (S:Int),q'=stQ q b l[i]->b'=stB q b l[i]->S=(b':Int)->b'<=i+1->¬(q=false/\l[i]=125/\l[i+1]? =some 125)->
     ∃j,j<k/\∃(i_1 b:Nat) (q:Bool),j+i_1=l.length/\i0<=i_1/\b<=i_1/\endS (l.drop i0) false 0=(endS (l.drop i_1) q b).map (·+(i_1-i0))/\V.int .i64 ((i:Int)+1)=V.int .i64 i_1/\V.bool q'=V.bool q/\V.int .i64 S=V.int .i64 b:=by
    intro q' b' S h1 h2 hS h3 hne
    refine⟨k-1,by omega,i+1,b',q',by omega,by omega,h3, ?_,rfl,rfl,by rw[hS]⟩
    rw[he,e2,if_neg hne,h1,h2]
    cases endS (l.drop (i+1)) (stQ q b l[i]) (stB q b l[i])with
    |none=>rfl
    |some x=>simp;omega
   cases q with
   | true=>
     have hne:¬(true=false/\l[i]=125/\l[i+1]? =some 125):=by rintro⟨h,_⟩;cases h
     by_cases h92:l[i]=92
     ·have b92:=s92.2 h92
      simp only[XZ,simprocAttr,h0,h1,h5,h6,hlt',hi0,b92,hadd]
      exact next true (b+1) _ (by rw[h92];rfl) (by rw[h92];rfl) (QL (by omega) (by omega)) (by omega) hne
     ·have b92:¬byteAt l i=92:=fun e=>h92 (s92.1 e)
      by_cases h34:l[i]=34
      ·have b34:=s34.2 h34
       have htm:(b:Int).tmod 2=((b%2:Nat):Int):=by rw[Int.tmod_eq_emod_of_nonneg (by omega)];rfl
       simp only[XZ,simprocAttr,h0,h1,h5,h6,hlt',hi0,b92,b34,hadd]
       refine next _ 0 0 ?_ (by rw[h34];rfl) rfl (Nat.zero_le _) hne
       have hq:stQ true b 34=(b%2==1):=by simp[stQ]
       rw[h34,htm,hq,Bool.eq_iff_iff,decide_eq_true_eq,beq_iff_eq]
       omega
      ·have b34:¬byteAt l i=34:=fun e=>h34 (s34.1 e)
       simp only[XZ,simprocAttr,h0,h1,h5,h6,hlt',hi0,b92,b34,hadd]
       exact next true 0 0 (by simp[stQ,h34]) (by simp[stB,h92]) rfl (Nat.zero_le _) hne
   | false=>
     by_cases h125:l[i]=125
     ·have b125:=s125.2 h125
      by_cases hn:i+1<l.length
      ·have hn':(i:Int)+1<l.length:=by omega
       simp only[XZ,simprocAttr,h0,h1,h5,h6,hlt',hi0,b125,hadd,hn']
       have hnat:((i:Int)+1).toNat=i+1:=by omega
       refine⟨by omega, ?_⟩
       have s125n:byteAt l (i+1)=125<->l[i+1]=125:=kW hn 125
       rw[hnat]
       by_cases hnx:l[i+1]=125
       ·have bnx:=s125n.2 hnx
        simp only[XZ,simprocAttr,h0,h1,h5,h6,bnx]
        rw[he,e2,if_pos ⟨rfl,h125,by rw[List.getElem?_eq_getElem hn,hnx]⟩]
        simp[endV];omega
       ·have bnx:¬byteAt l (i+1)=125:=fun e=>hnx (s125n.1 e)
        simp only[XZ,simprocAttr,h0,h1,h5,h6,bnx,b125,hadd]
        refine next false 0 0 (by rw[h125];rfl) (by simp[stB]) rfl (Nat.zero_le _) ?_
        rintro⟨_,_,h⟩
        rw[List.getElem?_eq_getElem hn]at h
        injection h with h
        exact hnx h
      ·have hn':¬(i:Int)+1<l.length:=by omega
       simp only[XZ,simprocAttr,h0,h1,h5,h6,hlt',hi0,b125,hadd,hn']
       refine next false 0 0 (by rw[h125];rfl) (by simp[stB]) rfl (Nat.zero_le _) ?_
       rintro⟨_,_,h⟩
       rw[List.getElem?_eq_none (by omega)]at h
       cases h
     ·have b125:¬byteAt l i=125:=fun e=>h125 (s125.1 e)
      simp only[XZ,simprocAttr,h0,h1,h5,h6,hlt',hi0,b125,hadd]
      refine next _ 0 0 ?_ (by simp[stB]) rfl (Nat.zero_le _) (fun h=>h125 h.2.1)
      simp only[stQ,Bool.false_eq_true,if_false,s34]
      rw[Bool.eq_iff_iff];simp
  ·have hlt':¬(i:Int)<l.length:=by omega
   simp only[XZ,simprocAttr,h0,h1,h5,h6,hlt']
   rw[he,JkL (by omega)]
   rfl
set_option maxHeartbeats 4000000 in
theorem splitC (l:List UInt8)(st:St)(hw:WF st):Does (tabT tabD) JaB [ofL l] st (SplitQ l st):=by
 refine Ym qL rfl ?_
 by_cases hl:1500<l.length
 ·have hl':(1500:Int)<l.length:=by omega
  simp only[Ke,XZ,simprocAttr,hl']
  exact⟨Gr.refl hw, .snil,by simp[splitR,hl],by simp only[splitR,if_pos hl];exact RecsAt.nil _ _ _⟩
 have hl':¬(1500:Int)<l.length:=by omega
 simp only[Ke,XZ,simprocAttr,hl']
 refine Yw (fun k fr st'=>∃(i at_:Nat) (ps:List Prt),k+i=l.length/\at_<=i/\ps.length<=at_/\RecsAt st st' (fr 4) 3 ps.length (cellsP ps)/\splitS l 0=(splitS l at_).map (ps++·)/\openAt (l.drop at_)=(openAt (l.drop i)).map (·+(i-at_))/\fr 0=ofL l/\fr 5= .int .i64 i/\fr 6= .int .i64 at_/\Gr st st') l.length (by omega) ?_ ?_
 ·refine⟨0,0,[],rfl,Nat.le_refl _,Nat.le_refl _, ?_, ?_, ?_, ?_, ?_, ?_,Gr.refl hw⟩
  ·simp only[XZ,simprocAttr]
   exact RecsAt.nil _ _ _
  ·simp
  ·simp
  all_goals simp only[XZ,simprocAttr]
  all_goals rfl
 ·rintro k fr st1 ⟨i,at_,ps,hk,hai,hpa,hps,hsp,hop,h0,h5,h6,hg⟩
  obtain⟨u,hu⟩:∃u,fr 4=u:=⟨_,rfl⟩
  rw[hu]at hps
  by_cases hlt:i<l.length
  ·have hlt':(i:Int)<l.length:=by omega
   have hadd:IntKind.i64.wrap ((i:Int)+1)=((i+1:Nat):Int):=QL (by omega) (by omega)
   have hod:=JgL hlt
   have more:¬(l[i]=123/\l[i+1]? =some 123)->∃j,j<k/\∃(i_1 a_1:Nat) (ps:List Prt),j+i_1=l.length/\a_1<=i_1/\ps.length<=a_1/\RecsAt st st1 u 3 ps.length (cellsP ps)/\splitS l 0=(splitS l a_1).map (ps++·)/\openAt (l.drop a_1)=(openAt (l.drop i_1)).map (·+(i_1-a_1))/\V.int .i64 ((i+1:Nat):Int)=V.int .i64 i_1/\V.int .i64 (at_:Nat)=V.int .i64 a_1/\Gr st st1:=by
    intro hne
    refine⟨k-1,by omega,i+1,at_,ps,by omega,by omega,hpa,hps,hsp, ?_,rfl,rfl,hg⟩
    rw[hop,hod,if_neg hne]
    cases openAt (l.drop (i+1))with
    |none=>rfl
    |some x=>simp;omega
   by_cases hn:i+1<l.length
   ·have hn':¬(l.length:Int)<=((i+1:Nat):Int):=by omega
    have hi0:(0:Int)<=(i:Int)/\(i:Int)<l.length:=by omega
    have hi1:(0:Int)<=((i+1:Nat):Int)/\((i+1:Nat):Int)<l.length:=by omega
    have s0:byteAt l i=123<->l[i]? =some 123:=Jbj 123 hlt
    have s1:byteAt l (i+1)=123<->l[i+1]? =some 123:=Jbj 123 hn
    rw[List.getElem?_eq_getElem hlt]at s0
    by_cases b0:byteAt l i=123
    ·by_cases b1:byteAt l (i+1)=123
     ·have hyes:l[i]=123/\l[i+1]? =some 123:=⟨by have:=s0.1 b0;injection this,s1.1 b1⟩
      have hoi:openAt (l.drop i)=some 0:=by rw[hod,if_pos hyes]
      rw[Jq]
      simp only[XY,simprocAttr,Jk,h0,h5,h6,hlt',hadd,hn',hi0,hi1,b0]
      rw[Jq]
      simp only[XY,simprocAttr,Jk,h0,h5,h6,hlt',hadd,hn',hi0,hi1,b0,b1]
      refine JeH (fun fr st2=>∃u ps',fr 4=u/\RecsAt st st2 u 3 ps'.length (cellsP ps')/\splitS l 0=(splitS l i).map (ps'++·)/\ps'.length<=i/\fr 0=ofL l/\fr 5= .int .i64 i/\Gr st st2) ?_ ?_
      ·by_cases hia:at_<i
       ·have hia':(at_:Int)<i:=by omega
        obtain⟨v',e,a1,a2,a3⟩:=JaV hg hps (false,(l.drop at_).take (i-at_),at_) (by omega)
        simp only[XY,simprocAttr,Jk,h0,h5,h6,hu,hia',Jct,JaU,JjQ,Jne,jH]
        refine⟨by omega,Jmv a1 ?_⟩
        simp only[XY,simprocAttr,Jk,h0,h5,h6]
        refine⟨v',_,rfl,a2, ?_,by simp;omega,a3⟩
        have hm:openAt (l.drop at_)=some (i-at_-1+1):=by rw[hop,hoi];simp;omega
        rw[hsp,kX (show at_<l.length by omega),hm]
        simp only
        rw[show at_+(i-at_-1+1)=i by omega,show i-at_-1+1=i-at_ by omega,Option.map_map]
        congr 1
        funext x
        simp
       ·have hia':¬(at_:Int)<i:=by omega
        simp only[XY,simprocAttr,Jk,h0,h5,h6,hu,hia']
        obtain rfl:at_=i:=by omega
        exact⟨u,ps,rfl,hps,hsp,hpa,hg⟩
      ·rintro fr2 st2 ⟨u,ps',f4,hps',hsp',hpl,f0,f5,hg2⟩
       have ha2:IntKind.i64.wrap ((i:Int)+2)=((i+2:Nat):Int):=by rw[QL (by omega) (by omega)];omega
       simp only[XZ,simprocAttr,f0,f5,ha2]
       refine Ju (endC _ _ _ (by omega) (by omega)) ?_
       rintro _ _ ⟨rfl,rfl⟩
       have hs1:=kX hlt
       rw[hoi]at hs1
       simp only at hs1
       cases he:endS (l.drop (i+2)) false 0 with
       | none=>
         rw[he]at hs1
         have hm1:(-1:Int)<0:=by decide
         simp only[XZ,simprocAttr,endV,hm1]
         have hs0:splitS l 0=none:=by rw[hsp',hs1];rfl
         exact⟨hg2, .snil,by simp[splitR,hl,hs0],by simp only[splitR,if_neg hl,hs0];exact RecsAt.nil _ _ _⟩
       | some m=>
         rw[he]at hs1
         simp only at hs1
         obtain⟨e1,_⟩:=JjP he
         rw[List.length_drop]at e1
         simp only[endV]
         obtain⟨M,hM⟩:∃M:Nat,M=i+2+m:=⟨_,rfl⟩
         rw[<-hM]
         have hm0:¬((M:Nat):Int)<0:=by omega
         have ha4:IntKind.i64.wrap ((M:Int)+2)=((i+2+m+2:Nat):Int):=by rw[QL (by omega) (by omega)];omega
         have htk:M-(i+2)=m:=by omega
         obtain⟨v',e,a1,a2,a3⟩:=JaV hg2 hps' (true,(l.drop (i+2)).take m,i) (by omega)
         simp only[XZ,simprocAttr,f0,f4,f5,hm0,ha2,ha4,Jct,JaU,Jp3,Jne,jH,htk]
         refine⟨by omega,Jmv a1 ?_⟩
         simp only[XZ,simprocAttr,f0,f5,ha4]
         refine⟨k-(2+m+2),by omega,i+2+m+2,i+2+m+2,ps'++[(true,(l.drop (i+2)).take m,i)],by omega,Nat.le_refl _,by simp;omega,a2, ?_,by simp,rfl,rfl,a3⟩
         rw[hsp',hs1,Option.map_map]
         congr 1
         funext x
         simp
     ·simp only[XZ,simprocAttr,h0,h5,h6,hu,hlt',hadd,hn',hi0,hi1,b0,b1]
      exact more (fun h=>b1 (s1.2 h.2))
    ·simp only[XZ,simprocAttr,h0,h5,h6,hu,hlt',hadd,hn',hi0,hi1,b0]
     exact more (fun h=>b0 (s0.2 (by rw[h.1])))
   ·have hn':(l.length:Int)<=((i+1:Nat):Int):=by omega
    simp only[XZ,simprocAttr,h0,h5,h6,hu,hlt',hadd,hn']
    refine more (fun h=> ?_)
    rw[List.getElem?_eq_none (by omega)]at h
    cases h.2
  ·have hlt':¬(i:Int)<l.length:=by omega
   obtain rfl:i=l.length:=by omega
   have hoi:openAt (l.drop l.length)=none:=by rw[List.drop_length];rfl
   rw[hoi]at hop
   rw[Jq]
   simp only[XY,simprocAttr,Jk,h0,h5,h6,hlt']
   refine JeH (fun fr st2=>∃u ps',fr 4=u/\RecsAt st st2 u 3 ps'.length (cellsP ps')/\splitS l 0=some ps'/\Gr st st2) ?_ ?_
   ·by_cases hal:at_<l.length
    ·have hal':(at_:Int)<l.length:=by omega
     obtain⟨v',e,a1,a2,a3⟩:=JaV hg hps (false,l.drop at_,at_) (by omega)
     simp only[XY,simprocAttr,Jk,h0,h5,h6,hu,hal',Jct,JaU,JjQ,Jne,jH]
     refine⟨by omega,Jmv a1 ?_⟩
     simp only[XY,simprocAttr,Jk,h0,h5,h6]
     refine⟨v',_,rfl,a2, ?_,a3⟩
     rw[hsp,kX hal,hop]
     rfl
    ·have hal':¬(at_:Int)<l.length:=by omega
     simp only[XY,simprocAttr,Jk,h0,h5,h6,hu,hal']
     refine⟨u,ps,rfl,hps, ?_,hg⟩
     rw[hsp,Jcu (by omega)]
     simp
   ·rintro fr2 st2 ⟨u,ps',f4,hps',hs0,hg2⟩
    by_cases h200:200<ps'.length
    ·have h200':(200:Int)<ps'.length:=by omega
     simp only[XZ,simprocAttr,f4,hps'.len,h200']
     exact⟨hg2, .snil,by simp[splitR,hl,hs0,h200],by simp only[splitR,if_neg hl,hs0,if_pos h200];exact RecsAt.nil _ _ _⟩
    ·have h200':¬(200:Int)<ps'.length:=by omega
     simp only[XZ,simprocAttr,f4,hps'.len,h200']
     exact⟨hg2,u,by simp[splitR,hl,hs0,h200],by simp only[splitR,if_neg hl,hs0,if_neg h200];exact hps'⟩
abbrev nd0 :List V:=[.int .i64 0, .int .i64 0,ofL [],ofL [], .snil, .snil, .snil, .bool false, .snil]
abbrev ndN (k at_:Int)(s nm:Str)(pv:V):List V:=[.int .i64 k, .int .i64 at_,ofL s,ofL nm,pv, .snil, .snil, .bool false, .snil]
theorem Jhc {es:List (List V)}{z e:List V}{n:Nat}(hes:∀x∈es,x.length=n)(hz:z.length=n)(he:e.length=n):splice (es++[z]).flatten (es.length*n) e=(es++[e]).flatten:=by
 have hl:es.flatten.length=es.length*n:=JE hes
 simp only[splice,List.flatten_append,List.flatten_cons,List.flatten_nil,List.append_nil]
 rw[<-hl,List.take_left,List.drop_append]
 have:List.drop (es.flatten.length+e.length) es.flatten=[]:=List.drop_eq_nil_of_le (by omega)
 rw[this]
 have h2:es.flatten.length+e.length-es.flatten.length=z.length:=by omega
 rw[h2,List.drop_length]
 simp
structure Ps (Sb S:St) (p:Pt) (mv:V) (main:List (List V)):Prop where
 g:Gr Sb S
 pn:Sb.row p= .none
 c:∃t,S.row p= .cells t [.snil,mv, .snil, .int .i64 0]
 m:SlF Sb S mv 9 main
 am:rowOf mv≠some p
theorem Ps.gr {Sb S S':St}{p:Pt}{mv:V}{main:List (List V)}(h:Ps Sb S p mv main)(g:Gr S S'):Ps Sb S' p mv main:=⟨h.g.trans g,h.pn,h.c.imp fun t c=>g.cells c,h.m.gr g,h.am⟩
theorem putM {Sb S:St}{p:Pt}{mv:V}{main:List (List V)}{k at_:Int}{s nm:Str}{pv:V}(h:Ps Sb S p mv main)(hpv:pv.sc=true)(hn:main.length<10000):
  Does (tabT tabD) jv [.ptr p 0, .agg (ndN k at_ s nm pv)] S fun v S'=>Ch (fun r=>r=p\/rowOf mv=some r) S S'/\v= .bool true/\∃mv',Ps Sb S' p mv' (main++[ndN k at_ s nm pv])/\∀q,rowOf mv'=some q->S.row q= .none:=by
 refine Jaq tabM jd rfl h.g.wf fun K fin=> ?_
 obtain⟨tp,rp⟩:=h.c
 have hw:=h.g.wf
 obtain⟨n0,hn0⟩:∃n,S.nx=up 0 n:=⟨_,up0 _⟩
 have op:=fun k=>nes (jI hw hn0 (Jj rp) k)
 have l0:lenLV .snil=some (.int .i64 0, .no):=rfl
 have pc:pv.cells=some [pv]:=by cases pv<;>first|rfl|(cases hpv;done)
 simp only[JR,XY,simprocAttr]
 rw[Jk];simp only[XY,simprocAttr,hn0,hpv,pc]
 refine J8 ?_
 intro S1 hS1
 have G1:Gr S S1:=by rw[hS1];exact Gr.new hw (Jh _)
 obtain⟨p3,hp3⟩:∃b,b=up 0 n0:=⟨_,rfl⟩
 obtain⟨t3,r3⟩:∃t,S1.row p3= .cells t (ndN k at_ s nm pv):=⟨_,by rw[hS1,hp3];simp only[XZ,simprocAttr,hn0];rfl⟩
 have p3n:S.row p3= .none:=by rw[hp3];exact nx0 hw hn0 0
 rw[<-hp3]
 have rp1:=G1.cells rp
 clear hS1
 have hm1:=h.m.gr G1
 have lm:=hm1.at.len
 have w1:=G1.wf
 obtain⟨n1,hn1⟩:∃n,S1.nx=up 0 n:=⟨_,up0 _⟩
 have o3:=fun k=>nes (jI w1 hn1 (Jj r3) k)
 have op1:=fun k=>nes (jI w1 hn1 (Jj rp1) k)
 rw[Jq,Jk];simp only[XY,simprocAttr,rp1,l0]
 rw[Jk];simp only[XY,simprocAttr,rp1,r3,hn1,o3,op1,lm]
 obtain⟨A2,hA2⟩:∃S,S=(S1.new fun t=>Row.cells t nd0):=⟨_,rfl⟩
 have ga2:Gr S1 A2:=by rw[hA2];exact Gr.new w1 (Jh _)
 have hone:SlAt (fun r=>r=up 0 n1) A2 (.slx (up 0 n1) 0 1 9 1) 9 [nd0]:=by
  have:=JeN (st:=S1) (z:=9) (e:=nd0) rfl
  rwa [hn1,<-hA2]at this
 rw[<-hA2]
 clear hA2
 have rp2:=ga2.cells rp1
 have r32:=ga2.cells r3
 refine JeO (S0:=Sb) (h.g.trans (G1.trans ga2)) (hm1.gr ga2) hone (fun e he=>by rw[List.mem_singleton.1 he];rfl) (by simp) (by simp) (by simp;omega) ?_
 intro A3 mv3 g3 h3 rv3 kp3
 have rp3:A3.row p= .cells tp [.snil,mv, .snil, .int .i64 0]:=(kp3 p (Jj rp2) h.am).trans rp2
 obtain⟨q,tq,q1,q2,q3⟩:∃r t,Sb.row r= .none/\A3.row r= .cells t (main++[nd0]).flatten/\(mv3= .sl r 0 (main++[nd0]).length 9\/mv3= .slx r 0 (main++[nd0]).length 9 (main++[nd0]).length):=by
  rcases h3.2 with⟨e,_⟩|h
  ·rw[e]at rv3;cases rv3
  ·exact h
 have rq:rowOf mv3=some q:=by rcases q3 with e|e<;>(rw[e];rfl)
 have qp:q≠p:=fun e=>by
  rw[rq]at rv3
  injection rv3 with rv3
  rw[<-e,rv3,Yc ga2.wf]at rp2
  cases rp2
 have hL:(main++[nd0]).length=main.length+1:=by simp
 have hi:iaddrSV 9 mv3 (.int .i64 (main.length:Nat))=some (.ptr q (main.length*9), .no):=by
  rcases q3 with e|e
  ·rw[e,YD,if_pos (by omega)];simp
  ·rw[e,YW,if_pos (by omega)];simp
 have hfl:(main++[nd0]).flatten.length=(main.length+1)*9:=by rw[JE h3.1,hL]
 have hle:main.length*9+9<=(main++[nd0]).flatten.length:=by rw[hfl];omega
 have sc3:=h3.at.sc
 have cl3:=h3.at.cells
 simp only[XN,simprocAttr,hi,q2,rp3,hle,hpv,pc]
 obtain⟨A4,hA4⟩:∃S,S=(A3.wr q tq fun u=>Row.cells u (splice (main++[nd0]).flatten (main.length*9) [V.int IntKind.i64 k,V.int IntKind.i64 at_,ofL s,ofL nm,pv,V.snil,V.snil,V.bool false,V.snil])):=⟨_,rfl⟩
 have r4:∃t,A4.row q= .cells t (main++[ndN k at_ s nm pv]).flatten:=⟨_,by rw[hA4,JM,if_pos rfl,Jhc h.m.1 rfl rfl]⟩
 have k4:∀r,r≠q->A4.row r=A3.row r:=fun r e=>by rw[hA4];simp only[JM,e,if_false]
 have g4:Gr Sb A4:=by rw[hA4];exact g3.wr q1 (Jj q2) (by rw[q2];rfl) (Jh _)
 rw[<-hA4]
 clear hA4
 have rp4:A4.row p= .cells tp [.snil,mv, .snil, .int .i64 0]:=(k4 p (fun e=>qp e.symm)).trans rp3
 simp only[XN,simprocAttr,rp4,cl3,sc3]
 refine⟨JkF (Jbg (v:= .ptr q (main.length*9)) (w:= .ptr p 1) (q:=p) (by simp only[XN,simprocAttr]) (by simp only[XN,simprocAttr]) rfl (fun e=>by injection e with e;exact qp e)) (Jbg (v:= .ptr p 1) (w:= .ptr q (main.length*9)) (q:=q) (by simp only[XN,simprocAttr]) (by simp only[XN,simprocAttr]) rfl (fun e=>by injection e with e;exact qp e.symm)), ?_⟩
 simp only[XZ,simprocAttr]
 refine fin _ _ (fun r e hW=> ?_) fun _=>⟨rfl,mv3,⟨g4.wr h.pn (Jj rp4) (by rw[rp4];rfl) (Jh _),h.pn,⟨_,by simp only[JM,if_true];rfl⟩, ?_,fun e=>qp (by rw[rq]at e;injection e)⟩, ?_⟩
 ·have hp:r≠p:=fun x=>hW (.inl x)
  have hq:r≠q:=fun x=>by
   rw[rq]at rv3
   injection rv3 with rv3
   have:=(G1.trans ga2).same r e
   rw[x,rv3,Yc ga2.wf]at this
   rw[x,rv3]at e
   exact e this.symm
  simp only[JM,hp,if_false]
  rw[k4 r hq,kp3 r (by rw[(G1.trans ga2).same r e];exact e) fun x=>hW (.inr x),(G1.trans ga2).same r e]
 ·obtain⟨t4,r4⟩:=r4
  refine⟨fun x hx=> ?_, .inr ⟨q,t4,q1,by simp only[JM,qp,if_false];exact r4, ?_⟩⟩
  ·rcases List.mem_append.1 hx with hx|hx
   ·exact h.m.1 x hx
   ·rw[List.mem_singleton.1 hx];rfl
  ·have e:(main++[ndN k at_ s nm pv]).length=(main++[nd0]).length:=by simp
   rw[e];exact q3
 ·intro x hx
  rw[rv3]at hx
  injection hx with hx
  rw[<-hx]
  exact Classical.byContradiction fun c=>c (by
   have:=(G1.trans ga2).same _ c
   rw[Yc ga2.wf]at this
   exact this.symm)
def one0 :St:=St.start.new fun t=> .dead t
noncomputable def actR (s:V):Option Out:=evD (run (tabT tabD) 40) 1000000 (cutC Jr 999 Jt.body) (initFr [.ptr .h 0, .agg [.bool true,s, .opq 0]]) {one0 with low:=1}
noncomputable def actB (s w:V)(kind:Int)(name:V)(pf:St->V->Bool):Bool:=match actR s with
 | some (.exit 999 fr a)=>Nat.ble 1 a.low&&(inT a.nx.num a.h&&(match fr 162,fr 163,fr 164 with
   | .ptr .h 0,w', .agg [.int .i64 k, .opq 0, .str 0 0,nm,pv, .snil, .snil, .bool false, .snil]=>vsame1 w' w&&(decide (k=kind)&&(vsame1 nm name&&pf a pv))
   |_,_,_=>false))
 |_=>false
theorem JsH {s w:V}{kind:Int}{name:V}{pf:St->V->Bool}(h:actB s w kind name pf=true):∃fr a pv,actR s=some (.exit 999 fr a)/\1<=a.low/\inT a.nx.num a.h=true/\fr 162= .ptr .h 0/\fr 163=w/\
  fr 164= .agg [.int .i64 kind, .opq 0, .str 0 0,name,pv, .snil, .snil, .bool false, .snil]/\pf a pv=true:=by
 unfold actB at h
 split at h
 ·rename_i fr a hr
  rw[Bool.and_eq_true,Bool.and_eq_true]at h
  obtain⟨h1,h2,h3⟩:=h
  split at h3
  ·rename_i k nm pv e1 e3
   rw[Bool.and_eq_true,Bool.and_eq_true,Bool.and_eq_true]at h3
   obtain⟨k1,k2,k3,k4⟩:=h3
   have k2:=of_decide_eq_true k2
   refine⟨fr,a,pv,hr,Nat.le_of_ble_eq_true h1,h2,e1, ?_, ?_,k4⟩
   ·exact ki k1
   ·rw[e3,k2,ki k3]
  ·cases h3
 ·cases h
def restP :C:= .seq (.reg [⟨some 165, .call Jr [.s 162, .s 163, .s 164],none,none⟩,⟨some 4, .mv (.s 165),none,none⟩]) .ret
theorem Jnx :restC Jr Jt.body=some restP:=by kernel_rfl
theorem Jti :cC (cutC Jr 999 Jt.body)=true:=by kernel_rfl
theorem Jtj :noX 999 Jt.body=true:=by kernel_rfl
theorem Jtk :oneC Jr Jt.body=true:=by kernel_rfl
theorem actC {s w:V}{kind:Int}{name:V}{pf:St->V->Bool}(h:actB s w kind name pf=true)(hs:closed s=true)(hn:closed name=true)(hcw:closed w=true){S:St}(hw:WF S){p:Pt}(hp:S.row p≠ .none){at_:Int}{Q:V->St->Prop}
  (k:∀(S1:St) (ψ:Rn) (a:St) (pv:V),Gr S S1->ψ .h=p->Hold ψ a S1->(∀q:Pt,1<=q.num->S.row (ψ q)= .none)->ψ.s 0= .int .i64 at_->pf a pv=true->Does (tabT tabD) Jr [.ptr p 0,w, .agg [.int .i64 kind, .int .i64 at_, .str 0 0,name,mv ψ pv, .snil, .snil, .bool false, .snil]] S1 Q):
  Does (tabT tabD) KW [.ptr p 0, .agg [.bool true,s, .int .i64 at_]] S Q:=by
 obtain⟨fr,a,pv,h1,h2,h3,h4,h5,h6,h7⟩:=JsH h
 have H0:=Hold.start (S:=S) (fun _=> .int .i64 at_) (fun _=>⟨_,_,rfl⟩) hw
 obtain⟨φ,ag,e1,H⟩:=H0.add (q:=p) (f:=fun t=> .dead t) (fun u=>⟨rfl,by intro e;cases e⟩) hp (fun p h=>absurd h (Nat.not_lt_zero _)) ⟨hp,trivial⟩ rfl rfl
 have es:φ.s 0= .int .i64 at_:=by rw[ag.s]
 have e1:φ .h=p:=e1
 have:=Jm9 tabE tabM tabU kF H (args:=[.ptr .h 0, .agg [.bool true,s, .opq 0]]) (n:=40) (g:=Jr) (K:=999) (fr1:=fr) (a1:=a) (c':=restP) (Q:=Q) (by
   simp only[inVs,inV,kA _ s hs]
   rfl) Jti Jtj Jtk Jnx h1 h2 h3 fun ψ S1 g ag1 H1 fr1=>by
  have e162:mvF ψ fr 162= .ptr p 0:=by
   show mv ψ (fr 162)=_
   rw[h4,mv,ag1.f .h (by decide),e1]
  have e163:mvF ψ fr 163=w:=by
   show mv ψ (fr 163)=_
   rw[h5,JA ψ w hcw]
  have e164:mvF ψ fr 164= .agg [.int .i64 kind, .int .i64 at_, .str 0 0,name,mv ψ pv, .snil, .snil, .bool false, .snil]:=by
   show mv ψ (fr 164)=_
   rw[h6]
   simp only[mv,mvs,JA ψ name hn,ag1.s,es]
  unfold restP
  rw[Jk];simp only[XY,simprocAttr,e162,e163,e164]
  refine Ju (k S1 ψ a pv g (by rw[ag1.f .h (by decide),e1]) H1 fr1 (by rw[ag1.s,es]) h7) ?_
  intro v S2 q
  exact q
 simp only[List.map_cons,List.map_nil,mv,mvs,e1,es,JA φ s hs]at this
 exact this
theorem placeT {Sb S:St}{p:Pt}{mv:V}{main:List (List V)}{at_:Int}{nm:Str}{pv:V}(h:Ps Sb S p mv main)(hpv:pv.sc=true)(hn:main.length<10000)(hid:pureB (tabT tabD) YQ [ofL nm] (.bool true)=true):
  Does (tabT tabD) Jr [.ptr p 0,ofL [116,101,109,112,108,97,116,101], .agg (ndN 9 at_ [] nm pv)] S fun v S'=>Ch (fun r=>r=p\/rowOf mv=some r) S S'/\v= .int .i64 0/\∃mv',Ps Sb S' p mv' (main++[ndN 9 at_ [] nm pv])/\∀q,rowOf mv'=some q->S.row q= .none:=by
 refine Jaq tabM kG rfl h.g.wf fun K fin=> ?_
 obtain⟨tp,rp⟩:=h.c
 have hw:=h.g.wf
 obtain⟨n0,hn0⟩:∃n,S.nx=up 0 n:=⟨_,up0 _⟩
 have l0:lenLV .snil=some (.int .i64 0, .no):=rfl
 have pc:pv.cells=some [pv]:=by cases pv<;>first|rfl|(cases hpv;done)
 simp only[JD,XY,simprocAttr]
 rw[Jk];simp only[XY,simprocAttr,hn0,hpv,pc]
 refine J8 ?_
 intro S1 hS1
 have G1:Gr S S1:=by rw[hS1];exact Gr.new hw (Jh _)
 obtain⟨p3,hp3⟩:∃b,b=up 0 n0:=⟨_,rfl⟩
 obtain⟨t3,r3⟩:∃t,S1.row p3= .cells t (ndN 9 at_ [] nm pv):=⟨_,by rw[hS1,hp3];simp only[XZ,simprocAttr,hn0];rfl⟩
 rw[<-hp3]
 have rp1:=G1.cells rp
 clear hS1
 simp only[XZ,simprocAttr,List.cons.injEq,and_false,false_and,and_true,true_and,List.cons_ne_nil,reduceCtorEq,rp1,l0,r3]
 refine Ju (pureC tabE tabM tabU hid rfl rfl G1.wf) ?_
 rintro _ S2 ⟨G2,rfl⟩
 have r32:=G2.cells r3
 have G02:=G1.trans G2
 simp only[XZ,simprocAttr,r32]
 refine Ju (putM (h.gr G02) hpv hn) ?_
 rintro _ S3 ⟨C3,rfl,mv',P3,f3⟩
 simp only[XZ,simprocAttr]
 refine fin _ _ (fun r e hW=> ?_) fun _=>⟨rfl,mv',P3,fun q hq=>Classical.byContradiction fun c=>c (by rw[<-G02.same q c];exact f3 q hq)⟩
 rw[C3.same r (by rw[G02.same r e];exact e) hW,G02.same r e]
def pfNil :St->V->Bool:=fun _ pv=>match pv with
 | .snil=>true
 |_=>false
structure Fr7 (φ:Rn) (b b' S S':St):Prop where
 mono:Mono S S'
 same:∀s,S.row s≠ .none->(∀p:Pt,b.row p≠ .none->b'.row p≠b.row p->φ p≠s)->S'.row s=S.row s
theorem Fr7.gr {φ:Rn}{b b' S S1 S':St}(g:Gr S S1)(h:Fr7 φ b b' S1 S'):Fr7 φ b b' S S':=
 ⟨g.mono.trans h.mono,fun s e n=>by rw[h.same s (by rw[g.same s e];exact e) n,g.same s e]⟩
theorem stepT {φ:Rn}{b b' S:St}(H:Hold φ b S){pp:Pt}{i:Nat}{at_:Int}{s w name:V}{kind:Int}(hpr:b.row pp≠ .none)(hat:φ.s i= .int .i64 at_)(h:actB s w kind name pfNil=true)(hs:closed s=true)(hn:closed name=true)(hw:closed w=true)
  (hr:run (tabT tabD) 60 Jr [.ptr pp 0,w, .agg [.int .i64 kind, .opq i, .str 0 0,name, .snil, .snil, .snil, .bool false, .snil]] b=some (.int .i64 0,b')) (hi:inT b'.nx.num b'.h=true):
  Does (tabT tabD) KW [.ptr (φ pp) 0, .agg [.bool true,s, .int .i64 at_]] S fun v S'=>v= .int .i64 0/\Fr7 φ b b' S S'/\∃ψ,Agr b.nx.num φ ψ/\Hold ψ b' S'/\∀q:Pt,b.nx.num<=q.num->S.row (ψ q)= .none:=by
 have hp:=H.none hpr
 refine actC h hs hn hw H.wf (Y5 (H.row pp hp) hpr) fun S1 χ a pv g _ _ _ _ hpv=> ?_
 have:pv= .snil:=by
  unfold pfNil at hpv
  split at hpv
  ·rfl
  ·cases hpv
 subst this
 have H1:=H.gr g
 have:=H1.goW tabE tabM tabU (args:=[.ptr pp 0,w, .agg [.int .i64 kind, .opq i, .str 0 0,name, .snil, .snil, .snil, .bool false, .snil]]) (by simp only[inVs,inV,kA _ w hw,kA _ name hn,decide_eq_true hp];rfl) hr hi
 simp only[List.map_cons,List.map_nil,mv,mvs,JA φ w hw,JA φ name hn,hat]at this
 simp only[mv]
 refine this.mono fun v S' ⟨m,fr,ψ,ag,e,H',fh⟩=>⟨e.trans (by simp only[mv]),Fr7.gr g ⟨m.mono,fr⟩,ψ,ag,H',fun q hq=>Classical.byContradiction fun c=>c (by rw[<-g.same _ c];exact fh q hq)⟩
def pf1 (pf:St->V->Bool)(a:St)(pv:V):Bool:=pf a pv&&(match pv with
 | .slx r 0 1 1 1=>Nat.blt r.num a.nx.num&&((match a.row r with
   | .cells _ _=>true
   |_=>false)&&(match a.row .h with
   | .dead _=>true
   |_=>false))
 |_=>false)
theorem JsI {pf:St->V->Bool}{a:St}{pv:V}(h:pf1 pf a pv=true):pf a pv=true/\∃r t l u,pv= .slx r 0 1 1 1/\r.num<a.nx.num/\a.row r= .cells t l/\a.row .h= .dead u:=by
 unfold pf1 at h
 rw[Bool.and_eq_true]at h
 obtain⟨h1,h2⟩:=h
 split at h2
 ·rename_i r
  rw[Bool.and_eq_true,Bool.and_eq_true]at h2
  obtain⟨k1,k2,k3⟩:=h2
  split at k2
  ·rename_i t l hr
   split at k3
   ·rename_i u hu
    exact⟨h1,r,t,l,u,rfl,Nat.le_of_ble_eq_true k1,hr,hu⟩
   ·cases k3
  ·cases k2
 ·cases h2
structure TS (W:Pt->Prop) (n0:Nat) (S0:St) (φ:Rn) (b S:St):Prop where
 H:Hold φ b S
 le:n0<=b.nx.num
 mono:Mono S0 S
 keep:∀s,S0.row s≠ .none->¬W s->S.row s=S0.row s
 live:∀s,S0.row s≠ .none->S.row s≠ .none
 fresh:∀q:Pt,n0<=q.num->b.row q≠ .none->S0.row (φ q)= .none
theorem TS.start {W:Pt->Prop}{φ:Rn}{b S:St}(H:Hold φ b S):TS W b.nx.num S φ b S:=⟨H,Nat.le_refl _,Mono.refl H.wf,fun _ _ _=>rfl,fun _ h=>h,fun q hq h=>absurd (H.none h) (by omega)⟩
theorem TS.next {W:Pt->Prop}{n0:Nat}{S0 S S':St}{φ ψ:Rn}{b b':St}(T:TS W n0 S0 φ b S)(F:Fr7 φ b b' S S')(hle:b.nx.num<=b'.nx.num)(ag:Agr b.nx.num φ ψ)(H:Hold ψ b' S')(fr:∀q:Pt,b.nx.num<=q.num->S.row (ψ q)= .none)
  (low:∀q:Pt,q.num<n0->b.row q≠ .none->b'.row q≠b.row q->W (φ q)):TS W n0 S0 ψ b' S':=by
 refine⟨H,Nat.le_trans T.le hle,T.mono.trans F.mono,fun s hs hw=> ?_,fun s hs=> ?_,fun q hq hb=> ?_⟩
 ·rw[F.same s (T.live s hs) fun q hq hc e=> ?_,T.keep s hs hw]
  by_cases c:q.num<n0
  ·exact hw (e▸low q c hq hc)
  ·have:=T.fresh q (by omega) hq
   rw[e]at this
   exact hs this
 ·by_cases c:S'.row s=S.row s
  ·rw[c];exact T.live s hs
  ·exact(F.mono.row s c).2
 ·by_cases c:q.num<b.nx.num
  ·rw[ag.f q c]
   by_cases d:b.row q= .none
   ·have h1:=T.H.row q c
    rw[d]at h1
    have h1:S.row (φ q)= .none:=h1
    exact Classical.byContradiction fun x=>T.live _ x h1
   ·exact T.fresh q hq d
  ·have:=fr q (by omega)
   exact Classical.byContradiction fun x=>T.live _ x this
def StepsD (Sb:St)(p:Pt):List Prt->St->(St->Prop)->Prop
 |[],S,Q=>Q S
 |x::r,S,Q=>Does (tabT tabD) (if x.1 then KW else Ky) [.ptr p 0, .agg [.bool x.1,ofL x.2.1, .int .i64 x.2.2]] S fun v S'=>v= .int .i64 0/\WF S'/\(∀q,Sb.row q≠ .none->S'.row q=S.row q)/\StepsD Sb p r S' Q
structure PEnd (Sb S:St) (p:Pt) (mv:V) (tp:List (List V)):Prop where
 wf:WF S
 c:∃t ov lv,S.row p= .cells t [ov,mv,lv, .int .i64 0]/\lenLV ov=some (.int .i64 0, .no)/\SlAt (fun _=>True) S lv 2 tp
 m:mv.sc=true
 two:0<tp.length/\tp.length<100/\okC tp
def cell3 (x:Prt):List V:=[.bool x.1,ofL x.2.1, .int .i64 x.2.2]
theorem Jhd (ps:List Prt):cellsP ps=(ps.map cell3).flatten:=by
 induction ps with
 |nil=>rfl
 |cons x r ih=>simp only[List.map_cons,List.flatten_cons,<-ih];rfl
theorem Jqa {S Sb:St}{u:V}{ps:List Prt}(h:RecsAt S Sb u 3 ps.length (cellsP ps)):SlAt (fun r=>Sb.row r≠ .none) Sb u 3 (ps.map cell3):=by
 refine⟨fun e he=> ?_, ?_⟩
 ·obtain⟨x,_,rfl⟩:=List.mem_map.1 he
  rfl
 ·rcases h.2 with⟨h1,h2⟩|⟨r,t,h1,h2,_⟩
  ·exact .inl ⟨h1,by rw[List.length_eq_zero_iff.1 h2];rfl⟩
  ·refine .inr ⟨r,0,Jj h2, .inl (by rw[h1];simp),cellsP ps, .inl ⟨t,h2⟩,by rw[h.1];simp, ?_⟩
   rw[List.drop_zero,<-Jhd,List.length_map,<-h.1,List.take_length]
set_option maxHeartbeats 4000000 in
theorem parseC {l:List UInt8}{ps:List Prt}{S:St}{R:St->V->List (List V)->Prop}(hw:WF S)(hl:splitR l=(ps,0))(hps:ps.length<1000)
  (hs:∀(Sb S1:St) (p:Pt),Gr S Sb->Gr Sb S1->Sb.row p= .none->(∃t,S1.row p= .cells t [.snil, .snil, .snil, .int .i64 0])->StepsD Sb p ps S1 fun S2=>∃mv tp,PEnd Sb S2 p mv tp/\R S2 mv tp):
  Does (tabT tabD) kJ [ofL l] S fun v S'=>(∀q,S.row q≠ .none->S'.row q=S.row q)/\∃mv tp S2 lv,R S2 mv tp/\Gr S2 S'/\v= .tup [lv, .int .i64 0, .int .i64 0]/\SlAt (fun r=>S2.row r= .none) S' lv 2 ([ofL [],mv]::tp):=by
 refine Ym qK rfl ?_
 simp only[Kn,XY,simprocAttr]
 rw[Jk];simp only[XY,simprocAttr]
 rw[Jk];simp only[XY,simprocAttr]
 refine Ju (splitC l S hw) ?_
 rintro _ Sb ⟨gb,u,rfl,hu⟩
 rw[hl]at hu⊢
 have hu:RecsAt S Sb u 3 ps.length (cellsP ps):=hu
 simp only[XY,simprocAttr]
 rw[Jq,Jk];simp only[XY,simprocAttr]
 obtain⟨n0,hn0⟩:∃n,Sb.nx=up 0 n:=⟨_,up0 _⟩
 have wb:=gb.wf
 rw[Jk];simp only[XY,simprocAttr,hn0]
 refine J8 ?_
 intro S1 hS1
 have G1:Gr Sb S1:=by rw[hS1];exact Gr.new wb (Jh _)
 obtain⟨p,hp⟩:∃b,b=up 0 n0:=⟨_,rfl⟩
 have rp:∃t,S1.row p= .cells t [.snil, .snil, .snil, .int .i64 0]:=⟨_,by rw[hS1,hp];simp only[XZ,simprocAttr,hn0];rfl⟩
 have pn:Sb.row p= .none:=by rw[hp];exact nx0 wb hn0 0
 rw[<-hp]
 clear hS1
 have st:=hs Sb S1 p gb G1 pn rp
 rw[Jq,Jk];simp only[XY,simprocAttr]
 have hsl:=Jqa hu
 have ul:lenLV u=some (.int .i64 (ps.length:Nat), .no):=by rw[hsl.len,List.length_map]
 obtain⟨Q,hQ⟩:∃Q:St->Prop,Q=fun S2=>∃mv tp,PEnd Sb S2 p mv tp/\R S2 mv tp:=⟨_,rfl⟩
 rw[<-hQ]at st
 obtain⟨L,hL⟩:∃L:Nat->Fr->St->Prop,∀j fr S2,L j fr S2<->∃(i:Nat),j+i=ps.length/\fr 0=ofL l/\fr 5=u/\fr 7= .ptr p 0/\fr 8= .int .i64 i/\(∀q,Sb.row q≠ .none->S2.row q=Sb.row q)/\WF S2/\StepsD Sb p (ps.drop i) S2 Q:=⟨_,fun _ _ _=>Iff.rfl⟩
 refine Yw L ps.length (by omega) ((hL _ _ _).2 ⟨0,by omega,by simp only[XZ,simprocAttr],by simp only[XZ,simprocAttr],by simp only[XZ,simprocAttr],by simp only[XZ,simprocAttr]<;>rfl,G1.same,G1.wf,st⟩) ?_
 clear st rp
 intro j fr S2 hLj
 obtain⟨i,hj,f0,f5,f7,f8,old,w2,st⟩:=(hL _ _ _).1 hLj
 by_cases hi:i<ps.length
 ·have hi':(i:Int)<ps.length:=by omega
  have hadd1:IntKind.i64.wrap ((i:Int)+1)=((i+1:Nat):Int):=by rw[QL (by omega) (by omega)];rfl
  rw[List.drop_eq_getElem_cons hi]at st
  obtain⟨x,hx⟩:∃x,x=ps[i]:=⟨_,rfl⟩
  rw[<-hx]at st
  have hs2:SlAt (fun _=>True) S2 u 3 (ps.map cell3):=hsl.imp fun r e _=>⟨trivial,old r e⟩
  obtain⟨r,o,a1,_,_,a2,a3⟩:=hs2.elem (i:=i) (by simpa using hi)
  have a2:ldn (S2.row r) o 3=some (.agg [.bool x.1,ofL x.2.1, .int .i64 x.2.2], .no):=by rw[a2];simp[cell3,hx]
  have a4:=a3 0 (by simp[cell3])
  have a4:ld1 (S2.row r) o=some (.bool x.1, .no):=by rw[show o=o+0 from rfl,a4];simp[cell3,hx]
  unfold StepsD at st
  rw[Jq,Jk];simp only[XY,simprocAttr,f5,f7,f8,ul,hi']
  cases hx1:x.1 with
  | true=>
    rw[hx1]at st a2 a4
    simp only[if_true]at st
    rw[Jq];simp only[XY,simprocAttr,f0,f5,f7,f8,a1]
    rw[Jk];simp only[XY,simprocAttr,f0,f5,f7,f8,a1]
    rw[Jq,Jk];simp only[XY,simprocAttr,f0,f5,f7,f8,a1,a2,a4]
    refine Ju st ?_
    rintro _ S3 ⟨rfl,w3,k3,st3⟩
    simp only[XZ,simprocAttr,f0,f5,f7,f8,hadd1]
    exact⟨ps.length-(i+1),by omega,(hL _ _ _).2 ⟨i+1,by omega,by simp only[XZ,simprocAttr,f0],by simp only[XZ,simprocAttr,f5],by simp only[XZ,simprocAttr,f7],by simp only[XZ,simprocAttr],fun q e=>by rw[k3 q e,old q e],w3,st3⟩⟩
  | false=>
    rw[hx1]at st a2 a4
    simp only[Bool.false_eq_true,if_false]at st
    rw[Jq];simp only[XY,simprocAttr,f0,f5,f7,f8,a1]
    rw[Jk];simp only[XY,simprocAttr,f0,f5,f7,f8,a1]
    rw[Jq,Jk];simp only[XY,simprocAttr,f0,f5,f7,f8,a1,a2,a4]
    refine Ju st ?_
    rintro _ S3 ⟨rfl,w3,k3,st3⟩
    simp only[XZ,simprocAttr,f0,f5,f7,f8,hadd1]
    exact⟨ps.length-(i+1),by omega,(hL _ _ _).2 ⟨i+1,by omega,by simp only[XZ,simprocAttr,f0],by simp only[XZ,simprocAttr,f5],by simp only[XZ,simprocAttr,f7],by simp only[XZ,simprocAttr],fun q e=>by rw[k3 q e,old q e],w3,st3⟩⟩
 ·have hi':¬(i:Int)<ps.length:=by omega
  rw[List.drop_eq_nil_of_le (by omega)]at st
  have st:Q S2:=st
  rw[hQ]at st
  obtain⟨mv,tp,pe,hR⟩:=st
  obtain⟨t2,ov,lv,c2,o0,ltp⟩:=pe.c
  have msc:=pe.m
  have mcl:mv.cells=some [mv]:=by cases mv<;>first|rfl|(cases msc;done)
  obtain⟨n2,hn2⟩:∃n,S2.nx=up 0 n:=⟨_,up0 _⟩
  have op2:=fun k=>nes (jI w2 hn2 (Jj c2) k)
  rw[Jq,Jk];simp only[XY,simprocAttr,f5,f8,ul,hi',f7,c2,o0]
  rw[Jq,Jk];simp only[XY,simprocAttr,f7,c2,o0]
  rw[Jk];simp only[XY,simprocAttr,f7,c2,hn2,op2,msc,mcl]
  obtain⟨A3,hA3⟩:∃A,A=(S2.new fun t=>Row.cells t [ofL [],mv]):=⟨_,rfl⟩
  have G3:Gr S2 A3:=by rw[hA3];exact Gr.new w2 (Jh _)
  have hone:SlF S2 A3 (.slx (up 0 n2) 0 1 2 1) 2 [[ofL [],mv]]:=by
   refine⟨fun e he=>by rw[List.mem_singleton.1 he];rfl, .inr ⟨up 0 n2,S2.t,nx0 w2 hn2 0, ?_, .inr rfl⟩⟩
   rw[hA3,<-hn2,JN]
   rfl
  rw[<-hA3]
  clear hA3
  have ltp3:=ltp.gr G3
  obtain⟨tp0,tp1,tp2⟩:=pe.two
  refine JpS (S0:=S2) G3 hone ltp3 tp2 (by omega) (by simp;omega) ?_
  intro A4 lv4 g4 h4 _
  simp only[XZ,simprocAttr]
  exact⟨fun q e=>by rw[g4.same q (by rw[old q (by rw[gb.same q e];exact e),gb.same q e];exact e),old q (by rw[gb.same q e];exact e),gb.same q e],mv,tp,S2,lv4,hR,g4,rfl,h4.at⟩
def clE (x:Str×Nat):List V:=[ofL x.1, .int .i64 (x.2:Nat)]
structure Wk0 (Sb S:St) (w:Pt) (tv nv cv:V) (at_:Int) (calls:List (Str×Nat)):Prop where
 g:Gr Sb S
 wn:Sb.row w= .none
 c:∃t,S.row w= .cells t [tv,nv,cv, .int .i64 at_]
 l:SlF Sb S cv 2 (calls.map clE)
 aw:rowOf cv≠some w
theorem Wk0.gr {Sb S S':St}{w:Pt}{tv nv cv:V}{at_:Int}{calls:List (Str×Nat)}(h:Wk0 Sb S w tv nv cv at_ calls)(g:Gr S S'):Wk0 Sb S' w tv nv cv at_ calls:=⟨h.g.trans g,h.wn,h.c.imp fun t c=>g.cells c,h.l.gr g,h.aw⟩
noncomputable def namesB (ns:List Str)(nm:Str):Bool:=match run (tabT tabD) 60 Yv [.sl .h 0 ns.length 1,ofL nm] {(St.start.new fun t=> .cells t (ns.map ofL))with low:=1}with
 |some (.bool true,a)=>Nat.ble 1 a.low&&inT a.nx.num a.h
 |_=>false
theorem Jbm :∀ns:List Str,closeds (ns.map ofL)=true
 |[]=>rfl
 |_::r=>by rw[List.map_cons,closeds,Jbm r];rfl
theorem namesC {ns:List Str}{nm:Str}(h:namesB ns nm=true){S:St}(hw:WF S){q:Pt}(hq:∃t,S.row q= .cells t (ns.map ofL)):Does (tabT tabD) Yv [.sl q 0 ns.length 1,ofL nm] S fun v S'=>Gr S S'/\v= .bool true:=by
 unfold namesB at h
 split at h
 ·rename_i a hr
  rw[Bool.and_eq_true]at h
  obtain⟨t,hq⟩:=hq
  have H0:=Hold.start (S:=S) (fun _=> .int .i64 0) (fun _=>⟨_,_,rfl⟩) hw
  have hcl:=Jbm ns
  obtain⟨φ,ag,e1,H⟩:=H0.add (q:=q) (f:=fun t=> .cells t (ns.map ofL)) (Jh _) (Jj hq) (fun p h=>absurd h (Nat.not_lt_zero _)) ⟨t,by rw[hq,YZ _ _ hcl],trivial⟩ (QU _ _ hcl) (by
   show(inR 1 (.cells 0 (ns.map ofL))&&true)=true
   rw[inR,QU _ _ hcl];rfl)
  have e1:φ .h=q:=e1
  have:=H.go tabE tabM tabU (args:=[.sl .h 0 ns.length 1,ofL nm]) rfl hr (Nat.le_of_ble_eq_true h.1) h.2
  simp only[List.map_cons,List.map_nil,mv,e1,JA φ (ofL nm) rfl]at this
  exact this.mono fun v S' ⟨g,ψ,_,e,_⟩=>⟨g,e.trans (by simp only[mv])⟩
 ·cases h
theorem callC {Sb S:St}{w q:Pt}{tv cv:V}{at_ a0:Int}{calls:List (Str×Nat)}{ns:List Str}{nm:Str}{d:Int}{pr:Pt}{id:Nat}(h:Wk0 Sb S w tv (.sl q 0 ns.length 1) cv at_ calls)(hq:∃t,S.row q= .cells t (ns.map ofL))(hn:namesB ns nm=true)(hc:calls.length<10000):
  Does (tabT tabD) qR [.ptr w 0, .agg [.int .i64 d, .snil, .snil], .agg (ndN 9 a0 [] nm (.slx pr 0 1 1 1)), .int .i64 id] S fun v S'=>Ch (fun r=>r=w\/rowOf cv=some r) S S'/\v= .int .i64 0/\∃cv',Wk0 Sb S' w tv (.sl q 0 ns.length 1) cv' at_ (calls++[(nm,id)])/\∀q,rowOf cv'=some q->S.row q= .none:=by
 refine Jaq tabM qg rfl h.g.wf fun K fin=> ?_
 obtain⟨tw,rw_⟩:=h.c
 have hw:=h.g.wf
 obtain⟨n0,hn0⟩:∃n,S.nx=up 0 n:=⟨_,up0 _⟩
 have ow:=fun k=>nes (jI hw hn0 (Jj rw_) k)
 have lp:lenLV (.slx pr 0 1 1 1)=some (.int .i64 1, .no):=rfl
 simp only[Kl,XY,simprocAttr]
 rw[Jk];simp only[XY,simprocAttr,hn0]
 refine J8 ?_
 intro S1 hS1
 have G1:Gr S S1:=by rw[hS1];exact(Gr.new hw (Jh _)).nn (Jh _)
 obtain⟨p5,hp5⟩:∃b,b=up 0 n0:=⟨_,rfl⟩
 obtain⟨p6,hp6⟩:∃b,b=up 1 n0:=⟨_,rfl⟩
 obtain⟨t5,r5⟩:∃t,S1.row p5= .cells t [.int .i64 d, .snil, .snil]:=⟨_,by rw[hS1,hp5];simp only[XZ,simprocAttr,hn0];rfl⟩
 obtain⟨t6,r6⟩:∃t,S1.row p6= .cells t (ndN 9 a0 [] nm (.slx pr 0 1 1 1)):=⟨_,by rw[hS1,hp6];simp only[XZ,simprocAttr,hn0];rfl⟩
 rw[<-hp5,<-hp6]
 have rw1:=G1.cells rw_
 clear hS1
 rw[Jq,Jk];simp only[XY,simprocAttr,r6,lp]
 obtain⟨tq,hq⟩:=hq
 rw[Jq,Jk];simp only[XY,simprocAttr,rw1,r6]
 refine Qr (namesC hn (Ys G1.wf _) ⟨tq,G1.cells hq⟩) ?_
 rintro _ S2 G2 rfl
 have G02:=G1.trans G2
 have rw2:=G2.cells rw1
 have r62:=G2.cells r6
 have r52:=G2.cells r5
 have w2:=G2.wf
 obtain⟨n2,hn2⟩:∃n,S2.nx=up 0 n:=⟨_,up0 _⟩
 have ow2:=fun k=>nes (jI w2 hn2 (Jj rw2) k)
 simp only[XY,simprocAttr]
 rw[Jk];simp only[XY,simprocAttr,rw2,r62,hn2,ow2]
 obtain⟨A3,hA3⟩:∃A,A=(S2.new fun t=>Row.cells t [ofL nm, .int .i64 id]):=⟨_,rfl⟩
 have ga3:Gr S2 A3:=by rw[hA3];exact Gr.new w2 (Jh _)
 have hone:SlAt (fun r=>r=up 0 n2) A3 (.slx (up 0 n2) 0 1 2 1) 2 [clE (nm,id)]:=by
  have:=JeN (st:=S2) (z:=2) (e:=clE (nm,id)) rfl
  rwa [hn2,show(S2.new fun t=>Row.cells t (clE (nm,id)))=A3 from hA3.symm]at this
 rw[<-hA3]
 clear hA3
 have rw3:=ga3.cells rw2
 have h3:=h.l.gr (G02.trans ga3)
 refine JeO (S0:=Sb) (h.g.trans (G02.trans ga3)) h3 hone (fun e he=>by rw[List.mem_singleton.1 he];rfl) (by simp) (by simp) (by simp;omega) ?_
 intro A4 cv4 g4 h4 rv4 kp4
 have rw4:A4.row w= .cells tw [tv, .sl q 0 ns.length 1,cv, .int .i64 at_]:=(kp4 w (Jj rw3) h.aw).trans rw3
 have sc4:=h4.at.sc
 have cl4:=h4.at.cells
 have wr:∀x,rowOf cv4=some x->x≠w:=fun x hx e=>by
  rw[rv4]at hx
  injection hx with hx
  rw[<-e,<-hx,Yc ga3.wf]at rw3
  cases rw3
 simp only[XZ,simprocAttr,rw4,sc4,cl4]
 refine fin _ _ (fun r e hW=> ?_) fun _=>⟨rfl,cv4,⟨g4.wr h.wn (Jj rw4) (by rw[rw4];rfl) (Jh _),h.wn,⟨_,by simp only[JM,if_true];rfl⟩, ?_,fun e=>wr w e rfl⟩, ?_⟩
 ·have hp:r≠w:=fun x=>hW (.inl x)
  simp only[JM,hp,if_false]
  rw[kp4 r (by rw[(G02.trans ga3).same r e];exact e) fun x=>hW (.inr x),(G02.trans ga3).same r e]
 ·have h5:SlF Sb A4 cv4 2 ((calls++[(nm,id)]).map clE):=by simpa using h4
  refine h5.keep fun r hr=> ?_
  simp only[JM,wr r hr,if_false]
 ·intro x hx
  rw[rv4]at hx
  injection hx with hx
  rw[<-hx]
  exact Classical.byContradiction fun c=>c (by
   have:=(G02.trans ga3).same _ c
   rw[Yc ga3.wf]at this
   exact this.symm)
def aggB :V->Bool
 | .agg [.int .i64 _,a,b,c]=>a.sc&&(b.sc&&c.sc)
 |_=>false
noncomputable def nodeB (aT:St)(tt:Pt)(id:Nat):Bool:=match run (tabT tabD) 60 JaI [.ptr tt 0, .int .i64 id] {aT with low:=aT.t}with
 | some (.tup [.int .i64 x, .bool true],a1)=>Nat.ble aT.t a1.low&&(inT a1.nx.num a1.h&&(match run (tabT tabD) 60 JaG [.ptr tt 0, .int .i64 x] {a1 with low:=a1.t}with
   |some (.tup [y, .bool true],a2)=>Nat.ble a1.t a2.low&&(inT a2.nx.num a2.h&&(aggB y&&Nat.ble aT.nx.num a1.nx.num))
   |_=>false))
 |_=>false
theorem Jqb {y:V}(h:aggB y=true):∃k a b c,y= .agg [.int .i64 k,a,b,c]/\a.sc=true/\b.sc=true/\c.sc=true:=by
 unfold aggB at h
 split at h
 ·rw[Bool.and_eq_true,Bool.and_eq_true]at h
  exact⟨_,_,_,_,rfl,h.1,h.2.1,h.2.2⟩
 ·cases h
theorem nodeF {φ:Rn}{aT S:St}{tt w:Pt}{id:Nat}{nv cv av:V}(H:Hold φ aT S)(htt:tt.num<aT.nx.num)(h:nodeB aT tt id=true)(hr:∃t,S.row w= .cells t [.ptr (φ tt) 0,nv,cv,av]):
  Does (tabT tabD) qQ [.ptr w 0, .int .i64 id] S fun v S'=>Gr S S'/\∃k a b c,v= .agg [.int .i64 k,a,b,c]/\a.sc=true/\b.sc=true/\c.sc=true:=by
 unfold nodeB at h
 split at h
 rotate_left
 ·cases h
 rename_i x a1 e1
 rw[Bool.and_eq_true,Bool.and_eq_true]at h
 obtain⟨l1,i1,h⟩:=h
 split at h
 rotate_left
 ·cases h
 rename_i y a2 e2
 rw[Bool.and_eq_true,Bool.and_eq_true,Bool.and_eq_true]at h
 obtain⟨l2,i2,hy,h12⟩:=h
 have h12:=Nat.le_of_ble_eq_true h12
 obtain⟨k,a,b,c,rfl,s1,s2,s3⟩:=Jqb hy
 obtain⟨tw,rw_⟩:=hr
 refine kU tabM qf rfl H.wf fun K fin=> ?_
 obtain⟨n0,hn0⟩:∃n,S.nx=up 0 n:=⟨_,up0 _⟩
 simp only[Kk,XY,simprocAttr]
 rw[Jk];simp only[XY,simprocAttr,hn0]
 refine J8 ?_
 intro S1 hS1
 have G1:Gr S S1:=by rw[hS1];exact Gr.new H.wf (Jh _)
 obtain⟨p4,hp4⟩:∃b,b=up 0 n0:=⟨_,rfl⟩
 obtain⟨t4,r4⟩:∃t,S1.row p4= .cells t [.int .i64 0,ofL [], .snil, .snil]:=⟨_,by rw[hS1,hp4];simp only[XZ,simprocAttr,hn0];rfl⟩
 have p4n:S.row p4= .none:=by rw[hp4];exact nx0 H.wf hn0 0
 rw[<-hp4]
 have rw1:=G1.cells rw_
 clear hS1
 rw[Jk];simp only[XY,simprocAttr,rw1]
 have o1:=(H.gr G1).go tabE tabM tabU (args:=[.ptr tt 0, .int .i64 id]) (by simp only[inVs,inV,decide_eq_true htt];rfl) e1 (Nat.le_of_ble_eq_true l1) i1
 simp only[List.map_cons,List.map_nil,mv]at o1
 refine Ju o1 ?_
 rintro v S2 ⟨G2,ψ,ag,hv,H2,_⟩
 simp only[mv,mvs]at hv
 subst hv
 have r42:=G2.cells r4
 have rw2:=G2.cells rw1
 simp only[XY,simprocAttr]
 rw[Jq,Jk];simp only[XY,simprocAttr]
 have et:ψ tt=φ tt:=ag.f tt htt
 have o2:=H2.go tabE tabM tabU (args:=[.ptr tt 0, .int .i64 x]) (by simp only[inVs,inV,decide_eq_true (show tt.num<a1.nx.num by omega)];rfl) e2 (Nat.le_of_ble_eq_true l2) i2
 simp only[List.map_cons,List.map_nil,mv,et]at o2
 rw[Jk];simp only[XY,simprocAttr,rw2]
 refine Ju o2 ?_
 rintro v S3 ⟨G3,χ,ag2,hv,H3,_⟩
 simp only[mv,mvs]at hv
 subst hv
 have s1':(mv χ a).sc=true:=by rw[jJ χ H3.num];exact s1
 have s2':(mv χ b).sc=true:=by rw[jJ χ H3.num];exact s2
 have s3':(mv χ c).sc=true:=by rw[jJ χ H3.num];exact s3
 have c1':(mv χ a).cells=some [mv χ a]:=by cases hx:mv χ a<;>first|rfl|(rw[hx]at s1';cases s1';done)
 have c2':(mv χ b).cells=some [mv χ b]:=by cases hx:mv χ b<;>first|rfl|(rw[hx]at s2';cases s2';done)
 have c3':(mv χ c).cells=some [mv χ c]:=by cases hx:mv χ c<;>first|rfl|(rw[hx]at s3';cases s3';done)
 have r43:=G3.cells r42
 have w3:=G3.wf
 obtain⟨n3,hn3⟩:∃n,S3.nx=up 0 n:=⟨_,up0 _⟩
 have o4:=fun k=>nes (jI w3 hn3 (Jj r43) k)
 obtain⟨va,hva⟩:∃v,v=mv χ a:=⟨_,rfl⟩
 obtain⟨vb,hvb⟩:∃v,v=mv χ b:=⟨_,rfl⟩
 obtain⟨vc,hvc⟩:∃v,v=mv χ c:=⟨_,rfl⟩
 rw[<-hva]at s1' c1'⊢
 rw[<-hvb]at s2' c2'⊢
 rw[<-hvc]at s3' c3'⊢
 simp only[XY,simprocAttr,hn3,s1',s2',s3',c1',c2',c3']
 refine J8 ?_
 intro S4 hS4
 have G4:Gr S3 S4:=by rw[hS4];exact(Gr.refl w3).nw hn3 (Jh _) (Jh _)
 obtain⟨p7,hp7⟩:∃b,b=up 0 n3:=⟨_,rfl⟩
 obtain⟨t7,r7⟩:∃t,S4.row p7= .cells t [.int .i64 k,va,vb,vc]:=⟨_,by rw[hS4,hp7];simp only[XZ,simprocAttr,hn3];rfl⟩
 rw[<-hp7]
 clear hS4
 have r44:=G4.cells r43
 have G04:=((G1.trans G2).trans G3).trans G4
 rw[Jk];simp only[XZ,simprocAttr,r7,r44,s1',s2',s3',c1',c2',c3']
 have hnp:∀r,S.row r≠ .none->r≠p4:=fun r e x=>e (by rw[x];exact p4n)
 exact fin _ _ (fun r e=>by simp only[JM,hnp r e,if_false];exact G04.same r e) fun _=>⟨k,va,vb,vc,rfl,s1',s2',s3'⟩
theorem oneT {Sb S:St}{φ:Rn}{aT:St}{tt w q:Pt}{cv:V}{at_ a0 d:Int}{calls:List (Str×Nat)}{ns:List Str}{nm:Str}{pr:Pt}{id:Nat}(HT:Hold φ aT S)(htt:tt.num<aT.nx.num)(hnd:nodeB aT tt id=true)
  (h:Wk0 Sb S w (.ptr (φ tt) 0) (.sl q 0 ns.length 1) cv at_ calls) (hq:∃t,S.row q= .cells t (ns.map ofL)) (hn:namesB ns nm=true) (hc:calls.length<10000):
  Does (tabT tabD) JaH [.ptr w 0, .agg [.int .i64 d, .snil, .snil], .agg (ndN 9 a0 [] nm (.slx pr 0 1 1 1)), .int .i64 id] S fun v S'=>Ch (fun r=>r=w\/rowOf cv=some r) S S'/\v= .int .i64 0/\∃cv',Wk0 Sb S' w (.ptr (φ tt) 0) (.sl q 0 ns.length 1) cv' at_ (calls++[(nm,id)])/\∀q,rowOf cv'=some q->S.row q= .none:=by
 refine Jaq tabM qP rfl h.g.wf fun K fin=> ?_
 obtain⟨n0,hn0⟩:∃n,S.nx=up 0 n:=⟨_,up0 _⟩
 have hw:=h.g.wf
 simp only[Kq,XY,simprocAttr]
 rw[Jk];simp only[XY,simprocAttr,hn0]
 refine J8 ?_
 intro S1 hS1
 have G1:Gr S S1:=by rw[hS1];exact(Gr.new hw (Jh _)).nn (Jh _)
 obtain⟨p5,hp5⟩:∃b,b=up 0 n0:=⟨_,rfl⟩
 obtain⟨p6,hp6⟩:∃b,b=up 1 n0:=⟨_,rfl⟩
 obtain⟨t5,r5⟩:∃t,S1.row p5= .cells t [.int .i64 d, .snil, .snil]:=⟨_,by rw[hS1,hp5];simp only[XZ,simprocAttr,hn0];rfl⟩
 obtain⟨t6,r6⟩:∃t,S1.row p6= .cells t (ndN 9 a0 [] nm (.slx pr 0 1 1 1)):=⟨_,by rw[hS1,hp6];simp only[XZ,simprocAttr,hn0];rfl⟩
 rw[<-hp5,<-hp6]
 clear hS1
 obtain⟨tw,rw_⟩:=h.c
 rw[Jk];simp only[XY,simprocAttr]
 refine Ju (nodeF (HT.gr G1) htt hnd ⟨tw,G1.cells rw_⟩) ?_
 rintro _ S2 ⟨G2,k,va,vb,vc,rfl,s1,s2,s3⟩
 have c1:va.cells=some [va]:=by cases va<;>first|rfl|(cases s1;done)
 have c2:vb.cells=some [vb]:=by cases vb<;>first|rfl|(cases s2;done)
 have c3:vc.cells=some [vc]:=by cases vc<;>first|rfl|(cases s3;done)
 have G02:=G1.trans G2
 have r52:=G2.cells r5
 have r62:=G2.cells r6
 have w2:=G2.wf
 obtain⟨n2,hn2⟩:∃n,S2.nx=up 0 n:=⟨_,up0 _⟩
 simp only[XY,simprocAttr,hn2,s1,s2,s3,c1,c2,c3]
 refine J8 ?_
 intro S3 hS3
 have G3:Gr S2 S3:=by rw[hS3];exact(Gr.refl w2).nw hn2 (Jh _) (Jh _)
 have r53:=G3.cells r52
 have r63:=G3.cells r62
 have G03:=G02.trans G3
 simp only[XZ,simprocAttr,r53,r63]
 refine Ju (callC (h.gr G03) (hq.imp fun t c=>G03.cells c) hn hc) ?_
 rintro _ S4 ⟨C4,rfl,cv',k4,f4⟩
 simp only[XZ,simprocAttr]
 refine fin _ _ (fun r e hW=> ?_) fun _=>⟨rfl,cv',k4,fun q hq=>Classical.byContradiction fun c=>c (by rw[<-G03.same q c];exact f4 q hq)⟩
 rw[C4.same r (by rw[G03.same r e];exact e) hW,G03.same r e]
structure CallN (Sb:St) (tv:V) (d:Int) (e:List V) (x:Str×Nat):Prop where
 ex:∃at_ pr,e=ndN 9 at_ [] x.1 (.slx pr 0 1 1 1)/\∀S,Fz Sb S->Does (tabT tabD) Jeo [tv, .agg [.int .i64 d, .snil, .snil], .slx pr 0 1 1 1] S fun v S'=>Gr S S'/\v= .tup [.int .i64 (x.2:Nat), .int .i64 0]
theorem Wk0.at {Sb S:St}{w:Pt}{tv nv cv:V}{at_ x:Int}{calls:List (Str×Nat)}{t:Nat}(h:Wk0 Sb S w tv nv cv at_ calls)(hc:S.row w= .cells t [tv,nv,cv, .int .i64 at_]):Wk0 Sb (S.wr w t fun u=> .cells u [tv,nv,cv, .int .i64 x]) w tv nv cv x calls:=by
 refine⟨h.g.wr h.wn (Jj hc) (by rw[hc];rfl) (Jh _),h.wn,⟨_,by simp only[JM,if_true];rfl⟩,h.l.keep fun r hr=> ?_,h.aw⟩
 have:r≠w:=fun e=>h.aw (by rw[<-e];exact hr)
 simp only[JM,this,if_false]
set_option maxHeartbeats 4000000 in
theorem rowT {Sb S:St}{φ:Rn}{aT:St}{tt w q:Pt}{cv bv:V}{d:Int}{es:List (List V)}{xs:List (Str×Nat)}{ns:List Str}(HT:Hold φ aT Sb)(htt:tt.num<aT.nx.num)(hq:Sb.row q≠ .none/\∃t,Sb.row q= .cells t (ns.map ofL))
  (h:Wk0 Sb S w (.ptr (φ tt) 0) (.sl q 0 ns.length 1) cv (-1) []) (hb:SlAt (fun r=>Sb.row r≠ .none) Sb bv 9 es) (hlen:es.length=xs.length) (h100:xs.length<1000)
  (hx:∀i (h:i<es.length) (h':i<xs.length),CallN Sb (.ptr (φ tt) 0) d es[i] xs[i]/\nodeB aT tt xs[i].2=true/\namesB ns xs[i].1=true):
  Does (tabT tabD) JaF [.ptr w 0, .agg [.int .i64 d, .snil, .snil],bv] S fun v S'=>(v= .int .i64 0/\WF S')/\Fz Sb S'/\∃cv',Wk0 Sb S' w (.ptr (φ tt) 0) (.sl q 0 ns.length 1) cv' (-1) xs:=by
 refine Ym qO rfl ?_
 obtain⟨hqn,tq,hq⟩:=hq
 obtain⟨tw,rw_⟩:=h.c
 have hw:=h.g.wf
 have lb:=hb.len
 obtain⟨n0,hn0⟩:∃n,S.nx=up 0 n:=⟨_,up0 _⟩
 simp only[Ko,XY,simprocAttr]
 rw[Jk];simp only[XY,simprocAttr,hn0]
 refine J8 ?_
 intro S1 hS1
 have G1:Gr S S1:=by rw[hS1];exact Gr.new hw (Jh _)
 obtain⟨p4,hp4⟩:∃b,b=up 0 n0:=⟨_,rfl⟩
 obtain⟨t4,r4⟩:∃t,S1.row p4= .cells t [.int .i64 d, .snil, .snil]:=⟨_,by rw[hS1,hp4];simp only[XZ,simprocAttr,hn0];rfl⟩
 have p4w:p4≠w:=fun e=>by
  have:S.row p4= .none:=by rw[hp4];exact nx0 hw hn0 0
  rw[e,rw_]at this
  cases this
 have p4s:Sb.row p4= .none:=Classical.byContradiction fun c=>by
  have:S.row p4= .none:=by rw[hp4];exact nx0 hw hn0 0
  rw[h.g.same p4 c]at this
  exact c this
 rw[<-hp4]
 have W1:=h.gr G1
 clear hS1
 rw[Jq,Jk];simp only[XY,simprocAttr,lb,hlen]
 obtain⟨L,hL⟩:∃L:Nat->Fr->St->Prop,∀j fr S',L j fr S'<->∃(i:Nat) (cv':V),j+i=xs.length/\fr 0= .ptr w 0/\fr 4= .ptr p4 0/\fr 12=bv/\fr 13= .int .i64 (xs.length:Nat)/\fr 14= .int .i64 i/\Wk0 Sb S' w (.ptr (φ tt) 0) (.sl q 0 ns.length 1) cv' (-1) (xs.take i)/\(∃t,S'.row p4= .cells t [.int .i64 d, .snil, .snil])/\Fz Sb S'/\rowOf cv'≠some p4:=⟨_,fun _ _ _=>Iff.rfl⟩
 have cp4:rowOf cv≠some p4:=fun e=>by
  have hl:=h.l
  rcases hl.2 with⟨e1,_⟩|⟨r,t,e1,e2,e3⟩
  ·rw[e1]at e;cases e
  ·have:r=p4:=by rcases e3 with e3|e3<;>(rw[e3]at e;injection e)
   rw[this]at e2
   have:S.row p4= .none:=by rw[hp4];exact nx0 hw hn0 0
   rw[this]at e2
   cases e2
 refine Yw L xs.length (by omega) ((hL _ _ _).2 ⟨0,cv,by omega,by simp only[XZ,simprocAttr],by simp only[XZ,simprocAttr],by simp only[XZ,simprocAttr],by simp only[XZ,simprocAttr],by simp only[XZ,simprocAttr]<;>rfl,W1,⟨t4,r4⟩,Fz.ofGr (h.g.trans G1),cp4⟩) ?_
 clear W1 r4 rw_ tw
 intro j fr S2 hLj
 obtain⟨i,cv2,hj,f0,f4,f12,f13,f14,W2,⟨t42,r42⟩,L2,a42⟩:=(hL _ _ _).1 hLj
 by_cases hi:i<xs.length
 rotate_left
 ·have hi':¬(i:Int)<xs.length:=by omega
  rw[List.take_of_length_le (by omega)]at W2
  rw[Jk];simp only[XY,simprocAttr,f13,f14,hi']
  rw[Jq];simp only[XZ,simprocAttr]
  exact⟨W2.g.wf,L2,cv2,W2⟩
 have hi':(i:Int)<xs.length:=by omega
 have hadd1:IntKind.i64.wrap ((i:Int)+1)=((i+1:Nat):Int):=by rw[QL (by omega) (by omega)];rfl
 obtain⟨⟨at_,pr,he,hpipe⟩,hnd,hnm⟩:=hx i (by omega) hi
 obtain⟨r,o,a1,hr1,_,a2,_⟩:=(hb.imp (Q:=fun _=>True) (st':=S2) fun r e _=>⟨trivial,L2.same r e⟩).elem (i:=i) (by omega)
 rw[he]at a2
 obtain⟨tw,rw_⟩:=W2.c
 obtain⟨n2,hn2⟩:∃n,S2.nx=up 0 n:=⟨_,up0 _⟩
 have lp:lenLV (.slx pr 0 1 1 1)=some (.int .i64 1, .no):=rfl
 rw[Jk];simp only[XY,simprocAttr,f13,f14,hi']
 rw[Jq];simp only[XY,simprocAttr]
 rw[Jq];simp only[XY,simprocAttr]
 rw[Jk];simp only[XY,simprocAttr,f12,f14,a1,a2,hn2]
 refine J8 ?_
 intro S3 hS3
 have w2:=W2.g.wf
 have G3:Gr S2 S3:=by rw[hS3];exact(Gr.refl w2).nw hn2 (Jh _) (Jh _)
 obtain⟨p8,hp8⟩:∃b,b=up 0 n2:=⟨_,rfl⟩
 obtain⟨t8,r8⟩:∃t,S3.row p8= .cells t (ndN 9 at_ [] xs[i].1 (.slx pr 0 1 1 1)):=⟨_,by rw[hS3,hp8];simp only[XZ,simprocAttr,hn2];rfl⟩
 have p8n:S2.row p8= .none:=by rw[hp8];exact nx0 w2 hn2 0
 rw[<-hp8]
 clear hS3
 have rw3:=G3.cells rw_
 have r43:=G3.cells r42
 have L3:=Fz.more L2 G3
 rw[Jk];simp only[XY,simprocAttr]
 rw[Jq,Jk];simp only[XY,simprocAttr,r8,lp,f0,f4,rw3,r43]
 refine Qr ((hpipe _ (L3.low _)).mono fun v S h=>h) ?_
 rintro _ S4 G4 rfl
 have rw4:=G4.cells rw3
 have r44:=G4.cells r43
 have r84:=G4.cells r8
 have L4:=Fz.more L3 G4
 have W4:=W2.gr (G3.trans G4)
 simp only[XY,simprocAttr]
 rw[Jk];simp only[XY,simprocAttr,f0,rw4]
 rw[Jk];simp only[XY,simprocAttr,f0,rw4]
 refine J8 ?_
 intro S5 hS5
 have W5:Wk0 Sb S5 w (.ptr (φ tt) 0) (.sl q 0 ns.length 1) cv2 (-1) (xs.take i):=by rw[hS5];exact W4.at rw4
 have k5:∀r,r≠w->S5.row r=S4.row r:=fun r e=>by rw[hS5];simp only[JM,e,if_false]
 have p8w:p8≠w:=fun e=>by rw[e,rw_]at p8n;cases p8n
 have cvr:∀r,rowOf cv2=some r->S2.row r≠ .none:=fun r hr=>by
  obtain⟨_,t,c⟩:=W2.l.row hr
  exact Jj c
 have r85:S5.row p8= .cells t8 (ndN 9 at_ [] xs[i].1 (.slx pr 0 1 1 1)):=(k5 p8 p8w).trans r84
 have r45:S5.row p4= .cells t42 [.int .i64 d, .snil, .snil]:=(k5 p4 p4w).trans r44
 have L5:Fz Sb S5:=Fz.ofGr W5.g
 clear hS5
 obtain⟨t5,rw5⟩:=W5.c
 have hq5:∃t,S5.row q= .cells t (ns.map ofL):=⟨tq,by rw[L5.same q hqn,hq]⟩
 rw[Jq,Jk];simp only[XY,simprocAttr,f0,f4,r45,r85]
 refine Ju (oneT (HT.fz L5) htt hnd W5 hq5 hnm (by simp;omega)) ?_
 rintro _ S6 ⟨C6,rfl,cv6,W6,f6⟩
 have r86:S6.row p8= .cells t8 (ndN 9 at_ [] xs[i].1 (.slx pr 0 1 1 1)):=by
  rw[C6.same p8 (Jj r85) fun h=>by rcases h with h|h;exact p8w h;exact cvr _ h p8n]
  exact r85
 have r46:S6.row p4= .cells t42 [.int .i64 d, .snil, .snil]:=by
  rw[C6.same p4 (Jj r45) fun h=>by rcases h with h|h;exact p4w h;exact a42 h]
  exact r45
 obtain⟨t6,rw6⟩:=W6.c
 simp only[XY,simprocAttr]
 rw[Jq,Jk];simp only[XY,simprocAttr]
 rw[Jk];simp only[XY,simprocAttr,f0,rw6]
 refine J8 ?_
 intro S7 hS7
 have W7:Wk0 Sb S7 w (.ptr (φ tt) 0) (.sl q 0 ns.length 1) cv6 (-1) (xs.take i++[(xs[i].1,xs[i].2)]):=by rw[hS7];exact W6.at rw6
 have k7:∀r,r≠w->S7.row r=S6.row r:=fun r e=>by rw[hS7];simp only[JM,e,if_false]
 have r87:=(k7 p8 p8w).trans r86
 have r47:=(k7 p4 p4w).trans r46
 clear hS7
 rw[Jk];simp only[XZ,simprocAttr,r87,f0,f4,f12,f13,f14,hadd1]
 refine⟨xs.length-(i+1),by omega,(hL _ _ _).2 ⟨i+1,cv6,by omega,by simp only[XZ,simprocAttr,f0],by simp only[XZ,simprocAttr,f4],by simp only[XZ,simprocAttr,f12],by simp only[XZ,simprocAttr,f13],by simp only[XZ,simprocAttr], ?_,⟨_,r47⟩,Fz.ofGr W7.g,fun e=> ?_⟩⟩
 ·have e:xs.take i++[(xs[i].1,xs[i].2)]=xs.take (i+1):=by rw[List.take_add_one,List.getElem?_eq_getElem hi];rfl
  rw[<-e];exact W7
 ·exact Jj r45 (f6 p4 e)
theorem bodyT {S:St}{φ:Rn}{aT:St}{tt q:Pt}{bv:V}{d:Int}{es:List (List V)}{xs:List (Str×Nat)}{ns:List Str}(HT:Hold φ aT S)(htt:tt.num<aT.nx.num)(hq:∃t,S.row q= .cells t (ns.map ofL))
  (hb:SlAt (fun _=>True) S bv 9 es) (hlen:es.length=xs.length) (h100:xs.length<1000)
  (hx:∀i (h:i<es.length) (h':i<xs.length),CallN S (.ptr (φ tt) 0) d es[i] xs[i]/\nodeB aT tt xs[i].2=true/\namesB ns xs[i].1=true):
  Does (tabT tabD) Yj [.ptr (φ tt) 0, .sl q 0 ns.length 1, .int .i64 d,bv] S fun v S'=>Fz S S'/\∃cv,v= .tup [cv, .int .i64 0, .int .i64 0]/\SlF S S' cv 2 (xs.map clE):=by
 refine Ym Je5 rfl ?_
 have hw:=HT.wf
 obtain⟨n0,hn0⟩:∃n,S.nx=up 0 n:=⟨_,up0 _⟩
 obtain⟨tq,hq⟩:=hq
 simp only[QW,XY,simprocAttr]
 rw[Jk];simp only[XY,simprocAttr]
 rw[Jk];simp only[XY,simprocAttr,hn0]
 refine J8 ?_
 intro S1 hS1
 have G1:Gr S S1:=by rw[hS1];exact Gr.new hw (Jh _)
 obtain⟨w,hpw⟩:∃b,b=up 0 n0:=⟨_,rfl⟩
 obtain⟨t1,r1⟩:∃t,S1.row w= .cells t [.ptr (φ tt) 0, .sl q 0 ns.length 1, .snil, .int .i64 (-1)]:=⟨_,by rw[hS1,hpw];simp only[XZ,simprocAttr,hn0];rfl⟩
 have wn:S.row w= .none:=by rw[hpw];exact nx0 hw hn0 0
 rw[<-hpw]
 clear hS1
 have W1:Wk0 S S1 w (.ptr (φ tt) 0) (.sl q 0 ns.length 1) .snil (-1) []:=⟨G1,wn,⟨t1,r1⟩,SlF.nil _ _ _,fun e=>by cases e⟩
 rw[Jq,Jk];simp only[XY,simprocAttr]
 refine Ju (rowT HT htt ⟨Jj hq,tq,hq⟩ W1 (hb.imp fun r _ e=>⟨e,rfl⟩) hlen h100 hx) ?_
 rintro _ S2 ⟨⟨rfl,w2⟩,L2,cv,W2⟩
 obtain⟨t2,r2⟩:=W2.c
 simp only[XZ,simprocAttr,r2]
 exact⟨L2,cv,rfl,W2.l⟩
def One (v:V):Prop:=v.sc=true/\v.cells=some [v]
theorem One.of {v:V}(h:v.sc=true):One v:=⟨h,by cases v<;>first|rfl|(cases h;done)⟩
theorem Jil {ds rs:List (List V)}{z e:List V}{n:Nat}(hds:∀x∈ds,x.length=n)(hz:z.length=n)(he:e.length=n):splice (ds++z::rs).flatten (ds.length*n) e=(ds++e::rs).flatten:=by
 have hl:ds.flatten.length=ds.length*n:=JE hds
 simp only[splice,List.flatten_append,List.flatten_cons]
 rw[<-hl,List.take_left,List.drop_append]
 have:List.drop (ds.flatten.length+e.length) ds.flatten=[]:=List.drop_eq_nil_of_le (by omega)
 rw[this]
 have h2:ds.flatten.length+e.length-ds.flatten.length=z.length:=by omega
 rw[h2,List.drop_left]
 simp
theorem Jhe {ds rs:List (List V)}{e:List V}{n:Nat}(hds:∀x∈ds,x.length=n)(he:e.length=n):((ds++e::rs).flatten.drop (ds.length*n)).take n=e:=by
 have hl:ds.flatten.length=ds.length*n:=JE hds
 simp only[List.flatten_append,List.flatten_cons]
 rw[<-hl,List.drop_left,<-he,List.take_left]
theorem rowCopy {S:St}{bv:V}{es:List (List V)}(hw:WF S)(hb:SlAt (fun _=>True) S bv 9 es)(h100:es.length<1000)(hnil:pureB (tabT tabD) YA [.snil] .snil=true)(hcase:pureB (tabT tabD) ka [.snil] .snil=true)
  (hx:∀i (h:i<es.length),∃at_ nm pr,es[i]=ndN 9 at_ [] nm (.slx pr 0 1 1 1)/\∀S',Fz S S'->Does (tabT tabD) Y9 [.slx pr 0 1 1 1] S' fun v S''=>Gr S' S''/\One v):
  Does (tabT tabD) YA [bv] S fun v S'=>Gr S S'/\One v:=by
 refine kU tabM Jhi rfl hw fun K fin=> ?_
 have hok:okC es:=fun e he=>by
  obtain⟨i,hi,rfl⟩:=List.getElem_of_mem he
  obtain⟨at_,nm,pr,e,_⟩:=hx i hi
  rw[e];rfl
 simp only[Yi,XY,simprocAttr]
 rw[Jk];simp only[XY,simprocAttr]
 rw[Jk];simp only[XY,simprocAttr]
 refine Ju (Jha hw hb hok (by omega)) ?_
 rintro ov S1 ⟨G1,h1⟩
 have lo:=h1.at.len
 have so:=h1.at.sc
 simp only[XY,simprocAttr]
 rw[Jq,Jk];simp only[XY,simprocAttr,lo]
 obtain⟨L,hL⟩:∃L:Nat->Fr->St->Prop,∀j fr S',L j fr S'<->∃(i:Nat) (ds:List (List V)),j+i=es.length/\ds.length=i/\fr 3=ov/\fr 10=ov/\fr 11= .int .i64 (es.length:Nat)/\fr 12= .int .i64 i/\Fz S S'/\SlF S S' ov 9 (ds++es.drop i):=⟨_,fun _ _ _=>Iff.rfl⟩
 refine Yw L es.length (by omega) ((hL _ _ _).2 ⟨0,[],by omega,rfl,by simp only[XZ,simprocAttr],by simp only[XZ,simprocAttr],by simp only[XZ,simprocAttr],by simp only[XZ,simprocAttr]<;>rfl,Fz.ofGr G1,by simpa using h1⟩) ?_
 clear h1
 intro j fr S2 hLj
 obtain⟨i,ds,hj,hds,f3,f10,f11,f12,L2,h2⟩:=(hL _ _ _).1 hLj
 by_cases hi:i<es.length
 rotate_left
 ·have hi':¬(i:Int)<es.length:=by omega
  rw[Jk];simp only[XY,simprocAttr,f11,f12,hi']
  rw[Jq];simp only[XZ,simprocAttr,f3]
  exact fin _ _ L2.same fun _=>One.of so
 have hi':(i:Int)<es.length:=by omega
 have hadd1:IntKind.i64.wrap ((i:Int)+1)=((i+1:Nat):Int):=by rw[QL (by omega) (by omega)];rfl
 rw[List.drop_eq_getElem_cons hi]at h2
 obtain⟨at_,nm,pr,he,hpipe⟩:=hx i hi
 rw[he]at h2
 have hlen:(ds++ndN 9 at_ [] nm (.slx pr 0 1 1 1)::es.drop (i+1)).length=es.length:=by simp;omega
 have hds9:∀x∈ds,x.length=9:=fun x hx=>h2.1 x (List.mem_append_left _ hx)
 obtain⟨q,t2,q1,q2,q3⟩:∃r t,S.row r= .none/\S2.row r= .cells t (ds++ndN 9 at_ [] nm (.slx pr 0 1 1 1)::es.drop (i+1)).flatten/\(ov= .sl r 0 es.length 9\/ov= .slx r 0 es.length 9 es.length):=by
  rcases h2.2 with⟨_,e⟩|⟨r,t,k1,k2,k3⟩
  ·have:=congrArg List.length e
   rw[hlen]at this
   have:es.length=0:=this
   omega
  ·rw[hlen]at k3;exact⟨r,t,k1,k2,k3⟩
 have hfl:=JE h2.1
 rw[hlen]at hfl
 have hiz:i*9+9<=es.length*9:=by rw[<-Nat.succ_mul];exact Nat.mul_le_mul_right _ hi
 have ha:iaddrSV 9 ov (.int .i64 (i:Nat))=some (.ptr q (i*9), .no):=by
  rcases q3 with e|e
  ·rw[e,YD,if_pos (by omega)];simp
  ·rw[e,YW,if_pos (by omega)];simp
 have hld:ldn (S2.row q) (i*9) 9=some (.agg (ndN 9 at_ [] nm (.slx pr 0 1 1 1)), .no):=by
  rw[q2,j0,if_pos (by omega),<-hds,Jhe hds9 rfl]
 have w2:=L2.wf
 obtain⟨n2,hn2⟩:∃n,S2.nx=up 0 n:=⟨_,up0 _⟩
 rw[Jk];simp only[XY,simprocAttr,f11,f12,hi']
 rw[Jq];simp only[XY,simprocAttr]
 rw[Jq];simp only[XY,simprocAttr]
 rw[Jk];simp only[XY,simprocAttr,f10,f12,ha,hld,hn2]
 refine J8 ?_
 intro S3 hS3
 have G3:Gr S2 S3:=by rw[hS3];exact(Gr.refl w2).nw hn2 (Jh _) (Jh _)
 obtain⟨p5,hp5⟩:∃b,b=up 0 n2:=⟨_,rfl⟩
 obtain⟨t5,r5⟩:∃t,S3.row p5= .cells t (ndN 9 at_ [] nm (.slx pr 0 1 1 1)):=⟨_,by rw[hS3,hp5];simp only[XZ,simprocAttr,hn2];rfl⟩
 have p5n:S2.row p5= .none:=by rw[hp5];exact nx0 w2 hn2 0
 rw[<-hp5]
 clear hS3
 have L3:=Fz.more L2 G3
 rw[Jk];simp only[XY,simprocAttr,r5]
 refine Qr (hpipe _ (L3.low _)) ?_
 rintro pv S4 G4 hpv
 have r54:=G4.cells r5
 simp only[XY,simprocAttr,r54]
 refine Qr (pureC tabE tabM tabU hnil rfl rfl (Ys G4.wf _)) ?_
 rintro _ S5 G5 rfl
 have r55:=G5.cells r54
 simp only[XY,simprocAttr,r55]
 refine Qr (pureC tabE tabM tabU hnil rfl rfl (Ys G5.wf _)) ?_
 rintro _ S6 G6 rfl
 have r56:=G6.cells r55
 simp only[XY,simprocAttr,r56]
 refine Qr (pureC tabE tabM tabU hcase rfl rfl (Ys G6.wf _)) ?_
 rintro _ S7 G7 rfl
 have r57:=G7.cells r56
 have G37:=((G4.trans G5).trans G6).trans G7
 simp only[XY,simprocAttr,r57,hpv.1,hpv.2]
 refine J8 ?_
 intro S8 hS8
 have G8:Gr S2 S8:=by
  rw[hS8]
  refine Gr.wr (Gr.wr (Gr.wr (Gr.wr (G3.trans G37) p5n ?_ ?_ (Jh _)) p5n ?_ ?_ (Jh _)) p5n ?_ ?_ (Jh _)) p5n ?_ ?_ (Jh _)
  all_goals first
   |(simp only[XZ,simprocAttr,r57];done)
   |(simp only[XZ,simprocAttr,r57];rfl)
   |(intro e;simp only[XZ,simprocAttr,r57]at e;cases e)
 obtain⟨t8,r58⟩:∃t,S8.row p5= .cells t (ndN 9 at_ [] nm pv):=⟨_,by rw[hS8];simp only[XZ,simprocAttr];rfl⟩
 clear hS8
 have l0:lenLV .snil=some (.int .i64 0, .no):=rfl
 have q8:S8.row q= .cells t2 (ds++ndN 9 at_ [] nm (.slx pr 0 1 1 1)::es.drop (i+1)).flatten:=by rw[G8.same q (Jj q2),q2]
 have L8:=Fz.more L2 G8
 rw[Jq,Jk];simp only[XY,simprocAttr,r58,l0]
 refine JmN (by omega) ?_
 rw[Jk];simp only[XY,simprocAttr]
 rw[Jq];simp only[XY,simprocAttr]
 have hle:i*9+9<=(ds++ndN 9 at_ [] nm (.slx pr 0 1 1 1)::es.drop (i+1)).flatten.length:=by omega
 simp only[XM,simprocAttr,f3,r58,ha,q8,hle,hpv.1,hpv.2,f10,f11,f12,hadd1]
 refine⟨es.length-(i+1),by omega,(hL _ _ _).2 ⟨i+1,ds++[ndN 9 at_ [] nm pv],by omega,by simp[hds],by simp only[XZ,simprocAttr,f3],by simp only[XZ,simprocAttr,f10],by simp only[XZ,simprocAttr,f11],by simp only[XZ,simprocAttr], ?_, ?_⟩⟩
 ·exact L8.ch (W:=fun r=>r=q) ((Ch.refl (fun r=>r=q) L8.wf).wr (Jj q8) (by rw[q8];rfl) (.inl rfl) (Jh _)) fun r e=>by rw[e];exact q1
 ·have e1:(ds++[ndN 9 at_ [] nm pv])++es.drop (i+1)=ds++ndN 9 at_ [] nm pv::es.drop (i+1):=by simp
  rw[e1]
  have hl2:(ds++ndN 9 at_ [] nm pv::es.drop (i+1)).length=es.length:=by simp;omega
  refine⟨fun x hx=> ?_, .inr ⟨q,S8.t,q1, ?_,by rw[hl2];exact q3⟩⟩
  ·rcases List.mem_append.1 hx with hx|hx
   ·exact hds9 x hx
   ·rcases List.mem_cons.1 hx with rfl|hx
    ·rfl
    ·exact hb.1 x (List.mem_of_mem_drop hx)
  ·simp only[JM,if_true]
   rw[<-hds,Jil hds9 rfl rfl]
theorem Jhf {ds rs:List (List V)}{a b c:V}(hds:∀x∈ds,x.length=2):splice (ds++[a,b]::rs).flatten (ds.length*2+1) [c]=(ds++[a,c]::rs).flatten:=by
 have hl:ds.flatten.length=ds.length*2:=JE hds
 simp only[splice,List.flatten_append,List.flatten_cons]
 rw[<-hl]
 generalize ds.flatten=L
 rw[List.take_length_add_append,show L.length+1+[c].length=L.length+2 from rfl,List.drop_length_add_append]
 simp
theorem Jny {S:St}{lv:V}{es:List (List V)}(hw:WF S)(hb:SlAt (fun _=>True) S lv 2 es)(h100:es.length<1000)
  (hx:∀i (h:i<es.length),∃nm bv,es[i]=[ofL nm,bv]/\bv.sc=true/\∀S',Fz S S'->Does (tabT tabD) YA [bv] S' fun v S''=>Gr S' S''/\One v):
  Does (tabT tabD) jc [lv] S fun v S'=>Gr S S'/\One v:=by
 refine kU tabM JaC rfl hw fun K fin=> ?_
 have hok:okC es:=fun e he=>by
  obtain⟨i,hi,rfl⟩:=List.getElem_of_mem he
  obtain⟨nm,bv,e,s,_⟩:=hx i hi
  rw[e]
  simp only[allSc,List.all_cons,List.all_nil,s]
  rfl
 simp only[KB,XY,simprocAttr]
 rw[Jk];simp only[XY,simprocAttr]
 rw[Jk];simp only[XY,simprocAttr]
 refine Ju (Jbr hw hb hok (by omega)) ?_
 rintro ov S1 ⟨G1,h1⟩
 have lo:=h1.at.len
 have so:=h1.at.sc
 simp only[XY,simprocAttr]
 rw[Jq,Jk];simp only[XY,simprocAttr,lo]
 obtain⟨L,hL⟩:∃L:Nat->Fr->St->Prop,∀j fr S',L j fr S'<->∃(i:Nat) (ds:List (List V)),j+i=es.length/\ds.length=i/\fr 3=ov/\fr 8=ov/\fr 9= .int .i64 (es.length:Nat)/\fr 10= .int .i64 i/\Fz S S'/\SlF S S' ov 2 (ds++es.drop i):=⟨_,fun _ _ _=>Iff.rfl⟩
 refine Yw L es.length (by omega) ((hL _ _ _).2 ⟨0,[],by omega,rfl,by simp only[XZ,simprocAttr],by simp only[XZ,simprocAttr],by simp only[XZ,simprocAttr],by simp only[XZ,simprocAttr]<;>rfl,Fz.ofGr G1,by simpa using h1⟩) ?_
 clear h1
 intro j fr S2 hLj
 obtain⟨i,ds,hj,hds,f3,f8,f9,f10,L2,h2⟩:=(hL _ _ _).1 hLj
 by_cases hi:i<es.length
 rotate_left
 ·have hi':¬(i:Int)<es.length:=by omega
  rw[Jk];simp only[XY,simprocAttr,f9,f10,hi']
  rw[Jq];simp only[XZ,simprocAttr,f3]
  exact fin _ _ L2.same fun _=>One.of so
 have hi':(i:Int)<es.length:=by omega
 have hadd1:IntKind.i64.wrap ((i:Int)+1)=((i+1:Nat):Int):=by rw[QL (by omega) (by omega)];rfl
 rw[List.drop_eq_getElem_cons hi]at h2
 obtain⟨nm,bv,he,hsc,hrow⟩:=hx i hi
 have hcl:=(One.of hsc).2
 rw[he]at h2
 have hlen:(ds++[ofL nm,bv]::es.drop (i+1)).length=es.length:=by simp;omega
 have hds2:∀x∈ds,x.length=2:=fun x hx=>h2.1 x (List.mem_append_left _ hx)
 obtain⟨q,t2,q1,q2,q3⟩:∃r t,S.row r= .none/\S2.row r= .cells t (ds++[ofL nm,bv]::es.drop (i+1)).flatten/\(ov= .sl r 0 es.length 2\/ov= .slx r 0 es.length 2 es.length):=by
  rcases h2.2 with⟨_,e⟩|⟨r,t,k1,k2,k3⟩
  ·have:=congrArg List.length e
   rw[hlen]at this
   have:es.length=0:=this
   omega
  ·rw[hlen]at k3;exact⟨r,t,k1,k2,k3⟩
 have hfl:=JE h2.1
 rw[hlen]at hfl
 have hiz:i*2+2<=es.length*2:=by omega
 have ha:iaddrSV 2 ov (.int .i64 (i:Nat))=some (.ptr q (i*2), .no):=by
  rcases q3 with e|e
  ·rw[e,YD,if_pos (by omega)];simp
  ·rw[e,YW,if_pos (by omega)];simp
 have hld:ldn (S2.row q) (i*2) 2=some (.agg [ofL nm,bv], .no):=by
  rw[q2,j0,if_pos (by omega),<-hds,Jhe hds2 rfl]
 have w2:=L2.wf
 obtain⟨n2,hn2⟩:∃n,S2.nx=up 0 n:=⟨_,up0 _⟩
 rw[Jk];simp only[XY,simprocAttr,f9,f10,hi']
 rw[Jq];simp only[XY,simprocAttr]
 rw[Jq];simp only[XY,simprocAttr]
 rw[Jk];simp only[XY,simprocAttr,f3,f8,f10,ha,hld,hn2,hsc,hcl]
 refine Jh8 ?_
 intro S3 hS3
 have G3:Gr S2 S3:=by rw[hS3];exact(Gr.refl w2).nw hn2 (Jh _) (Jh _)
 obtain⟨p5,hp5⟩:∃b,b=up 0 n2:=⟨_,rfl⟩
 obtain⟨t5,r5⟩:∃t,S3.row p5= .cells t [ofL nm,bv]:=⟨_,by rw[hS3,hp5];simp only[XZ,simprocAttr,hn2];rfl⟩
 rw[<-hp5]
 clear hS3
 have L3:=Fz.more L2 G3
 refine Ju (hrow _ L3) ?_
 rintro v4 S4 ⟨G4,hv4⟩
 have G24:=G3.trans G4
 have q4:S4.row q= .cells t2 (ds++[ofL nm,bv]::es.drop (i+1)).flatten:=by rw[G24.same q (Jj q2),q2]
 have L4:=Fz.more L2 G24
 have hle:i*2+1+1<=(ds++[ofL nm,bv]::es.drop (i+1)).flatten.length:=by omega
 simp only[XM,simprocAttr,ha,q4,hle,hv4.1,hv4.2,f3,f8,f9,f10,hadd1]
 refine⟨es.length-(i+1),by omega,(hL _ _ _).2 ⟨i+1,ds++[[ofL nm,v4]],by omega,by simp[hds],by simp only[XZ,simprocAttr,f3],by simp only[XZ,simprocAttr,f8],by simp only[XZ,simprocAttr,f9],by simp only[XZ,simprocAttr], ?_, ?_⟩⟩
 ·exact L4.ch (W:=fun r=>r=q) ((Ch.refl (fun r=>r=q) L4.wf).wr (Jj q4) (by rw[q4];rfl) (.inl rfl) (Jh _)) fun r e=>by rw[e];exact q1
 ·have e1:(ds++[[ofL nm,v4]])++es.drop (i+1)=ds++[ofL nm,v4]::es.drop (i+1):=by simp
  rw[e1]
  have hl2:(ds++[ofL nm,v4]::es.drop (i+1)).length=es.length:=by simp;omega
  refine⟨fun x hx=> ?_, .inr ⟨q,S4.t,q1, ?_,by rw[hl2];exact q3⟩⟩
  ·rcases List.mem_append.1 hx with hx|hx
   ·exact hds2 x hx
   ·rcases List.mem_cons.1 hx with rfl|hx
    ·rfl
    ·exact hb.1 x (List.mem_of_mem_drop hx)
  ·simp only[JM,if_true]
   rw[<-hds,Jhf hds2]
def tmE (x:Str×V):List V:=[ofL x.1,x.2]
theorem _root_.Eva.Fz.trans {a b c:St}(h:Fz a b)(k:Fz b c):Fz a c:=Fz.more (h.low c.low) k.gr
theorem kZ {α:Type}[DecidableEq α]:∀(l acc:List α),∃t,dedS acc l=acc++t/\(∀y∈t,y∈l)/\t.length<=l.length
 |[],acc=>⟨[],by simp[dedS],by simp,Nat.le_refl _⟩
 | x::r,acc=>by
   by_cases h:x∈acc
   ·obtain⟨t,a,b,c⟩:=kZ r acc
    exact⟨t,by rw[dedS,if_pos h,a],fun y hy=>List.mem_cons_of_mem _ (b y hy),Nat.le_succ_of_le c⟩
   ·obtain⟨t,a,b,c⟩:=kZ r (acc++[x])
    refine⟨x::t,by rw[dedS,if_neg h,a];simp,fun y hy=> ?_,Nat.succ_le_succ c⟩
    rcases List.mem_cons.1 hy with rfl|hy
    ·exact List.mem_cons_self ..
    ·exact List.mem_cons_of_mem _ (b y hy)
theorem _root_.Eva.CntAt.le {S:St}{r:Pt}{ps:List (Str×Nat)}{m m':Nat}(h:CntAt S r ps m)(l:m<=m'):CntAt S r ps m':=by
 obtain⟨es,a,b,c⟩:=h
 exact⟨es,a,fun p hp=>by obtain⟨x,e,f,g⟩:=b p hp;exact⟨x,e,f,Nat.le_trans g l⟩,c⟩
def nmE (x:Str×V):List V:=[ofL x.1]
theorem SlF.fz {S0 S S':St}{v:V}{z:Nat}{es:List (List V)}(h:SlF S0 S v z es)(g:∀r,S.row r≠ .none->S'.row r=S.row r):SlF S0 S' v z es:=h.keep fun r hr=>g r (h.some hr)
set_option maxHeartbeats 4000000 in
theorem checkC {S:St}{x0 x1 x2 x3 x4 x5 lv:V}{ts:List (Str×V)}{xs:List (Str×Nat)}{P:St->St->V->Prop}{m0:Nat}(hw:WF S)
  (hx:One x0/\One x1/\One x2/\One x3/\One x4/\One x5) (hlv:One lv)
  (hl:SlAt (fun r=>S.row r≠ .none) S lv 2 (ts.map tmE)) (hts:∀i (h:i<ts.length),at_ ts[i].1 (ts.take i)=none) (htl:ts.length<1000) (ht2:2<=ts.length) (ht1:∀x∈ts,One x.2) (hxs:xs.length<1000)
  (hPk:∀{S0 S1 S2 tb},P S0 S1 tb->Fz S1 S2->P S0 S2 tb)
  (hPw:∀{S0 S1 S2 tb} {W:Pt->Prop},P S0 S1 tb->Ch W S1 S2->(∀r,W r->S.row r= .none/\S0.row r≠ .none)->P S0 S2 tb)
  (hPo:∀{S0 S1 tb},P S0 S1 tb->One tb)
  (hNew:∀S',Fz S S'->Does (tabT tabD) qM [.agg [x0,x1,x2,x3,x4,x5]] S' fun v S''=>Gr S' S''/\∃tb,v= .tup [tb, .int .i64 0]/\P S' S'' tb)
  (hSch:∀S',Fz S S'->Does (tabT tabD) qt [.agg [x0,x1,x2,x3,x4,x5]] S' fun v S''=>Gr S' S''/\∃y0 y1 y2 y3 y4 y5,v= .agg [y0,y1,y2,y3,y4,y5]/\One y0/\One y1/\One y2/\One y3/\One y4/\One y5)
  (hTpl:∀S',Fz S S'->Does (tabT tabD) jc [lv] S' fun v S''=>Gr S' S''/\One v)
  (hMain:∀S0 S' tb,P S0 S' tb->Does (tabT tabD) kK [tb] S' fun v S''=>Gr S' S''/\v= .int .i64 (m0:Nat))
  (hB0:∃bv,at_ [] ts=some bv/\One bv/\∀S0 SN S' tb q,Fz S S'->P S0 SN tb->Fz SN S'->SN.row q= .none->S.row q= .none->(∃t,S'.row q= .cells t (((ts.drop 1).map (·.1)).map ofL))->Does (tabT tabD) Yj [tb, .sl q 0 (ts.drop 1).length 1, .int .i64 (m0:Nat),bv] S' fun v S''=>Fz S' S''/\∃cv,v= .tup [cv, .int .i64 0, .int .i64 0]/\SlF S' S'' cv 2 (xs.map clE))
  (hB1:∀x∈xs,∃bv,at_ x.1 ts=some bv/\One bv/\∀S0 SN S' tb q,Fz S S'->P S0 SN tb->Fz SN S'->SN.row q= .none->S.row q= .none->(∃t,S'.row q= .cells t (((ts.drop 1).map (·.1)).map ofL))->Does (tabT tabD) Yj [tb, .sl q 0 (ts.drop 1).length 1, .int .i64 (x.2:Nat),bv] S' fun v S''=>Fz S' S''/\∃cv,v= .tup [cv, .int .i64 0, .int .i64 0]/\SlF S' S'' cv 2 []):
  Does (tabT tabD) Jaz [.agg [x0,x1,x2,x3,x4,x5],lv] S fun v S'=>Gr S S'/\∃r S0 y0 y1 y2 y3 y4 y5 tv tb pv,v= .tup [.ptr r 0, .agg [.int .i64 0,ofL [], .int .i64 0]]/\(∃t,S'.row r= .cells t [y0,y1,y2,y3,y4,y5,tv,tb,pv])/\Fz S S0/\P S0 S' tb/\SlF S S' pv 2 ((dedS [([],m0)] xs).map clE):=by
 refine kU tabM Jc1 rfl hw fun K fin=> ?_
 obtain⟨⟨sx0,cx0⟩,⟨sx1,cx1⟩,⟨sx2,cx2⟩,⟨sx3,cx3⟩,⟨sx4,cx4⟩,⟨sx5,cx5⟩⟩:=hx
 have lh:=hl.len
 rw[List.length_map]at lh
 obtain⟨n0,hn0⟩:∃n,S.nx=up 0 n:=⟨_,up0 _⟩
 simp only[QJ,XY,simprocAttr]
 rw[Jk];simp only[XY,simprocAttr,hn0,sx0,sx1,sx2,sx3,sx4,sx5,cx0,cx1,cx2,cx3,cx4,cx5]
 refine J8 ?_
 intro S1 hS1
 have G1:Gr S S1:=by rw[hS1];exact(Gr.new hw (Jh _)).nn (Jh _)
 obtain⟨p2,hp2⟩:∃b,b=up 0 n0:=⟨_,rfl⟩
 obtain⟨p5,hp5⟩:∃b,b=up 1 n0:=⟨_,rfl⟩
 obtain⟨t2,r2⟩:∃t,S1.row p2= .cells t [x0,x1,x2,x3,x4,x5]:=⟨_,by rw[hS1,hp2];simp only[XZ,simprocAttr,hn0];rfl⟩
 obtain⟨t5,r5⟩:∃t,S1.row p5= .cells t [.int .i64 0,ofL [], .int .i64 0]:=⟨_,by rw[hS1,hp5];simp only[XZ,simprocAttr,hn0];rfl⟩
 have p5n:S.row p5= .none:=by rw[hp5];exact nx0 hw hn0 1
 rw[<-hp2,<-hp5]
 clear hS1
 rw[Jk];simp only[XY,simprocAttr,r2]
 refine Ju (hNew _ (Fz.ofGr G1)) ?_
 rintro _ SN ⟨GN,tb,rfl,hPN⟩
 have r2N:=GN.cells r2
 have r5N:=GN.cells r5
 have L1:=G1.trans GN
 have otb:=(hPo hPN).2
 have stb:=(hPo hPN).1
 simp only[XY,simprocAttr]
 rw[Jq,Jk];simp only[XY,simprocAttr,stb,otb]
 rw[Jk];simp only[XY,simprocAttr,r2N]
 refine Ju (hSch _ (Fz.ofGr L1)) ?_
 rintro _ S2 ⟨G2,y0,y1,y2,y3,y4,y5,rfl,⟨sy0,cy0⟩,⟨sy1,cy1⟩,⟨sy2,cy2⟩,⟨sy3,cy3⟩,⟨sy4,cy4⟩,⟨sy5,cy5⟩⟩
 simp only[XY,simprocAttr]
 refine Ju (hTpl _ (Fz.ofGr (L1.trans G2))) ?_
 rintro tv S3 ⟨G3,⟨stv,ctv⟩⟩
 simp only[XY,simprocAttr]
 refine Ju (hMain _ _ _ (hPk hPN (Fz.ofGr (G2.trans G3)))) ?_
 rintro _ S4 ⟨G4,rfl⟩
 have GN4:=(G2.trans G3).trans G4
 obtain⟨n4,hn4⟩:∃n,S4.nx=up 0 n:=⟨_,up0 _⟩
 simp only[XY,simprocAttr,stb,otb,stv,ctv,sy0,cy0,sy1,cy1,sy2,cy2,sy3,cy3,sy4,cy4,sy5,cy5,hn4]
 rw[Jk];simp only[XY,simprocAttr,hn4]
 rw[Jk];simp only[XY,simprocAttr]
 refine J8 ?_
 intro S5 hS5
 have G5:Gr S4 S5:=by rw[hS5];exact((Gr.new GN4.wf (Jh _)).nn (Jh _)).nn (Jap _)
 obtain⟨q0,hq0⟩:∃b,b=up 0 n4:=⟨_,rfl⟩
 obtain⟨ps,hps⟩:∃b,b=up 1 n4:=⟨_,rfl⟩
 obtain⟨rb,hrb⟩:∃b,b=up 2 n4:=⟨_,rfl⟩
 obtain⟨tq,rq5⟩:∃t,S5.row q0= .cells t [ofL [], .int .i64 (m0:Nat)]:=⟨_,by rw[hS5,hq0];simp only[XZ,simprocAttr,hn4];rfl⟩
 obtain⟨tp,rp5⟩:∃t,S5.row ps= .cells t [y0,y1,y2,y3,y4,y5,tv,tb, .slx q0 0 1 2 1]:=⟨_,by rw[hS5,hps,hq0];simp only[XZ,simprocAttr,hn4];rfl⟩
 obtain⟨tm,rb5⟩:∃t,S5.row rb= .mob t []:=⟨_,by rw[hS5,hrb];simp only[XZ,simprocAttr,hn4];rfl⟩
 have e54:∀k,S4.row (up k n4)= .none:=fun k=>nx0 GN4.wf hn4 k
 have SNn:∀r,S4.row r= .none->SN.row r= .none:=fun r e=>Classical.byContradiction fun c=>by
  rw[GN4.same r c]at e;exact c e
 have q0n:SN.row q0= .none:=SNn _ (by rw[hq0];exact e54 0)
 have psn:SN.row ps= .none:=SNn _ (by rw[hps];exact e54 1)
 have rbn:SN.row rb= .none:=SNn _ (by rw[hrb];exact e54 2)
 have qp:q0≠ps:=fun e=>by rw[e,rp5]at rq5;injection rq5 with _ rq5;cases rq5
 rw[<-hq0,<-hps,<-hrb]
 clear hS5
 have L5:Fz SN S5:=Fz.ofGr (GN4.trans G5)
 rw[Jq,Jk];simp only[XY,simprocAttr,lh]
 obtain⟨L,hL⟩:∃L:Nat->Fr->St->Prop,∀j fr S',L j fr S'<->∃(i:Nat) (nv:V),j+i=ts.length/\fr 5= .ptr p5 0/\fr 6=tb/\fr 8= .ptr ps 0/\fr 9= .map rb/\fr 10=nv/\fr 44=lv/\fr 45= .int .i64 (ts.length:Nat)/\fr 46= .int .i64 i/\Fz SN S'/\(∃t,S'.row q0= .cells t [ofL [], .int .i64 (m0:Nat)])/\(∃t,S'.row ps= .cells t [y0,y1,y2,y3,y4,y5,tv,tb, .slx q0 0 1 2 1])/\MobAt S' rb ofL (ts.take i)/\SlF SN S' nv 1 (((ts.take i).drop 1).map nmE)/\((nv= .snil/\i<=1)\/∃q,nv= .sl q 0 ((ts.take i).drop 1).length 1)/\rowOf nv≠some q0/\rowOf nv≠some ps:=⟨_,fun _ _ _=>Iff.rfl⟩
 refine Yw L ts.length (by omega) ((hL _ _ _).2 ⟨0, .snil,by omega,by simp only[XZ,simprocAttr],by simp only[XZ,simprocAttr],by simp only[XZ,simprocAttr],by simp only[XZ,simprocAttr],by simp only[XZ,simprocAttr],by simp only[XZ,simprocAttr],by simp only[XZ,simprocAttr],by simp only[XZ,simprocAttr]<;>rfl,L5,⟨_,rq5⟩,⟨_,rp5⟩,⟨tm,rb5⟩,SlF.nil _ _ _, .inl ⟨rfl,by omega⟩,(fun e=>by cases e),fun e=>by cases e⟩) ?_
 clear rq5 rp5 rb5 L5
 intro j fr S6 hLj
 obtain⟨i,nv,hj,f5,f6,f8,f9,f10,f44,f45,f46,L6,⟨tq6,rq6⟩,⟨tp6,rp6⟩,hm6,hn6,hv6,nq6,np6⟩:=(hL _ _ _).1 hLj
 by_cases hi:i<ts.length
 rotate_left
 ·have hi':¬(i:Int)<ts.length:=by omega
  rw[Jk];simp only[XY,simprocAttr,f45,f46,hi']
  rw[List.take_of_length_le (by omega)]at hm6 hn6 hv6
  obtain⟨qn,rfl⟩:∃q,nv= .sl q 0 (ts.drop 1).length 1:=by
   rcases hv6 with⟨_,h⟩|h
   ·omega
   ·exact h
  obtain⟨tn6,rn6⟩:∃t,S6.row qn= .cells t (((ts.drop 1).map (·.1)).map ofL):=by
   obtain⟨_,t,c⟩:=hn6.row rfl
   refine⟨t,c.trans ?_⟩
   congr 1
   clear c hn6 nq6 np6 hv6
   induction ts.drop 1 with
   |nil=>rfl
   |cons x r ih=>rw[List.map_cons,List.flatten_cons,ih];rfl
  have qnn:SN.row qn= .none:=(hn6.row rfl).1
  have qnS:S.row qn= .none:=Classical.byContradiction fun c=>by rw[L1.same _ c]at qnn;exact c qnn
  have qnp:qn≠ps:=fun e=>np6 (by rw[e];rfl)
  have qn0:qn≠q0:=fun e=>nq6 (by rw[e];rfl)
  clear hn6 hv6 nq6 np6
  have w6:=L6.wf
  obtain⟨n6,hn6⟩:∃n,S6.nx=up 0 n:=⟨_,up0 _⟩
  have ow6:=fun r (h:S6.row r≠ .none) k=>nes (jI w6 hn6 h k)
  have o1:=ow6 _ (Jj rp6)
  have o2:=ow6 _ (Jj rq6)
  obtain⟨A0,hA0⟩:∃A,A=S6.new fun t=> .mob t []:=⟨_,rfl⟩
  have hmu:mupdV A0 (.many [.s, .i]) (.map (up 0 n6)) (.agg [ofL [], .int .i64 (m0:Nat)]) (.int .i64 1)=some (undefV, .wr (up 0 n6) S6.t fun u=> .mob u ((jn (([],m0):Str×Nat) (.int .i64 1) []).map fun p=>(encS p.1,p.2))):=by
   have h0:A0.row (up 0 n6)= .mob S6.t (([]:List ((Str×Nat)×V)).map fun p=>(encS p.1,p.2)):=by rw[hA0,<-hn6];exact JN _ _
   exact JjC (enc:=encS) h0 ([],m0) (.int .i64 1) (fun p hp=>by cases hp) rfl
  rw[Jq];simp only[XY,simprocAttr]
  rw[Jk];simp only[XY,simprocAttr,f8,hn6,o1,o2,rp6,rq6]
  rw[<-hA0,hmu]
  simp only[XY,simprocAttr]
  refine J8 ?_
  intro S7 hS7
  obtain⟨rw_,hrw⟩:∃b,b=up 0 n6:=⟨_,rfl⟩
  rw[<-hrw]
  have rwn6:S6.row rw_= .none:=by rw[hrw];exact nx0 w6 hn6 0
  have GA:Gr S6 A0:=by rw[hA0];exact Gr.new w6 (Jap _)
  have rA0:A0.row (up 0 n6)= .mob S6.t []:=by rw[hA0,<-hn6];exact JN _ _
  have G7:Gr S6 S7:=by rw[hS7,<-hrw];exact GA.wr rwn6 (by rw[hrw,rA0];exact fun e=>by cases e) (by rw[hrw,rA0];rfl) (Jap _)
  have hc7:CntAt S7 rw_ [([],m0)] 1:=by
   refine⟨jn (([],m0):Str×Nat) (.int .i64 1) [],rfl,fun p hp=> ?_,A0.t, ?_⟩
   ·rw[List.mem_singleton.1 hp];exact⟨1,rfl,Nat.le_refl _,Nat.le_refl _⟩
   ·rw[hS7,hrw];simp only[JM,if_true]
  clear hS7 hmu rA0 GA hA0
  have L7:=Fz.more L6 G7
  have rq7:=G7.cells rq6
  have rp7:=G7.cells rp6
  have rn7:=G7.cells rn6
  have hm7:=hm6.of (G7.same rb hm6.ne)
  have rwn:SN.row rw_= .none:=Classical.byContradiction fun c=>by rw[L6.same _ c]at rwn6;exact c rwn6
  have hp7:SlF SN S7 (.slx q0 0 1 2 1) 2 ([(([],m0):Str×Nat)].map clE):=⟨fun e he=>by rw[List.mem_singleton.1 he];rfl, .inr ⟨q0,_,q0n,rq7, .inr rfl⟩⟩
  have rbw:rb≠rw_:=fun e=>hm6.ne (by rw[e];exact rwn6)
  obtain⟨D,hD⟩:∃D,D=dedS [([],m0)] xs:=⟨_,rfl⟩
  obtain⟨D1,hD1,hD2,hD3⟩:=kZ xs [([],m0)]
  rw[<-hD]at hD1
  obtain⟨pl,hpl⟩:∃pl:Nat->List (Str×Nat),∀i,pl i=if i=0 then[([],m0)]else D:=⟨_,fun i=>rfl⟩
  have hpl0:pl 0=[([],m0)]:=by rw[hpl];rfl
  have hpl1:∀i,pl (i+1)=D:=fun i=>by rw[hpl,if_neg (by omega)]
  have hDl:D.length=1+D1.length:=by rw[hD1];simp;omega
  rw[Jq,Jk];simp only[XY,simprocAttr]
  obtain⟨M,hM⟩:∃M:Nat->Fr->St->Prop,∀j fr S',M j fr S'<->∃(i:Nat) (pv:V),j+i=D.length/\fr 5= .ptr p5 0/\fr 6=tb/\fr 8= .ptr ps 0/\fr 9= .map rb/\fr 10= .sl qn 0 (ts.drop 1).length 1/\fr 15= .map rw_/\fr 16= .int .i64 i/\Fz SN S'/\(∃t,S'.row qn= .cells t (((ts.drop 1).map (·.1)).map ofL))/\MobAt S' rb ofL ts/\(∃t,S'.row ps= .cells t [y0,y1,y2,y3,y4,y5,tv,tb,pv])/\CntAt S' rw_ (pl i) (1+if i=0 then 0 else xs.length)/\SlF SN S' pv 2 ((pl i).map clE)/\rowOf pv≠some qn/\rowOf pv≠some ps:=⟨_,fun _ _ _=>Iff.rfl⟩
  refine Yw M D.length (by omega) ((hM _ _ _).2 ⟨0, .slx q0 0 1 2 1,by omega,by simp only[XZ,simprocAttr,f5],by simp only[XZ,simprocAttr,f6],by simp only[XZ,simprocAttr,f8],by simp only[XZ,simprocAttr,f9],by simp only[XZ,simprocAttr,f10],by simp only[XZ,simprocAttr],by simp only[XZ,simprocAttr]<;>rfl,L7,⟨_,rn7⟩,hm7,⟨_,rp7⟩,by rw[hpl0];exact hc7,by rw[hpl0];exact hp7,fun e=>qn0 (by injection e with e;exact e.symm),fun e=>qp (by injection e)⟩) ?_
  clear rq7 rp7 rn7 hm7 hp7 hc7 hLj f5 f6 f8 f9 f10 f44 f45 f46 rp6 rq6 rn6 o1 o2 L7 ow6
  clear hj fr j
  intro j fr S8 hLj
  obtain⟨i,pv,hj,f5,f6,f8,f9,f10,f15,f16,L8,⟨tn8,rn8⟩,hm8,⟨tp8,rp8⟩,hc8,hp8,pqn,pps⟩:=(hM _ _ _).1 hLj
  have hpvl:=hp8.at.len
  rw[List.length_map]at hpvl
  have spv:=hp8.at.sc
  by_cases hi2:i<D.length
  rotate_left
  ·have hi1:¬i=0:=by omega
   have hpi:pl i=D:=by rw[hpl,if_neg hi1]
   rw[hpi]at hpvl hp8
   have hi':¬(i:Int)<D.length:=by omega
   rw[Jq,Jk];simp only[XY,simprocAttr,f8,f16,rp8,hpvl,hi']
   have r58:S8.row p5= .cells t5 [.int .i64 0,ofL [], .int .i64 0]:=by rw[L8.same p5 (Jj r5N),r5N]
   rw[Jk];simp only[XY,simprocAttr,f5,f8,r58]
   rw[JkR]
   simp only[XZ,simprocAttr,f5]
   have C9:Ch (fun r=>r=p5) S8 (S8.wr p5 t5 fun u=> .cells u [.int .i64 0,ofL [], .int .i64 0]):=(Ch.refl (fun r=>r=p5) L8.wf).wr (Jj r58) (by rw[r58];rfl) (.inl rfl) (Jh _)
   refine fin _ _ (fun r e=> ?_) fun _=>⟨ps,S1,y0,y1,y2,y3,y4,y5,tv,tb,pv,rfl,⟨tp8, ?_⟩,Fz.ofGr G1,hPw (hPk hPN L8) C9 fun r e=>by rw[e];exact⟨p5n,Jj r5⟩, ?_⟩
   ·rw[C9.same r (by rw[L8.same r (by rw[L1.same r e];exact e),L1.same r e];exact e) fun x=>e (by rw[x];exact p5n),L8.same r (by rw[L1.same r e];exact e),L1.same r e]
   ·rw[C9.same ps (Jj rp8) fun x=>by rw[x,r5N]at psn;exact Row.noConfusion psn,rp8]
   ·rw[<-hD]
    refine(hp8.early fun r e=>Classical.byContradiction fun c=>by rw[L1.same r c]at e;exact c e).keep fun r hr=> ?_
    exact C9.same r (hp8.some hr) fun x=>by
     have:=(hp8.row hr).1
     rw[x,r5N]at this;cases this
  have hi':(i:Int)<(pl i).length:=by
   rw[hpl];split
   ·rename_i h;rw[h];simp
   ·omega
  have hip:i<(pl i).length:=by omega
  have hadd1:IntKind.i64.wrap ((i:Int)+1)=((i+1:Nat):Int):=by rw[QL (by omega) (by omega)];rfl
  obtain⟨nm,id,hid⟩:∃nm id,(pl i)[i]=(nm,id):=⟨_,_,rfl⟩
  obtain⟨r,o,a1,hr1,_,a2,_⟩:=hp8.at.elem (i:=i) (by rw[List.length_map];exact hip)
  have hti:((pl i).map clE)[i]'(by rw[List.length_map];exact hip)=[ofL nm, .int .i64 (id:Nat)]:=by rw[List.getElem_map,hid];rfl
  rw[hti]at a2
  obtain⟨cl,bv,hcl,hbv,hob,hB⟩:∃cl bv,(pl (i+1)=dedS (pl i) cl/\cl.length<=xs.length/\(i≠0->cl=[]))/\at_ nm ts=some bv/\One bv/\∀S0 SN S' tb q,Fz S S'->P S0 SN tb->Fz SN S'->SN.row q= .none->S.row q= .none->(∃t,S'.row q= .cells t (((ts.drop 1).map (·.1)).map ofL))->Does (tabT tabD) Yj [tb, .sl q 0 (ts.drop 1).length 1, .int .i64 (id:Nat),bv] S' fun v S''=>Fz S' S''/\∃cv,v= .tup [cv, .int .i64 0, .int .i64 0]/\SlF S' S'' cv 2 (cl.map clE):=by
   by_cases h0:i=0
   ·subst h0
    simp only[hpl0,List.getElem_cons_zero,Prod.mk.injEq]at hid
    obtain⟨e1,e2⟩:=hid
    subst e1;subst e2
    obtain⟨bv,b1,b2,b3⟩:=hB0
    exact⟨xs,bv,⟨by rw[hpl1,hpl0,hD],Nat.le_refl _,fun h=>absurd rfl h⟩,b1,b2,b3⟩
   ·have hpi:pl i=D:=by rw[hpl,if_neg h0]
    have hin:(nm,id)∈xs:=by
     refine hD2 _ ?_
     rw[<-hid]
     simp only[hpi,hD1]
     rw[List.getElem_append_right (by simp;omega)]
     exact List.getElem_mem _
    obtain⟨bv,b1,b2,b3⟩:=hB1 _ hin
    exact⟨[],bv,⟨by rw[hpl1,hpi,dedS],Nat.zero_le _,fun _=>rfl⟩,b1,b2,b3⟩
  obtain⟨hcl,hcll,hcl0⟩:=hcl
  have obs:=hob.1
  have obc:=hob.2
  have w8:=L8.wf
  obtain⟨n8,hn8⟩:∃n,S8.nx=up 0 n:=⟨_,up0 _⟩
  rw[Jq,Jk];simp only[XY,simprocAttr,f8,f16,rp8,hpvl,hi']
  rw[Jq];simp only[XY,simprocAttr]
  rw[Jk];simp only[XY,simprocAttr,f8,f16,rp8,a1,a2,hn8]
  refine J8 ?_
  intro S9 hS9
  have G9:Gr S8 S9:=by rw[hS9];exact(Gr.refl w8).nw hn8 (Jh _) (Jh _)
  obtain⟨p17,hp17⟩:∃b,b=up 0 n8:=⟨_,rfl⟩
  obtain⟨t17,r17⟩:∃t,S9.row p17= .cells t [ofL nm, .int .i64 (id:Nat)]:=⟨_,by rw[hS9,hp17];simp only[XZ,simprocAttr,hn8];rfl⟩
  rw[<-hp17]
  clear hS9
  have L9:=Fz.more L8 G9
  have hlk:lookupV S9 (.one .s) .snil false (.map rb) (ofL nm)=some (bv, .no):=by
   rw[YX (enc:=ofL) (hm8.of (G9.same rb hm8.ne)) .snil false nm (fun p _=>Jam _ _) rfl,hbv];rfl
  rw[Jk];simp only[XY,simprocAttr,f6,f9,f10,r17,hlk]
  refine Ju (hB _ SN _ _ _ ((Fz.ofGr L1).trans L9) hPN L9 qnn qnS ⟨_,G9.cells rn8⟩) ?_
  rintro _ S10 ⟨F10,cv,rfl,hcv⟩
  have L10:=L9.trans F10
  have k10:∀r,S8.row r≠ .none->S10.row r=S8.row r:=fun r e=>by rw[F10.same r (by rw[G9.same r e];exact e),G9.same r e]
  have rn10:=(k10 qn (Jj rn8)).trans rn8
  have rp10:=(k10 ps (Jj rp8)).trans rp8
  have hm10:=hm8.of (k10 rb hm8.ne)
  have hcne:S8.row rw_≠ .none:=by obtain⟨es,_,_,h⟩:=hc8;exact h.ne
  have hc10:=hc8.of (k10 rw_ hcne)
  have hp10:=hp8.keep fun r hr=>k10 r (hp8.some hr)
  have lcv:=hcv.at.len
  rw[List.length_map]at lcv
  have scv:=hcv.at.sc
  have ccv:cv.cells=some [cv]:=(One.of scv).2
  simp only[XY,simprocAttr]
  rw[Jq,Jk];simp only[XY,simprocAttr]
  rw[Jk];simp only[XY,simprocAttr,lcv]
  obtain⟨B,hB⟩:∃B,B=1+if i=0 then 0 else xs.length:=⟨_,rfl⟩
  rw[<-hB]at hc10
  have hBl:B+cl.length<=1+xs.length:=by
   rw[hB];split
   ·omega
   ·rename_i h;rw[hcl0 h];simp
  have hdl:(pl i).length+cl.length<4000:=by
   rw[hpl];split
   ·simp;omega
   ·rename_i h;rw[hcl0 h];simp;omega
  obtain⟨N,hN⟩:∃N:Nat->Fr->St->Prop,∀j fr S',N j fr S'<->∃(k:Nat) (pv:V),j+k=cl.length/\fr 5= .ptr p5 0/\fr 6=tb/\fr 8= .ptr ps 0/\fr 9= .map rb/\fr 10= .sl qn 0 (ts.drop 1).length 1/\fr 15= .map rw_/\fr 16= .int .i64 i/\fr 117=cv/\fr 118= .int .i64 (cl.length:Nat)/\fr 119= .int .i64 k/\Fz SN S'/\(∃t,S'.row qn= .cells t (((ts.drop 1).map (·.1)).map ofL))/\MobAt S' rb ofL ts/\(∃t,S'.row ps= .cells t [y0,y1,y2,y3,y4,y5,tv,tb,pv])/\CntAt S' rw_ (dedS (pl i) (cl.take k)) (B+k)/\SlF SN S' pv 2 ((dedS (pl i) (cl.take k)).map clE)/\rowOf pv≠some qn/\rowOf pv≠some ps/\SlF S9 S' cv 2 (cl.map clE)/\(∀r,rowOf cv=some r->r≠ps/\rowOf pv≠some r):=⟨_,fun _ _ _=>Iff.rfl⟩
  refine Yw N cl.length (by omega) ((hN _ _ _).2 ⟨0,pv,by omega,by simp only[XZ,simprocAttr,f5],by simp only[XZ,simprocAttr,f6],by simp only[XZ,simprocAttr,f8],by simp only[XZ,simprocAttr,f9],by simp only[XZ,simprocAttr,f10],by simp only[XZ,simprocAttr,f15],by simp only[XZ,simprocAttr,f16],by simp only[XZ,simprocAttr],by simp only[XZ,simprocAttr],by simp only[XZ,simprocAttr]<;>rfl,L10,⟨_,rn10⟩,hm10,⟨_,rp10⟩,hc10,hp10,pqn,pps,hcv,fun r hr=> ?_⟩) ?_
  ·have h0:=(hcv.row hr).1
   exact⟨fun e=>(by rw[e,G9.cells rp8]at h0;cases h0),fun e=>hp8.some e (by rw[G9.same r (hp8.some e)]at h0;exact h0)⟩
  clear hLj rn10 rp10 hm10 hc10 hp10 f5 f6 f8 f9 f10 f15 f16 hpvl spv a1 a2
  intro j2 fr2 S11 hLj
  obtain⟨k,pw,hj2,f5,f6,f8,f9,f10,f15,f16,f117,f118,f119,L11,⟨tn11,rn11⟩,hm11,⟨tp11,rp11⟩,hc11,hp11,wqn,wps,hcv11,hap⟩:=(hN _ _ _).1 hLj
  by_cases hk:k<cl.length
  rotate_left
  ·have hk':¬(k:Int)<cl.length:=by omega
   rw[List.take_of_length_le (by omega),<-hcl]at hc11 hp11
   rw[Jk];simp only[XY,simprocAttr,f118,f119,hk']
   rw[Jq];simp only[XZ,simprocAttr,f5,f6,f8,f9,f10,f15,f16,hadd1]
   refine⟨D.length-(i+1),by omega,(hM _ _ _).2 ⟨i+1,pw,by omega,by simp only[XZ,simprocAttr,f5],by simp only[XZ,simprocAttr,f6],by simp only[XZ,simprocAttr,f8],by simp only[XZ,simprocAttr,f9],by simp only[XZ,simprocAttr,f10],by simp only[XZ,simprocAttr,f15],by simp only[XZ,simprocAttr],L11,⟨_,rn11⟩,hm11,⟨_,rp11⟩, ?_,hp11,wqn,wps⟩⟩
   rw[if_neg (by omega)]
   exact hc11.le (by omega)
  have hk':(k:Int)<cl.length:=by omega
  have hkadd:IntKind.i64.wrap ((k:Int)+1)=((k+1:Nat):Int):=by rw[QL (by omega) (by omega)];rfl
  obtain⟨nm2,id2,hid2⟩:∃nm id,cl[k]=(nm,id):=⟨_,_,rfl⟩
  obtain⟨r,o,a1,hr1,_,a2,_⟩:=hcv11.at.elem (i:=k) (by rw[List.length_map];exact hk)
  have hti2:(cl.map clE)[k]'(by rw[List.length_map];exact hk)=[ofL nm2, .int .i64 (id2:Nat)]:=by rw[List.getElem_map,hid2];rfl
  rw[hti2]at a2
  have w11:=L11.wf
  obtain⟨n11,hn11⟩:∃n,S11.nx=up 0 n:=⟨_,up0 _⟩
  rw[Jk];simp only[XY,simprocAttr,f118,f119,hk']
  rw[Jq];simp only[XY,simprocAttr]
  rw[Jq];simp only[XY,simprocAttr]
  rw[Jk];simp only[XY,simprocAttr,f117,f119,a1,a2,hn11]
  refine J8 ?_
  intro S12 hS12
  have G12:Gr S11 S12:=by rw[hS12];exact(Gr.refl w11).nw hn11 (Jh _) (Jh _)
  obtain⟨p22,hp22⟩:∃b,b=up 0 n11:=⟨_,rfl⟩
  obtain⟨t22,r22⟩:∃t,S12.row p22= .cells t [ofL nm2, .int .i64 (id2:Nat)]:=⟨_,by rw[hS12,hp22];simp only[XZ,simprocAttr,hn11];rfl⟩
  rw[<-hp22]
  clear hS12
  have L12:=L11.more G12
  have hcne11:S11.row rw_≠ .none:=by obtain⟨es,_,_,h⟩:=hc11;exact h.ne
  have hc12:=hc11.of (G12.same rw_ hcne11)
  obtain⟨c,jj,t2,f1,f2,z,c1,c2,c3,c4,c5,c6,c7,c8,c9,c10⟩:=Jnr hc12 (by omega) (nm2,id2)
  have c3':=c3 S12 rfl
  have c4':=c4 S12 rfl
  have c6':=c6 (S12.wr rw_ t2 f1) _ (Qs _ _ _ _)
  have hcq:∀{q:Pt} {t:Nat} {l:List V},S12.row q= .cells t l->q≠rw_:=fun{q t l} h e=>by
   obtain⟨es,_,_,_,m⟩:=hc12
   rw[e,m]at h;cases h
  have o22:=nes (hcq r22)
  rw[Jk];simp only[XY,simprocAttr,JpQ,JpR,JsA,JsB,f15,r22,o22,c3',c4',c5,c6']
  refine J8 ?_
  intro S13 hS13
  have k13:∀q,q≠rw_->S13.row q=S12.row q:=fun q e=>by rw[hS13];simp only[JM,e,if_false]
  have r13:S13.row rw_=f2 ((S12.wr rw_ t2 f1).t):=by rw[hS13];exact Qs _ _ _ _
  have L13:Fz SN S13:=by
   have C1:Ch (fun r=>r=rw_) S12 (S12.wr rw_ t2 f1):=(Ch.refl (fun r=>r=rw_) L12.wf).wr c1 c2 (.inl rfl) c7
   have C2:=C1.wr (p:=rw_) (t:=S12.t) (f:=f2) (by rw[Qs];exact(c7 _).2) (by rw[Qs];exact(c7 _).1) (.inl rfl) c8
   rw[hS13]
   exact L12.ch C2 fun r e=>by rw[e];exact rwn
  obtain⟨c9a,c9b⟩:=c9 S13 _ r13
  clear hS13
  have r223:=(k13 p22 (hcq r22)).trans r22
  have r12p:=G12.cells rp11
  have rp13:=(k13 ps (hcq r12p)).trans r12p
  have r12n:=G12.cells rn11
  have rn13:=(k13 qn (hcq r12n)).trans r12n
  have hm13:=(hm11.of (G12.same rb hm11.ne)).of (k13 rb rbw)
  have hk13:∀{v:V} {A:St} {es:List (List V)},SlF A S11 v 2 es->SlF A S13 v 2 es:=fun{v A es} h=>(h.gr G12).keep fun r hr=>k13 r (by
   obtain⟨_,t,h⟩:=(h.gr G12).row hr
   exact hcq h)
  have hp13:=hk13 hp11
  have hcv13:=hk13 hcv11
  have htk:cl.take (k+1)=cl.take k++[(nm2,id2)]:=by rw[List.take_add_one,List.getElem?_eq_getElem hk,hid2];rfl
  by_cases hc0:c=0
  rotate_left
  ·have hin:(nm2,id2)∈dedS (pl i) (cl.take k):=Classical.byContradiction fun h=>hc0 (c10.2 h)
   have hde:dedS (pl i) (cl.take (k+1))=dedS (pl i) (cl.take k):=by rw[htk,Ja0,if_pos hin]
   rw[if_pos hin,<-hde]at c9b
   rw[<-hde]at hp13
   have hne1:¬((c+1:Nat):Int)=1:=by omega
   rw[Jk];simp only[XY,simprocAttr,f15,r223,c9a,hne1]
   simp only[XZ,simprocAttr,f5,f6,f8,f9,f10,f15,f16,f117,f118,f119,hkadd]
   refine⟨cl.length-(k+1),by omega,(hN _ _ _).2 ⟨k+1,pw,by omega,by simp only[XZ,simprocAttr,f5],by simp only[XZ,simprocAttr,f6],by simp only[XZ,simprocAttr,f8],by simp only[XZ,simprocAttr,f9],by simp only[XZ,simprocAttr,f10],by simp only[XZ,simprocAttr,f15],by simp only[XZ,simprocAttr,f16],by simp only[XZ,simprocAttr,f117],by simp only[XZ,simprocAttr,f118],by simp only[XZ,simprocAttr],L13,⟨_,rn13⟩,hm13,⟨_,rp13⟩,c9b,hp13,wqn,wps,hcv13,hap⟩⟩
  have hnin:(nm2,id2)∉dedS (pl i) (cl.take k):=c10.1 hc0
  have hde:dedS (pl i) (cl.take (k+1))=dedS (pl i) (cl.take k)++[(nm2,id2)]:=by rw[htk,Ja0,if_neg hnin]
  rw[if_neg hnin,<-hde]at c9b
  have hne1:((c+1:Nat):Int)=1:=by omega
  have w13:=L13.wf
  obtain⟨n13,hn13⟩:∃n,S13.nx=up 0 n:=⟨_,up0 _⟩
  have op13:=fun k=>nes (jI w13 hn13 (Jj rp13) k)
  rw[Jk];simp only[XY,simprocAttr,f15,r223,c9a,hne1]
  simp only[XY,simprocAttr,f8,rp13,r223,hn13,op13]
  obtain⟨A3,hA3⟩:∃A,A=(S13.new fun t=>Row.cells t [ofL nm2, .int .i64 (id2:Nat)]):=⟨_,rfl⟩
  have ga3:Gr S13 A3:=by rw[hA3];exact Gr.new w13 (Jh _)
  have hone:SlAt (fun r=>r=up 0 n13) A3 (.slx (up 0 n13) 0 1 2 1) 2 [clE (nm2,id2)]:=by
   have:=JeN (st:=S13) (z:=2) (e:=clE (nm2,id2)) rfl
   rwa [hn13,show(S13.new fun t=>Row.cells t (clE (nm2,id2)))=A3 from hA3.symm]at this
  rw[<-hA3]
  clear hA3
  have rp3:=ga3.cells rp13
  refine JjZ (S0:={SN with low:=A3.low}) (L13.more ga3).gr (hp13.gr ga3) hone (fun e he=>by rw[List.mem_singleton.1 he];rfl) (by simp) (by simp) (by
   have:(dedS (pl i) (cl.take k)).length<=(pl i).length+cl.length:=by
    obtain⟨t,a,_,b⟩:=kZ (cl.take k) (pl i)
    rw[a,List.length_append]
    rw[List.length_take]at b
    omega
   simp only[List.length_map,List.length_cons,List.length_nil]
   omega) ?_
  intro A4 g4 h4 kp4
  have hmp:(dedS (pl i) (cl.take k)).map clE++[clE (nm2,id2)]=(dedS (pl i) (cl.take (k+1))).map clE:=by rw[hde];simp
  rw[hmp]at h4
  obtain⟨pw',hpw'⟩:∃v,v=V.sl A3.nx 0 (((dedS (pl i) (cl.take k)).map clE).length+[clE (nm2,id2)].length) 2:=⟨_,rfl⟩
  rw[<-hpw']at h4⊢
  have rpw':rowOf pw'=some A3.nx:=by rw[hpw'];rfl
  have hnx:∀r,S13.row r≠ .none->r≠A3.nx:=fun r hr e=>by
   have:=Yc ga3.wf
   rw[<-e,ga3.same r hr]at this
   exact hr this
  have rp4:A4.row ps= .cells tp11 [y0,y1,y2,y3,y4,y5,tv,tb,pw]:=(kp4 ps (Jj rp3) wps).trans rp3
  have sc4:=h4.at.sc
  have cl4:=h4.at.cells
  simp only[XZ,simprocAttr,rp4,sc4,cl4,f5,f6,f8,f9,f10,f15,f16,f117,f118,f119,hkadd]
  have k14:∀q,S13.row q≠ .none->q≠ps->rowOf pw≠some q->(A4.wr ps tp11 fun u=>Row.cells u [y0,y1,y2,y3,y4,y5,tv,tb,pw']).row q=S13.row q:=fun q a b c=>by
   simp only[JM,b,if_false]
   rw[kp4 q (by rw[ga3.same q a];exact a) c,ga3.same q a]
  have hcne13:S13.row rw_≠ .none:=by rw[r13];exact(c8 _).2
  refine⟨cl.length-(k+1),by omega,(hN _ _ _).2 ⟨k+1,pw',by omega,by simp only[XZ,simprocAttr,f5],by simp only[XZ,simprocAttr,f6],by simp only[XZ,simprocAttr,f8],by simp only[XZ,simprocAttr,f9],by simp only[XZ,simprocAttr,f10],by simp only[XZ,simprocAttr,f15],by simp only[XZ,simprocAttr,f16],by simp only[XZ,simprocAttr,f117],by simp only[XZ,simprocAttr,f118],by simp only[XZ,simprocAttr], ?_,⟨tn11, ?_⟩, ?_,⟨A4.t, ?_⟩, ?_, ?_, ?_, ?_, ?_, ?_⟩⟩
  ·exact(Fz.back g4).ch (W:=fun r=>r=ps) ((Ch.refl (fun r=>r=ps) (Fz.back g4).wf).wr (Jj rp4) (by rw[rp4];rfl) (.inl rfl) (Jh _)) fun r e=>by rw[e];exact psn
  ·exact(k14 qn (Jj rn13) qnp wqn).trans rn13
  ·refine hm13.of (k14 rb hm13.ne (fun e=> ?_) fun e=> ?_)
   ·obtain⟨t,m⟩:=hm13
    rw[e,rp13]at m;cases m
   ·obtain⟨_,t,h⟩:=hp13.row e
    obtain⟨t,m⟩:=hm13
    rw[m]at h;cases h
  ·simp only[JM,if_true]
  ·refine c9b.of (k14 rw_ hcne13 (fun e=>hcq r12p e.symm) fun e=> ?_)
   obtain⟨_,t,h⟩:=hp11.row e
   exact hcq (G12.cells h) rfl
  ·refine h4.keep fun r hr=> ?_
   rw[rpw']at hr
   injection hr with hr
   have:r≠ps:=fun e=>hnx ps (Jj rp13) (by rw[hr,e])
   simp only[JM,this,if_false]
  ·intro e;rw[rpw']at e;injection e with e;exact hnx qn (Jj rn13) e.symm
  ·intro e;rw[rpw']at e;injection e with e;exact hnx ps (Jj rp13) e.symm
  ·exact hcv13.keep fun r hr=>k14 r (hcv13.some hr) (hap r hr).1 (hap r hr).2
  ·intro r hr
   refine⟨(hap r hr).1,fun e=> ?_⟩
   rw[rpw']at e;injection e with e
   exact hnx r (hcv13.some hr) e.symm
 have hi':(i:Int)<ts.length:=by omega
 have hadd1:IntKind.i64.wrap ((i:Int)+1)=((i+1:Nat):Int):=by rw[QL (by omega) (by omega)];rfl
 obtain⟨r,o,a1,hr1,_,a2,_⟩:=(hl.imp (Q:=fun _=>True) (st':=S6) fun r e _=>⟨trivial,by rw[L6.same r (by rw[L1.same r e];exact e),L1.same r e]⟩).elem (i:=i) (by rw[List.length_map];exact hi)
 have hti:(ts.map tmE)[i]'(by rw[List.length_map];exact hi)=[ofL ts[i].1,ts[i].2]:=by simp[tmE]
 rw[hti]at a2
 have hone:=ht1 _ (List.getElem_mem hi)
 obtain⟨son,con⟩:=hone
 obtain⟨n6,hn6'⟩:∃n,S6.nx=up 0 n:=⟨_,up0 _⟩
 rw[Jk];simp only[XY,simprocAttr,f45,f46,hi']
 rw[Jq];simp only[XY,simprocAttr]
 rw[Jq];simp only[XY,simprocAttr]
 rw[Jk];simp only[XY,simprocAttr,f44,f46,a1,a2,hn6',son,con]
 refine J8 ?_
 intro S7 hS7
 have w6:=L6.wf
 have G7:Gr S6 S7:=by rw[hS7];exact(Gr.refl w6).nw hn6' (Jh _) (Jh _)
 obtain⟨p12,hp12⟩:∃b,b=up 0 n6:=⟨_,rfl⟩
 obtain⟨t12,r12⟩:∃t,S7.row p12= .cells t [ofL ts[i].1,ts[i].2]:=⟨_,by rw[hS7,hp12];simp only[XZ,simprocAttr,hn6'];rfl⟩
 rw[<-hp12]
 clear hS7
 have p12n:S6.row p12= .none:=by rw[hp12];exact nx0 w6 hn6' 0
 have hm7:=hm6.of (G7.same rb hm6.ne)
 have hai:=hts i hi
 have hsti:∀v,jn ts[i].1 v (ts.take i)=ts.take i++[(ts[i].1,v)]:=fun v=>kT (qI (i:=0) hai)
 have hstt:ts.take i++[(ts[i].1,ts[i].2)]=ts.take (i+1):=by rw[List.take_add_one,List.getElem?_eq_getElem hi];rfl
 have hlk:lookupV S7 (.one .s) .snil true (.map rb) (ofL ts[i].1)=some (.tup [.snil, .bool false], .no):=by
  rw[YX (enc:=ofL) hm7 .snil true ts[i].1 (fun p _=>Jam _ _) rfl,hai];rfl
 obtain⟨tb7,mb7⟩:=hm7
 have hmu:mupdV S7 (.one .s) (.map rb) (ofL ts[i].1) ts[i].2=some (undefV, .wr rb tb7 fun u=> .mob u ((ts.take (i+1)).map fun p=>(ofL p.1,p.2))):=by
  rw[JjC (enc:=ofL) mb7 ts[i].1 ts[i].2 (fun p _=>Jam _ _) rfl,hsti,hstt]
 rw[Jq,Jk];simp only[XY,simprocAttr,r12,f9,hlk]
 rw[Jk];simp only[XY,simprocAttr,r12,f9,hmu]
 refine J8 ?_
 intro S8 hS8
 have rbr:∀r,r≠rb->S8.row r=S7.row r:=fun r e=>by rw[hS8];simp only[JM,e,if_false]
 have L8:Fz SN S8:=by
  rw[hS8]
  exact(Fz.more L6 G7).ch (W:=fun r=>r=rb) ((Ch.refl (fun r=>r=rb) G7.wf).wr (by rw[mb7];exact fun e=>by cases e) (by rw[mb7];rfl) (.inl rfl) (Jap _)) fun r e=>by rw[e];exact rbn
 have mb8:MobAt S8 rb ofL (ts.take (i+1)):=⟨_,by rw[hS8];simp only[JM,if_true];rfl⟩
 clear hS8
 have p12b:p12≠rb:=fun e=>by rw[e]at r12;rw[mb7]at r12;cases r12
 have q0b:q0≠rb:=fun e=>by rw[e]at rq6;rw[<-G7.same rb (by rw[rq6];exact fun e=>by cases e),mb7]at rq6;cases rq6
 have psb:ps≠rb:=fun e=>by rw[e]at rp6;rw[<-G7.same rb (by rw[rp6];exact fun e=>by cases e),mb7]at rp6;cases rp6
 have r128:=(rbr p12 p12b).trans r12
 have rq8:=(rbr q0 q0b).trans (G7.cells rq6)
 have rp8:=(rbr ps psb).trans (G7.cells rp6)
 have hn8:SlF SN S8 nv 1 (((ts.take i).drop 1).map nmE):=(hn6.gr G7).keep fun r hr=>rbr r fun e=>by
  obtain⟨_,t,c⟩:=(hn6.gr G7).row hr
  rw[e,mb7]at c;cases c
 by_cases h0:i=0
 ·have h0':¬(0:Int)<i:=by omega
  rw[Jk];simp only[XY,simprocAttr,h0']
  simp only[XZ,simprocAttr,f5,f6,f8,f9,f10,f44,f45,f46,hadd1]
  refine⟨ts.length-(i+1),by omega,(hL _ _ _).2 ⟨i+1,nv,by omega,by simp only[XZ,simprocAttr,f5],by simp only[XZ,simprocAttr,f6],by simp only[XZ,simprocAttr,f8],by simp only[XZ,simprocAttr,f9],by simp only[XZ,simprocAttr,f10],by simp only[XZ,simprocAttr,f44],by simp only[XZ,simprocAttr,f45],by simp only[XZ,simprocAttr],L8,⟨_,rq8⟩,⟨_,rp8⟩,mb8, ?_, ?_,nq6,np6⟩⟩
  ·subst h0
   rw[show(ts.take (0+1)).drop 1=[]from List.drop_eq_nil_of_le (by rw[List.length_take];omega)]
   simpa using hn8
  ·subst h0
   rcases hv6 with⟨e,_⟩|⟨q,e⟩
   ·exact .inl ⟨e,by omega⟩
   ·rcases hn8.2 with⟨e2,_⟩|⟨r,t,e1,e2,e3⟩
    ·exact .inl ⟨e2,by omega⟩
    ·refine .inr ⟨q, ?_⟩
     rw[e];simp
 have h0':(0:Int)<i:=by omega
 have w8:=L8.wf
 obtain⟨n8,hn8'⟩:∃n,S8.nx=up 0 n:=⟨_,up0 _⟩
 rw[Jk];simp only[XY,simprocAttr,h0',f10,r128,hn8']
 obtain⟨A3,hA3⟩:∃A,A=(S8.new fun t=>Row.cells t [ofL ts[i].1]):=⟨_,rfl⟩
 have ga3:Gr S8 A3:=by rw[hA3];exact Gr.new w8 (Jh _)
 have hone:SlAt (fun r=>r=up 0 n8) A3 (.slx (up 0 n8) 0 1 1 1) 1 [nmE ts[i]]:=by
  have:=JeN (st:=S8) (z:=1) (e:=nmE ts[i]) rfl
  rwa [hn8',show(S8.new fun t=>Row.cells t (nmE ts[i]))=A3 from hA3.symm]at this
 rw[<-hA3]
 clear hA3
 have hln:(((ts.take i).drop 1).map nmE).length=i-1:=by simp;omega
 refine JjZ (S0:={SN with low:=A3.low}) (Fz.more L8 ga3).gr (hn8.gr ga3) hone (fun e he=>by rw[List.mem_singleton.1 he];rfl) (by simp) (by simp) (by rw[hln];simp;omega) ?_
 intro A4 g4 h4 kp4
 have hnx:∀r,S8.row r≠ .none->r≠A3.nx:=fun r hr e=>by
  have:=Yc ga3.wf
  rw[<-e,ga3.same r hr]at this
  exact hr this
 have hdr:(ts.take i).drop 1++[ts[i]]=(ts.take (i+1)).drop 1:=by
  rw[List.take_add_one,List.getElem?_eq_getElem hi,List.drop_append_of_le_length (by rw[List.length_take];omega)];rfl
 have hmp:((ts.take i).drop 1).map nmE++[nmE ts[i]]=((ts.take (i+1)).drop 1).map nmE:=by rw[<-hdr];simp
 rw[hmp]at h4
 simp only[XZ,simprocAttr,f5,f6,f8,f9,f10,f44,f45,f46,hadd1]
 have hlen2:(((ts.take i).drop 1).map nmE).length+[nmE ts[i]].length=((ts.take (i+1)).drop 1).length:=by rw[<-hdr];simp
 refine⟨ts.length-(i+1),by omega,(hL _ _ _).2 ⟨i+1,_,by omega,by simp only[XZ,simprocAttr,f5],by simp only[XZ,simprocAttr,f6],by simp only[XZ,simprocAttr,f8],by simp only[XZ,simprocAttr,f9],by simp only[XZ,simprocAttr]<;>rfl,by simp only[XZ,simprocAttr,f44],by simp only[XZ,simprocAttr,f45],by simp only[XZ,simprocAttr],Fz.back g4,⟨tq6, ?_⟩,⟨tp6, ?_⟩, ?_,h4, .inr ⟨_,by rw[hlen2]⟩, ?_, ?_⟩⟩
 ·rw[kp4 q0 (by rw[ga3.cells rq8];exact fun e=>by cases e) nq6,ga3.cells rq8]
 ·rw[kp4 ps (by rw[ga3.cells rp8];exact fun e=>by cases e) np6,ga3.cells rp8]
 ·refine(mb8.of (ga3.same rb mb8.ne)).of (kp4 rb (by rw[ga3.same rb mb8.ne];exact mb8.ne) fun e=> ?_)
  obtain⟨_,t,c⟩:=hn8.row e
  obtain⟨t2,m2⟩:=mb8
  rw[m2]at c;cases c
 ·intro e;injection e with e;exact hnx q0 (Jj rq8) e.symm
 ·intro e;injection e with e;exact hnx ps (Jj rp8) e.symm
end Go.Proofs.YtdapogfnhpbanaaGreatDoor
