/- Slices copied: what Clone answers. Slices copied: a row of one's own. The parts of a text, by the document. The parser: a node is put at the end of the whole. An action is read: up to where it takes its place among the others. The parser: a call takes its place. The parser: an action that is known, in a parser that is known. The parser goes through the parts of a text. Flow: a call is noted. Th -/
import Derived.Test.YtcgiahehkobpcaaGreatRel
set_option linter.unusedVariables false
set_option linter.unusedSimpArgs false
set_option linter.unusedSectionVars false
set_option maxRecDepth 100000
namespace Go.Proofs.YtcgiahehkobpcaaGreat
open Eva Go.RowKit
set_option maxHeartbeats 4000000 in
theorem endC (l:List UInt8)(i0:Nat)(st:St)(hl:l.length<=100000)(h00:i0<=l.length):Does (tabT tabD) JaX [ofL l, .int .i64 i0] st fun v st'=>v=endV (endS (l.drop i0) false 0) i0/\st=st':=by
 refine YK JaB rfl ?_
 simp only[KZ,XZ,simprocAttr]
 refine jh (fun k fr st'=>∃(i b:Nat) (q:Bool),k+i=l.length/\i0<=i/\b<=i/\endS (l.drop i0) false 0=(endS (l.drop i) q b).map (·+(i-i0))/\fr 0=ofL l/\fr 1= .int .i64 i/\fr 5= .bool q/\fr 6= .int .i64 b/\st=st') (l.length-i0) (by omega) ?_ ?_
 ·refine⟨i0,0,false,by omega,Nat.le_refl _,Nat.zero_le _,by simp, ?_, ?_, ?_, ?_,rfl⟩
  all_goals simp only[XZ,simprocAttr]
  all_goals rfl
 ·rintro k fr st1 ⟨i,b,q,hk,hi0',hb,he,h0,h1,h5,h6,rfl⟩
  by_cases hlt:i<l.length
  ·have hlt':(i:Int)<l.length:=by omega
   have hi0:(0:Int)<=(i:Int)/\(i:Int)<l.length:=by omega
   have s34:byteAt l i=34<->l[i]=34:=kW hlt 34
   have s92:byteAt l i=92<->l[i]=92:=kW hlt 92
   have s125:byteAt l i=125<->l[i]=125:=kW hlt 125
   have e2:=Jj4 hlt q b
   have hadd:IntKind.i64.wrap ((i:Int)+1)=(i:Int)+1:=Q0 (by omega) (by omega)
   have next:∀(q':Bool) (b':Nat) (S:Int),q'=stQ q b l[i]->b'=stB q b l[i]->S=(b':Int)->b'<=i+1->¬(q=false/\l[i]=125/\l[i+1]? =some 125)->
     ∃j,j<k/\∃(i_1 b:Nat) (q:Bool),j+i_1=l.length/\i0<=i_1/\b<=i_1/\endS (l.drop i0) false 0=(endS (l.drop i_1) q b).map (·+(i_1-i0))/\V.int .i64 ((i:Int)+1)=V.int .i64 i_1/\V.bool q'=V.bool q/\V.int .i64 S=V.int .i64 b:=by
    intro q' b' S h1 h2 hS h3 hne
    refine⟨k-1,by omega,i+1,b',q',by omega,by omega,h3, ?_,rfl,rfl,by rw[hS]⟩
    rw[he,e2,if_neg hne,h1,h2]
    cases endS (l.drop (i+1)) (stQ q b l[i]) (stB q b l[i])with
    |none=>rfl
    |some x=>simp;omega
   cases q with
   | true=>
     have hne:¬(true=false/\l[i]=125/\l[i+1]? =some 125):=by rintro⟨h,_⟩;cases h
     by_cases h92:l[i]=92
     ·have b92:=s92.2 h92
      simp only[XZ,simprocAttr,h0,h1,h5,h6,hlt',hi0,b92,hadd]
      exact next true (b+1) _ (by rw[h92];rfl) (by rw[h92];rfl) (Q0 (by omega) (by omega)) (by omega) hne
     ·have b92:¬byteAt l i=92:=fun e=>h92 (s92.1 e)
      by_cases h34:l[i]=34
      ·have b34:=s34.2 h34
       have htm:(b:Int).tmod 2=((b%2:Nat):Int):=by rw[Int.tmod_eq_emod_of_nonneg (by omega)];rfl
       simp only[XZ,simprocAttr,h0,h1,h5,h6,hlt',hi0,b92,b34,hadd]
       refine next _ 0 0 ?_ (by rw[h34];rfl) rfl (Nat.zero_le _) hne
       have hq:stQ true b 34=(b%2==1):=by simp[stQ]
       rw[h34,htm,hq,Bool.eq_iff_iff,decide_eq_true_eq,beq_iff_eq]
       omega
      ·have b34:¬byteAt l i=34:=fun e=>h34 (s34.1 e)
       simp only[XZ,simprocAttr,h0,h1,h5,h6,hlt',hi0,b92,b34,hadd]
       exact next true 0 0 (by simp[stQ,h34]) (by simp[stB,h92]) rfl (Nat.zero_le _) hne
   | false=>
     by_cases h125:l[i]=125
     ·have b125:=s125.2 h125
      by_cases hn:i+1<l.length
      ·have hn':(i:Int)+1<l.length:=by omega
       simp only[XZ,simprocAttr,h0,h1,h5,h6,hlt',hi0,b125,hadd,hn']
       have hnat:((i:Int)+1).toNat=i+1:=by omega
       refine⟨by omega, ?_⟩
       have s125n:byteAt l (i+1)=125<->l[i+1]=125:=kW hn 125
       rw[hnat]
       by_cases hnx:l[i+1]=125
       ·have bnx:=s125n.2 hnx
        simp only[XZ,simprocAttr,h0,h1,h5,h6,bnx]
        rw[he,e2,if_pos ⟨rfl,h125,by rw[List.getElem?_eq_getElem hn,hnx]⟩]
        simp[endV];omega
       ·have bnx:¬byteAt l (i+1)=125:=fun e=>hnx (s125n.1 e)
        simp only[XZ,simprocAttr,h0,h1,h5,h6,bnx,b125,hadd]
        refine next false 0 0 (by rw[h125];rfl) (by simp[stB]) rfl (Nat.zero_le _) ?_
        rintro⟨_,_,h⟩
        rw[List.getElem?_eq_getElem hn]at h
        injection h with h
        exact hnx h
      ·have hn':¬(i:Int)+1<l.length:=by omega
       simp only[XZ,simprocAttr,h0,h1,h5,h6,hlt',hi0,b125,hadd,hn']
       refine next false 0 0 (by rw[h125];rfl) (by simp[stB]) rfl (Nat.zero_le _) ?_
       rintro⟨_,_,h⟩
       rw[List.getElem?_eq_none (by omega)]at h
       cases h
     ·have b125:¬byteAt l i=125:=fun e=>h125 (s125.1 e)
      simp only[XZ,simprocAttr,h0,h1,h5,h6,hlt',hi0,b125,hadd]
      refine next _ 0 0 ?_ (by simp[stB]) rfl (Nat.zero_le _) (fun h=>h125 h.2.1)
      simp only[stQ,Bool.false_eq_true,if_false,s34]
      rw[Bool.eq_iff_iff];simp
  ·have hlt':¬(i:Int)<l.length:=by omega
   simp only[XZ,simprocAttr,h0,h1,h5,h6,hlt']
   rw[he,Jj5 (by omega)]
   rfl
set_option maxHeartbeats 4000000 in
theorem splitC (l:List UInt8)(st:St)(hw:WF st):Does (tabT tabD) Jah [ofL l] st (SplitQ l st):=by
 refine YK qF rfl ?_
 by_cases hl:1500<l.length
 ·have hl':(1500:Int)<l.length:=by omega
  simp only[J8,XZ,simprocAttr,hl']
  exact⟨Gr.refl hw, .snil,by simp[splitR,hl],by simp only[splitR,if_pos hl];exact RecsAt.nil _ _ _⟩
 have hl':¬(1500:Int)<l.length:=by omega
 simp only[J8,XZ,simprocAttr,hl']
 refine jh (fun k fr st'=>∃(i at_:Nat) (ps:List Prt),k+i=l.length/\at_<=i/\ps.length<=at_/\RecsAt st st' (fr 4) 3 ps.length (cellsP ps)/\splitS l 0=(splitS l at_).map (ps++·)/\openAt (l.drop at_)=(openAt (l.drop i)).map (·+(i-at_))/\fr 0=ofL l/\fr 5= .int .i64 i/\fr 6= .int .i64 at_/\Gr st st') l.length (by omega) ?_ ?_
 ·refine⟨0,0,[],rfl,Nat.le_refl _,Nat.le_refl _, ?_, ?_, ?_, ?_, ?_, ?_,Gr.refl hw⟩
  ·simp only[XZ,simprocAttr]
   exact RecsAt.nil _ _ _
  ·simp
  ·simp
  all_goals simp only[XZ,simprocAttr]
  all_goals rfl
 ·rintro k fr st1 ⟨i,at_,ps,hk,hai,hpa,hps,hsp,hop,h0,h5,h6,hg⟩
  obtain⟨u,hu⟩:∃u,fr 4=u:=⟨_,rfl⟩
  rw[hu]at hps
  by_cases hlt:i<l.length
  ·have hlt':(i:Int)<l.length:=by omega
   have hadd:IntKind.i64.wrap ((i:Int)+1)=((i+1:Nat):Int):=Q0 (by omega) (by omega)
   have hod:=Jf2 hlt
   have more:¬(l[i]=123/\l[i+1]? =some 123)->∃j,j<k/\∃(i_1 a_1:Nat) (ps:List Prt),j+i_1=l.length/\a_1<=i_1/\ps.length<=a_1/\RecsAt st st1 u 3 ps.length (cellsP ps)/\splitS l 0=(splitS l a_1).map (ps++·)/\openAt (l.drop a_1)=(openAt (l.drop i_1)).map (·+(i_1-a_1))/\V.int .i64 ((i+1:Nat):Int)=V.int .i64 i_1/\V.int .i64 (at_:Nat)=V.int .i64 a_1/\Gr st st1:=by
    intro hne
    refine⟨k-1,by omega,i+1,at_,ps,by omega,by omega,hpa,hps,hsp, ?_,rfl,rfl,hg⟩
    rw[hop,hod,if_neg hne]
    cases openAt (l.drop (i+1))with
    |none=>rfl
    |some x=>simp;omega
   by_cases hn:i+1<l.length
   ·have hn':¬(l.length:Int)<=((i+1:Nat):Int):=by omega
    have hi0:(0:Int)<=(i:Int)/\(i:Int)<l.length:=by omega
    have hi1:(0:Int)<=((i+1:Nat):Int)/\((i+1:Nat):Int)<l.length:=by omega
    have s0:byteAt l i=123<->l[i]? =some 123:=JaQ 123 hlt
    have s1:byteAt l (i+1)=123<->l[i+1]? =some 123:=JaQ 123 hn
    rw[List.getElem?_eq_getElem hlt]at s0
    by_cases b0:byteAt l i=123
    ·by_cases b1:byteAt l (i+1)=123
     ·have hyes:l[i]=123/\l[i+1]? =some 123:=⟨by have:=s0.1 b0;injection this,s1.1 b1⟩
      have hoi:openAt (l.drop i)=some 0:=by rw[hod,if_pos hyes]
      rw[Ju]
      simp only[XY,simprocAttr,Jk,h0,h5,h6,hlt',hadd,hn',hi0,hi1,b0]
      rw[Ju]
      simp only[XY,simprocAttr,Jk,h0,h5,h6,hlt',hadd,hn',hi0,hi1,b0,b1]
      refine Jap (fun fr st2=>∃u ps',fr 4=u/\RecsAt st st2 u 3 ps'.length (cellsP ps')/\splitS l 0=(splitS l i).map (ps'++·)/\ps'.length<=i/\fr 0=ofL l/\fr 5= .int .i64 i/\Gr st st2) ?_ ?_
      ·by_cases hia:at_<i
       ·have hia':(at_:Int)<i:=by omega
        obtain⟨v',e,a1,a2,a3⟩:=Jaw hg hps (false,(l.drop at_).take (i-at_),at_) (by omega)
        simp only[XY,simprocAttr,Jk,h0,h5,h6,hu,hia',JbY,Jav,Ji5,JmE,Jfq]
        refine⟨by omega,JlX a1 ?_⟩
        simp only[XY,simprocAttr,Jk,h0,h5,h6]
        refine⟨v',_,rfl,a2, ?_,by simp;omega,a3⟩
        have hm:openAt (l.drop at_)=some (i-at_-1+1):=by rw[hop,hoi];simp;omega
        rw[hsp,kX (show at_<l.length by omega),hm]
        simp only
        rw[show at_+(i-at_-1+1)=i by omega,show i-at_-1+1=i-at_ by omega,Option.map_map]
        congr 1
        funext x
        simp
       ·have hia':¬(at_:Int)<i:=by omega
        simp only[XY,simprocAttr,Jk,h0,h5,h6,hu,hia']
        obtain rfl:at_=i:=by omega
        exact⟨u,ps,rfl,hps,hsp,hpa,hg⟩
      ·rintro fr2 st2 ⟨u,ps',f4,hps',hsp',hpl,f0,f5,hg2⟩
       have ha2:IntKind.i64.wrap ((i:Int)+2)=((i+2:Nat):Int):=by rw[Q0 (by omega) (by omega)];omega
       simp only[XZ,simprocAttr,f0,f5,ha2]
       refine Js (endC _ _ _ (by omega) (by omega)) ?_
       rintro _ _ ⟨rfl,rfl⟩
       have hs1:=kX hlt
       rw[hoi]at hs1
       simp only at hs1
       cases he:endS (l.drop (i+2)) false 0 with
       | none=>
         rw[he]at hs1
         have hm1:(-1:Int)<0:=by decide
         simp only[XZ,simprocAttr,endV,hm1]
         have hs0:splitS l 0=none:=by rw[hsp',hs1];rfl
         exact⟨hg2, .snil,by simp[splitR,hl,hs0],by simp only[splitR,if_neg hl,hs0];exact RecsAt.nil _ _ _⟩
       | some m=>
         rw[he]at hs1
         simp only at hs1
         obtain⟨e1,_⟩:=Ji4 he
         rw[List.length_drop]at e1
         simp only[endV]
         obtain⟨M,hM⟩:∃M:Nat,M=i+2+m:=⟨_,rfl⟩
         rw[<-hM]
         have hm0:¬((M:Nat):Int)<0:=by omega
         have ha4:IntKind.i64.wrap ((M:Int)+2)=((i+2+m+2:Nat):Int):=by rw[Q0 (by omega) (by omega)];omega
         have htk:M-(i+2)=m:=by omega
         obtain⟨v',e,a1,a2,a3⟩:=Jaw hg2 hps' (true,(l.drop (i+2)).take m,i) (by omega)
         simp only[XZ,simprocAttr,f0,f4,f5,hm0,ha2,ha4,JbY,Jav,JoP,JmE,Jfq,htk]
         refine⟨by omega,JlX a1 ?_⟩
         simp only[XZ,simprocAttr,f0,f5,ha4]
         refine⟨k-(2+m+2),by omega,i+2+m+2,i+2+m+2,ps'++[(true,(l.drop (i+2)).take m,i)],by omega,Nat.le_refl _,by simp;omega,a2, ?_,by simp,rfl,rfl,a3⟩
         rw[hsp',hs1,Option.map_map]
         congr 1
         funext x
         simp
     ·simp only[XZ,simprocAttr,h0,h5,h6,hu,hlt',hadd,hn',hi0,hi1,b0,b1]
      exact more (fun h=>b1 (s1.2 h.2))
    ·simp only[XZ,simprocAttr,h0,h5,h6,hu,hlt',hadd,hn',hi0,hi1,b0]
     exact more (fun h=>b0 (s0.2 (by rw[h.1])))
   ·have hn':(l.length:Int)<=((i+1:Nat):Int):=by omega
    simp only[XZ,simprocAttr,h0,h5,h6,hu,hlt',hadd,hn']
    refine more (fun h=> ?_)
    rw[List.getElem?_eq_none (by omega)]at h
    cases h.2
  ·have hlt':¬(i:Int)<l.length:=by omega
   obtain rfl:i=l.length:=by omega
   have hoi:openAt (l.drop l.length)=none:=by rw[List.drop_length];rfl
   rw[hoi]at hop
   rw[Ju]
   simp only[XY,simprocAttr,Jk,h0,h5,h6,hlt']
   refine Jap (fun fr st2=>∃u ps',fr 4=u/\RecsAt st st2 u 3 ps'.length (cellsP ps')/\splitS l 0=some ps'/\Gr st st2) ?_ ?_
   ·by_cases hal:at_<l.length
    ·have hal':(at_:Int)<l.length:=by omega
     obtain⟨v',e,a1,a2,a3⟩:=Jaw hg hps (false,l.drop at_,at_) (by omega)
     simp only[XY,simprocAttr,Jk,h0,h5,h6,hu,hal',JbY,Jav,Ji5,JmE,Jfq]
     refine⟨by omega,JlX a1 ?_⟩
     simp only[XY,simprocAttr,Jk,h0,h5,h6]
     refine⟨v',_,rfl,a2, ?_,a3⟩
     rw[hsp,kX hal,hop]
     rfl
    ·have hal':¬(at_:Int)<l.length:=by omega
     simp only[XY,simprocAttr,Jk,h0,h5,h6,hu,hal']
     refine⟨u,ps,rfl,hps, ?_,hg⟩
     rw[hsp,qz (by omega)]
     simp
   ·rintro fr2 st2 ⟨u,ps',f4,hps',hs0,hg2⟩
    by_cases h200:200<ps'.length
    ·have h200':(200:Int)<ps'.length:=by omega
     simp only[XZ,simprocAttr,f4,hps'.len,h200']
     exact⟨hg2, .snil,by simp[splitR,hl,hs0,h200],by simp only[splitR,if_neg hl,hs0,if_pos h200];exact RecsAt.nil _ _ _⟩
    ·have h200':¬(200:Int)<ps'.length:=by omega
     simp only[XZ,simprocAttr,f4,hps'.len,h200']
     exact⟨hg2,u,by simp[splitR,hl,hs0,h200],by simp only[splitR,if_neg hl,hs0,if_neg h200];exact hps'⟩
abbrev nd0 :List V:=[.int .i64 0, .int .i64 0,ofL [],ofL [], .snil, .snil, .snil, .bool false, .snil]
abbrev ndN (k at_:Int)(s nm:Str)(pv:V):List V:=[.int .i64 k, .int .i64 at_,ofL s,ofL nm,pv, .snil, .snil, .bool false, .snil]
structure Ps (Sb S:St) (p:Pt) (mv:V) (main:List (List V)):Prop where
 g:Gr Sb S
 pn:Sb.row p= .none
 c:∃t,S.row p= .cells t [.snil,mv, .snil, .int .i64 0]
 m:SlF Sb S mv 9 main
 am:rowOf mv≠some p
theorem Ps.gr {Sb S S':St}{p:Pt}{mv:V}{main:List (List V)}(h:Ps Sb S p mv main)(g:Gr S S'):Ps Sb S' p mv main:=⟨h.g.trans g,h.pn,h.c.imp fun t c=>g.cells c,h.m.gr g,h.am⟩
def one0 :St:=St.start.new fun t=> .dead t
noncomputable def actR (s:V):Option Out:=evD (run (tabT tabD) 40) 1000000 (cutC Jq 999 Jt.body) (initFr [.ptr .h 0, .agg [.bool true,s, .opq 0]]) {one0 with low:=1}
noncomputable def actB (s w:V)(kind:Int)(name:V)(pf:St->V->Bool):Bool:=match actR s with
 | some (.exit 999 fr a)=>Nat.ble 1 a.low&&(inT a.nx.num a.h&&(match fr 162,fr 163,fr 164 with
   | .ptr .h 0,w', .agg [.int .i64 k, .opq 0, .str 0 0,nm,pv, .snil, .snil, .bool false, .snil]=>vsame1 w' w&&(decide (k=kind)&&(vsame1 nm name&&pf a pv))
   |_,_,_=>false))
 |_=>false
theorem JrE {s w:V}{kind:Int}{name:V}{pf:St->V->Bool}(h:actB s w kind name pf=true):∃fr a pv,actR s=some (.exit 999 fr a)/\1<=a.low/\inT a.nx.num a.h=true/\fr 162= .ptr .h 0/\fr 163=w/\
  fr 164= .agg [.int .i64 kind, .opq 0, .str 0 0,name,pv, .snil, .snil, .bool false, .snil]/\pf a pv=true:=by
 unfold actB at h
 split at h
 ·rename_i fr a hr
  rw[Bool.and_eq_true,Bool.and_eq_true]at h
  obtain⟨h1,h2,h3⟩:=h
  split at h3
  ·rename_i k nm pv e1 e3
   rw[Bool.and_eq_true,Bool.and_eq_true,Bool.and_eq_true]at h3
   obtain⟨k1,k2,k3,k4⟩:=h3
   have k2:=of_decide_eq_true k2
   refine⟨fr,a,pv,hr,Nat.le_of_ble_eq_true h1,h2,e1, ?_, ?_,k4⟩
   ·exact kS k1
   ·rw[e3,k2,kS k3]
  ·cases h3
 ·cases h
def restP :C:= .seq (.reg [⟨some 165, .call Jq [.s 162, .s 163, .s 164],none,none⟩,⟨some 4, .mv (.s 165),none,none⟩]) .ret
theorem JmR :restC Jq Jt.body=some restP:=by kernel_rfl
theorem Jsz :cC (cutC Jq 999 Jt.body)=true:=by kernel_rfl
theorem JsA :noX 999 Jt.body=true:=by kernel_rfl
theorem JsB :oneC Jq Jt.body=true:=by kernel_rfl
theorem actC {s w:V}{kind:Int}{name:V}{pf:St->V->Bool}(h:actB s w kind name pf=true)(hs:closed s=true)(hn:closed name=true)(hcw:closed w=true){S:St}(hw:WF S){p:Pt}(hp:S.row p≠ .none){at_:Int}{Q:V->St->Prop}
  (k:∀(S1:St) (ψ:Rn) (a:St) (pv:V),Gr S S1->ψ .h=p->Hold ψ a S1->(∀q:Pt,1<=q.num->S.row (ψ q)= .none)->ψ.s 0= .int .i64 at_->pf a pv=true->Does (tabT tabD) Jq [.ptr p 0,w, .agg [.int .i64 kind, .int .i64 at_, .str 0 0,name,mv ψ pv, .snil, .snil, .bool false, .snil]] S1 Q):
  Does (tabT tabD) QH [.ptr p 0, .agg [.bool true,s, .int .i64 at_]] S Q:=by
 obtain⟨fr,a,pv,h1,h2,h3,h4,h5,h6,h7⟩:=JrE h
 have H0:=Hold.start (S:=S) (fun _=> .int .i64 at_) (fun _=>⟨_,_,rfl⟩) hw
 obtain⟨φ,ag,e1,H⟩:=H0.add (q:=p) (f:=fun t=> .dead t) (fun u=>⟨rfl,by intro e;cases e⟩) hp (fun p h=>absurd h (Nat.not_lt_zero _)) ⟨hp,trivial⟩ rfl rfl
 have es:φ.s 0= .int .i64 at_:=by rw[ag.s]
 have e1:φ .h=p:=e1
 have:=Jmz tabE tabM tabU kA H (args:=[.ptr .h 0, .agg [.bool true,s, .opq 0]]) (n:=40) (g:=Jq) (K:=999) (fr1:=fr) (a1:=a) (c':=restP) (Q:=Q) (by
   simp only[inVs,inV,kj _ s hs]
   rfl) Jsz JsA JsB JmR h1 h2 h3 fun ψ S1 g ag1 H1 fr1=>by
  have e162:mvF ψ fr 162= .ptr p 0:=by
   show mv ψ (fr 162)=_
   rw[h4,mv,ag1.f .h (by decide),e1]
  have e163:mvF ψ fr 163=w:=by
   show mv ψ (fr 163)=_
   rw[h5,JB ψ w hcw]
  have e164:mvF ψ fr 164= .agg [.int .i64 kind, .int .i64 at_, .str 0 0,name,mv ψ pv, .snil, .snil, .bool false, .snil]:=by
   show mv ψ (fr 164)=_
   rw[h6]
   simp only[mv,mvs,JB ψ name hn,ag1.s,es]
  unfold restP
  rw[Jk];simp only[XY,simprocAttr,e162,e163,e164]
  refine Js (k S1 ψ a pv g (by rw[ag1.f .h (by decide),e1]) H1 fr1 (by rw[ag1.s,es]) h7) ?_
  intro v S2 q
  exact q
 simp only[List.map_cons,List.map_nil,mv,mvs,e1,es,JB φ s hs]at this
 exact this
def pfNil :St->V->Bool:=fun _ pv=>match pv with
 | .snil=>true
 |_=>false
structure Fr7 (φ:Rn) (b b' S S':St):Prop where
 mono:Mono S S'
 same:∀s,S.row s≠ .none->(∀p:Pt,b.row p≠ .none->b'.row p≠b.row p->φ p≠s)->S'.row s=S.row s
theorem Fr7.gr {φ:Rn}{b b' S S1 S':St}(g:Gr S S1)(h:Fr7 φ b b' S1 S'):Fr7 φ b b' S S':=
 ⟨g.mono.trans h.mono,fun s e n=>by rw[h.same s (by rw[g.same s e];exact e) n,g.same s e]⟩
theorem stepT {φ:Rn}{b b' S:St}(H:Hold φ b S){pp:Pt}{i:Nat}{at_:Int}{s w name:V}{kind:Int}(hpr:b.row pp≠ .none)(hat:φ.s i= .int .i64 at_)(h:actB s w kind name pfNil=true)(hs:closed s=true)(hn:closed name=true)(hw:closed w=true)
  (hr:run (tabT tabD) 60 Jq [.ptr pp 0,w, .agg [.int .i64 kind, .opq i, .str 0 0,name, .snil, .snil, .snil, .bool false, .snil]] b=some (.int .i64 0,b')) (hi:inT b'.nx.num b'.h=true):
  Does (tabT tabD) QH [.ptr (φ pp) 0, .agg [.bool true,s, .int .i64 at_]] S fun v S'=>v= .int .i64 0/\Fr7 φ b b' S S'/\∃ψ,Agr b.nx.num φ ψ/\Hold ψ b' S'/\∀q:Pt,b.nx.num<=q.num->S.row (ψ q)= .none:=by
 have hp:=H.none hpr
 refine actC h hs hn hw H.wf (Yw (H.row pp hp) hpr) fun S1 χ a pv g _ _ _ _ hpv=> ?_
 have:pv= .snil:=by
  unfold pfNil at hpv
  split at hpv
  ·rfl
  ·cases hpv
 subst this
 have H1:=H.gr g
 have:=H1.goW tabE tabM tabU (args:=[.ptr pp 0,w, .agg [.int .i64 kind, .opq i, .str 0 0,name, .snil, .snil, .snil, .bool false, .snil]]) (by simp only[inVs,inV,kj _ w hw,kj _ name hn,decide_eq_true hp];rfl) hr hi
 simp only[List.map_cons,List.map_nil,mv,mvs,JB φ w hw,JB φ name hn,hat]at this
 simp only[mv]
 refine this.mono fun v S' ⟨m,fr,ψ,ag,e,H',fh⟩=>⟨e.trans (by simp only[mv]),Fr7.gr g ⟨m.mono,fr⟩,ψ,ag,H',fun q hq=>Classical.byContradiction fun c=>c (by rw[<-g.same _ c];exact fh q hq)⟩
def pf1 (pf:St->V->Bool)(a:St)(pv:V):Bool:=pf a pv&&(match pv with
 | .slx r 0 1 1 1=>Nat.blt r.num a.nx.num&&((match a.row r with
   | .cells _ _=>true
   |_=>false)&&(match a.row .h with
   | .dead _=>true
   |_=>false))
 |_=>false)
theorem JmS {pf:St->V->Bool}{a:St}{pv:V}(h:pf1 pf a pv=true):pf a pv=true/\∃r t l u,pv= .slx r 0 1 1 1/\r.num<a.nx.num/\a.row r= .cells t l/\a.row .h= .dead u:=by
 unfold pf1 at h
 rw[Bool.and_eq_true]at h
 obtain⟨h1,h2⟩:=h
 split at h2
 ·rename_i r
  rw[Bool.and_eq_true,Bool.and_eq_true]at h2
  obtain⟨k1,k2,k3⟩:=h2
  split at k2
  ·rename_i t l hr
   split at k3
   ·rename_i u hu
    exact⟨h1,r,t,l,u,rfl,Nat.le_of_ble_eq_true k1,hr,hu⟩
   ·cases k3
  ·cases k2
 ·cases h2
structure TS (W:Pt->Prop) (n0:Nat) (S0:St) (φ:Rn) (b S:St):Prop where
 H:Hold φ b S
 le:n0<=b.nx.num
 mono:Mono S0 S
 keep:∀s,S0.row s≠ .none->¬W s->S.row s=S0.row s
 live:∀s,S0.row s≠ .none->S.row s≠ .none
 fresh:∀q:Pt,n0<=q.num->b.row q≠ .none->S0.row (φ q)= .none
theorem TS.start {W:Pt->Prop}{φ:Rn}{b S:St}(H:Hold φ b S):TS W b.nx.num S φ b S:=⟨H,Nat.le_refl _,Mono.refl H.wf,fun _ _ _=>rfl,fun _ h=>h,fun q hq h=>absurd (H.none h) (by omega)⟩
theorem TS.next {W:Pt->Prop}{n0:Nat}{S0 S S':St}{φ ψ:Rn}{b b':St}(T:TS W n0 S0 φ b S)(F:Fr7 φ b b' S S')(hle:b.nx.num<=b'.nx.num)(ag:Agr b.nx.num φ ψ)(H:Hold ψ b' S')(fr:∀q:Pt,b.nx.num<=q.num->S.row (ψ q)= .none)
  (low:∀q:Pt,q.num<n0->b.row q≠ .none->b'.row q≠b.row q->W (φ q)):TS W n0 S0 ψ b' S':=by
 refine⟨H,Nat.le_trans T.le hle,T.mono.trans F.mono,fun s hs hw=> ?_,fun s hs=> ?_,fun q hq hb=> ?_⟩
 ·rw[F.same s (T.live s hs) fun q hq hc e=> ?_,T.keep s hs hw]
  by_cases c:q.num<n0
  ·exact hw (e▸low q c hq hc)
  ·have:=T.fresh q (by omega) hq
   rw[e]at this
   exact hs this
 ·by_cases c:S'.row s=S.row s
  ·rw[c];exact T.live s hs
  ·exact(F.mono.row s c).2
 ·by_cases c:q.num<b.nx.num
  ·rw[ag.f q c]
   by_cases d:b.row q= .none
   ·have h1:=T.H.row q c
    rw[d]at h1
    have h1:S.row (φ q)= .none:=h1
    exact Classical.byContradiction fun x=>T.live _ x h1
   ·exact T.fresh q hq d
  ·have:=fr q (by omega)
   exact Classical.byContradiction fun x=>T.live _ x this
def StepsD (Sb:St)(p:Pt):List Prt->St->(St->Prop)->Prop
 |[],S,Q=>Q S
 |x::r,S,Q=>Does (tabT tabD) (if x.1 then QH else Ky) [.ptr p 0, .agg [.bool x.1,ofL x.2.1, .int .i64 x.2.2]] S fun v S'=>v= .int .i64 0/\WF S'/\(∀q,Sb.row q≠ .none->S'.row q=S.row q)/\StepsD Sb p r S' Q
structure PEnd (Sb S:St) (p:Pt) (mv:V) (tp:List (List V)):Prop where
 wf:WF S
 c:∃t ov lv,S.row p= .cells t [ov,mv,lv, .int .i64 0]/\lenLV ov=some (.int .i64 0, .no)/\SlAt (fun _=>True) S lv 2 tp
 m:mv.sc=true
 two:0<tp.length/\tp.length<100/\okC tp
def cell3 (x:Prt):List V:=[.bool x.1,ofL x.2.1, .int .i64 x.2.2]
theorem Jgp (ps:List Prt):cellsP ps=(ps.map cell3).flatten:=by
 induction ps with
 |nil=>rfl
 |cons x r ih=>simp only[List.map_cons,List.flatten_cons,<-ih];rfl
theorem JoU {S Sb:St}{u:V}{ps:List Prt}(h:RecsAt S Sb u 3 ps.length (cellsP ps)):SlAt (fun r=>Sb.row r≠ .none) Sb u 3 (ps.map cell3):=by
 refine⟨fun e he=> ?_, ?_⟩
 ·obtain⟨x,_,rfl⟩:=List.mem_map.1 he
  rfl
 ·rcases h.2 with⟨h1,h2⟩|⟨r,t,h1,h2,_⟩
  ·exact .inl ⟨h1,by rw[List.length_eq_zero_iff.1 h2];rfl⟩
  ·refine .inr ⟨r,0,Jh h2, .inl (by rw[h1];simp),cellsP ps, .inl ⟨t,h2⟩,by rw[h.1];simp, ?_⟩
   rw[List.drop_zero,<-Jgp,List.length_map,<-h.1,List.take_length]
def clE (x:Str×Nat):List V:=[ofL x.1, .int .i64 (x.2:Nat)]
structure Wk0 (Sb S:St) (w:Pt) (tv nv cv:V) (at_:Int) (calls:List (Str×Nat)):Prop where
 g:Gr Sb S
 wn:Sb.row w= .none
 c:∃t,S.row w= .cells t [tv,nv,cv, .int .i64 at_]
 l:SlF Sb S cv 2 (calls.map clE)
 aw:rowOf cv≠some w
theorem Wk0.gr {Sb S S':St}{w:Pt}{tv nv cv:V}{at_:Int}{calls:List (Str×Nat)}(h:Wk0 Sb S w tv nv cv at_ calls)(g:Gr S S'):Wk0 Sb S' w tv nv cv at_ calls:=⟨h.g.trans g,h.wn,h.c.imp fun t c=>g.cells c,h.l.gr g,h.aw⟩
abbrev mWd :V:=ofL [109,97,116,99,104]
abbrev opR (at0:Int)(pv0 ev:V)(he:Bool)(cv:V)(way:Int):List V:=[mWd, .int .i64 8, .int .i64 at0,ofL [],ofL [],pv0, .snil,ev, .bool he,cv, .int .i64 way,ofL []]
structure PM (Sb S:St) (p q:Pt) (at0:Int) (pv0:V) (way:Int) (cv:V) (cs:List (List V)):Prop where
 g:Gr Sb S
 pn:Sb.row p= .none
 qn:Sb.row q= .none
 pq:p≠q
 c:∃t,S.row p= .cells t [.sl q 0 1 12, .snil, .snil, .int .i64 0]
 o:∃t,S.row q= .cells t (opR at0 pv0 .snil false cv way)
 m:SlF Sb S cv 2 cs
 am:rowOf cv≠some p
 aq:rowOf cv≠some q
theorem PM.gr {Sb S S':St}{p q:Pt}{at0:Int}{pv0:V}{way:Int}{cv:V}{cs:List (List V)}(h:PM Sb S p q at0 pv0 way cv cs)(g:Gr S S'):PM Sb S' p q at0 pv0 way cv cs:=⟨h.g.trans g,h.pn,h.qn,h.pq,h.c.imp fun t c=>g.cells c,h.o.imp fun t c=>g.cells c,h.m.gr g,h.am,h.aq⟩
theorem Jek {st:St}{P:Pt->Prop}{vx:V}{z:Nat}{xs:List (List V)}(hx:SlAt P st vx z xs)(hok:okC xs)(h0:xs≠[])(hn:xs.length<2^20):appV st z .snil vx=some (.sl st.nx 0 xs.length z, .new fun t=> .cells t xs.flatten):=by
 have h0:¬xs.length=0:=fun e=>h0 (List.length_eq_zero_iff.1 e)
 unfold appV
 rw[hx.slen]
 simp only[hx.all]
 rw[if_pos ⟨hn,hok.flat⟩]
 unfold Kh
 rw[if_neg h0]
set_option maxHeartbeats 1000000 in
theorem otherC {Sb S:St}{p q:Pt}{at0:Int}{pv0:V}{way:Int}{cv:V}{cs:List (List V)}{tag:Str}(h:PM Sb S p q at0 pv0 way cv cs)(hpv:pv0.sc=true)(hn:cs.length<1000):
  Does (tabT tabD) kO [.ptr p 0,ofL [99,97,115,101],ofL tag] S fun v S'=>Ch (fun r=>r=q\/rowOf cv=some r) S S'/\v= .int .i64 0/\∃cv',PM Sb S' p q at0 pv0 2 cv' (cs++[[ofL tag, .snil]])/\∀r,rowOf cv'=some r->S.row r= .none:=by
 refine kU tabM kE rfl h.g.wf fun K fin=> ?_
 obtain⟨tp,rp⟩:=h.c
 obtain⟨tq,rq⟩:=h.o
 have hw:=h.g.wf
 have l1:lenLV (.sl q 0 1 12)=some (.int .i64 1, .no):=rfl
 have i1:iaddrSV 12 (.sl q 0 1 12) (.int .i64 0)=some (.ptr q 0, .no):=rfl
 obtain⟨n0,hn0⟩:∃n,S.nx=up 0 n:=⟨_,up0 _⟩
 have op:=fun k=>nes (qh hw hn0 (Jh rp) k)
 have oq:=fun k=>nes (qh hw hn0 (Jh rq) k)
 have lm:=h.m.at.len
 simp only[JE,XY,simprocAttr]
 rw[Jk];simp only[XY,simprocAttr]
 rw[Ju,Jk];simp only[XY,simprocAttr,rp,l1]
 rw[Jk];simp only[XY,simprocAttr,rp,l1,i1]
 rw[Ju,Jk];simp only[XY,simprocAttr,rq,List.cons.injEq,and_false,false_and,and_true,true_and,List.cons_ne_nil,reduceCtorEq]
 rw[Ju,Jk];simp only[XY,simprocAttr,List.cons.injEq,and_false,false_and,and_true,true_and,List.cons_ne_nil,reduceCtorEq]
 rw[Jk];simp only[XY,simprocAttr,rq,hn0,op,oq]
 obtain⟨A2,hA2⟩:∃A,A=(S.new fun t=>Row.cells t [ofL tag,V.snil]):=⟨_,rfl⟩
 have ga2:Gr S A2:=by rw[hA2];exact Gr.new hw (Jj _)
 have hone:SlAt (fun r=>r=up 0 n0) A2 (.slx (up 0 n0) 0 1 2 1) 2 [[ofL tag, .snil]]:=by
  have:=JbS (st:=S) (z:=2) (e:=[ofL tag, .snil]) rfl
  rwa [hn0,<-hA2]at this
 rw[<-hA2]
 clear hA2
 have rq2:=ga2.cells rq
 have rp2:=ga2.cells rp
 refine JoL (S0:=Sb) (h.g.trans ga2) (h.m.gr ga2) hone (fun e he=>by rw[List.mem_singleton.1 he];rfl) (by simp) (by simp) (by simp;omega) ?_
 intro A3 cv3 g3 h3 rv3 kp3
 have rq3:A3.row q= .cells tq (opR at0 pv0 .snil false cv way):=(kp3 q (Jh rq2) h.aq).trans rq2
 have rp3:A3.row p= .cells tp [.sl q 0 1 12, .snil, .snil, .int .i64 0]:=(kp3 p (Jh rp2) h.am).trans rp2
 have sc3:=h3.at.sc
 have cl3:=h3.at.cells
 simp only[XY,simprocAttr,rq3,cl3,sc3]
 obtain⟨A4,hA4⟩:∃A,A=(A3.wr q tq fun u=>Row.cells u (opR at0 pv0 .snil false cv3 way)):=⟨_,rfl⟩
 have r4:A4.row q= .cells A3.t (opR at0 pv0 .snil false cv3 way):=by rw[hA4,JF,if_pos rfl]
 have k4:∀r,r≠q->A4.row r=A3.row r:=fun r e=>by rw[hA4];simp only[JF,e,if_false]
 have g4:Gr Sb A4:=by rw[hA4];exact g3.wr h.qn (Jh rq3) (by rw[rq3];rfl) (Jj _)
 rw[<-hA4]
 clear hA4
 rw[Jk];simp only[XY,simprocAttr,r4]
 rw[Jk];simp only[XZ,simprocAttr]
 refine fin _ _ (fun r e hW=> ?_) fun _=>⟨rfl,cv3,⟨g4.wr h.qn (Jh r4) (by rw[r4];rfl) (Jj _),h.pn,h.qn,h.pq,⟨tp, ?_⟩,⟨_,by rw[JF,if_pos rfl]⟩, ?_, ?_, ?_⟩, ?_⟩
 ·have hq:r≠q:=fun x=>hW (.inl x)
  simp only[JF,hq,if_false]
  rw[k4 r hq,kp3 r (by rw[ga2.same r e];exact e) fun x=>hW (.inr x),ga2.same r e]
 ·simp only[JF,h.pq,if_false]
  rw[k4 p h.pq,rp3]
 ·have hne:∀r,rowOf cv3=some r->r≠q:=fun r e x=>by
   rw[rv3]at e
   injection e with e
   rw[x]at e
   rw[<-e,Yu ga2.wf]at rq2
   cases rq2
  refine⟨h3.1, ?_⟩
  rcases h3.2 with e|⟨r,t,e1,e2,e3⟩
  ·exact .inl e
  ·have hr:r≠q:=hne r (by rcases e3 with e3|e3<;>(rw[e3];rfl))
   exact .inr ⟨r,t,e1,by simp only[JF,hr,if_false];rw[k4 r hr,e2],e3⟩
 ·intro e
  rw[rv3]at e
  injection e with e
  rw[<-e,Yu ga2.wf]at rp2
  cases rp2
 ·intro e
  rw[rv3]at e
  injection e with e
  rw[<-e,Yu ga2.wf]at rq2
  cases rq2
 ·intro x hx
  rw[rv3]at hx
  injection hx with hx
  rw[<-hx]
  exact Classical.byContradiction fun c=>c (by
   have:=ga2.same _ c
   rw[Yu ga2.wf]at this
   exact this.symm)
theorem putC2 {Sb S:St}{p q:Pt}{at0:Int}{pv0:V}{cv tv:V}{cs:List (List V)}{k at_:Int}{s nm:Str}{pv:V}(h:PM Sb S p q at0 pv0 2 cv (cs++[[tv, .snil]]))(hpv:pv.sc=true)(hn:cs.length<1000):
  Does (tabT tabD) jp [.ptr p 0, .agg (ndN k at_ s nm pv)] S fun v S'=>Ch (fun r=>rowOf cv=some r) S S'/\v= .bool true/\∃rb,S.row rb= .none/\(∃t,S'.row rb= .cells t (ndN k at_ s nm pv))/\PM Sb S' p q at0 pv0 2 cv (cs++[[tv, .sl rb 0 1 9]]):=by
 refine kU tabM kZ rfl h.g.wf fun K fin=> ?_
 obtain⟨tp,rp⟩:=h.c
 obtain⟨tq,rq⟩:=h.o
 have hw:=h.g.wf
 obtain⟨n0,hn0⟩:∃n,S.nx=up 0 n:=⟨_,up0 _⟩
 have pc:pv.cells=some [pv]:=by cases pv<;>first|rfl|(cases hpv;done)
 have l1:lenLV (.sl q 0 1 12)=some (.int .i64 1, .no):=rfl
 have i1:iaddrSV 12 (.sl q 0 1 12) (.int .i64 0)=some (.ptr q 0, .no):=rfl
 have hL:(cs++[[tv,V.snil]]).length=cs.length+1:=by simp
 simp only[JN,XY,simprocAttr]
 rw[Jk];simp only[XY,simprocAttr,hn0,hpv,pc]
 refine Qa ?_
 intro S1 hS1
 have G1:Gr S S1:=by rw[hS1];exact Gr.new hw (Jj _)
 obtain⟨p3,hp3⟩:∃b,b=up 0 n0:=⟨_,rfl⟩
 obtain⟨t3,r3⟩:∃t,S1.row p3= .cells t (ndN k at_ s nm pv):=⟨_,by rw[hS1,hp3];simp only[XZ,simprocAttr,hn0];rfl⟩
 have p3n:S.row p3= .none:=by rw[hp3];exact nx0 hw hn0 0
 rw[<-hp3]
 have rp1:=G1.cells rp
 have rq1:=G1.cells rq
 clear hS1
 have h1:=h.gr G1
 have w1:=G1.wf
 obtain⟨n1,hn1⟩:∃n,S1.nx=up 0 n:=⟨_,up0 _⟩
 have o3:=fun k=>nes (qh w1 hn1 (Jh r3) k)
 have op1:=fun k=>nes (qh w1 hn1 (Jh rp1) k)
 have oq1:=fun k=>nes (qh w1 hn1 (Jh rq1) k)
 have lm:=h1.m.at.len
 rw[hL]at lm
 obtain⟨rc,tc,c1,c2,c3⟩:∃r t,Sb.row r= .none/\S1.row r= .cells t (cs++[[tv,V.snil]]).flatten/\(cv= .sl r 0 (cs++[[tv,V.snil]]).length 2\/cv= .slx r 0 (cs++[[tv,V.snil]]).length 2 (cs++[[tv,V.snil]]).length):=by
  rcases h1.m.2 with⟨_,e⟩|h
  ·simp at e
  ·exact h
 have hcs2:∀e∈cs,e.length=2:=fun e he=>h1.m.1 e (List.mem_append_left _ he)
 have hi:iaddrSV 2 cv (.int .i64 (cs.length:Nat))=some (.ptr rc (cs.length*2), .no):=by
  rcases c3 with e|e
  ·rw[e,YT,if_pos (by omega)];simp
  ·rw[e,YU,if_pos (by omega)];simp
 rw[Ju,Jk];simp only[XY,simprocAttr,rp1,l1]
 rw[Jk];simp only[XY,simprocAttr,rp1,l1,i1]
 rw[Ju,Jk];simp only[XY,simprocAttr,rq1]
 rw[Jk];simp only[XY,simprocAttr]
 rw[Jk];simp only[XY,simprocAttr]
 rw[Jk];simp only[XY,simprocAttr]
 have hsub:IntKind.i64.wrap (((cs.length+1:Nat):Int)-1)=((cs.length:Nat):Int):=by rw[Q0 (by omega) (by omega)];omega
 have hfl:(cs++[[tv,V.snil]]).flatten.length=(cs.length+1)*2:=by rw[Kr h1.m.1,hL]
 have c4:ld1 (S1.row rc) (cs.length*2+1)=some (.snil, .no):=by
  have hf:=Kr hcs2
  have:(cs++[[tv,V.snil]]).flatten[cs.length*2+1]? =some .snil:=by
   rw[List.flatten_append,List.getElem?_append_right (by omega),hf]
   simp
  rw[c2,Y9,this]
  rfl
 rw[Jk];simp only[XY,simprocAttr,rq1,lm,hsub,hi]
 have l0:lenLV .snil=some (.int .i64 0, .no):=rfl
 have hrcp:rc≠p:=fun e=>h.am (by rcases c3 with c|c<;>(rw[c,e];rfl))
 have hrcq:rc≠q:=fun e=>h.aq (by rcases c3 with c|c<;>(rw[c,e];rfl))
 simp only[XY,simprocAttr,c4,r3,hn1,o3,l0]
 obtain⟨A2,hA2⟩:∃S,S=(S1.new fun t=>Row.cells t nd0):=⟨_,rfl⟩
 have ga2:Gr S1 A2:=by rw[hA2];exact Gr.new w1 (Jj _)
 have hone:SlAt (fun r=>r=up 0 n1) A2 (.slx (up 0 n1) 0 1 9 1) 9 [nd0]:=by
  have:=JbS (st:=S1) (z:=9) (e:=nd0) rfl
  rwa [hn1,<-hA2]at this
 rw[<-hA2]
 clear hA2
 have rp2:=ga2.cells rp1
 have rq2:=ga2.cells rq1
 have r32:=ga2.cells r3
 have c22:=ga2.cells c2
 have happ:=Jek hone (fun e he=>by rw[List.mem_singleton.1 he];rfl) (by simp) (by simp)
 obtain⟨n2,hn2⟩:∃n,A2.nx=up 0 n:=⟨_,up0 _⟩
 simp only[List.length_cons,List.length_nil,List.flatten_cons,List.flatten_nil,List.append_nil,Nat.zero_add,hn2]at happ
 obtain⟨rb,hrb⟩:∃b,b=up 0 n2:=⟨_,rfl⟩
 rw[<-hrb]at happ
 have rbn:A2.row rb= .none:=by rw[hrb];exact nx0 ga2.wf hn2 0
 obtain⟨A3,hA3⟩:∃S,S=(A2.new fun t=>Row.cells t nd0):=⟨_,rfl⟩
 have ga3:Gr A2 A3:=by rw[hA3];exact Gr.new ga2.wf (Jj _)
 have b2:A3.row rb= .cells A2.t nd0:=by rw[hA3,hrb,<-hn2,Ki,if_pos rfl]
 have rp3:=ga3.cells rp2
 have rq3:=ga3.cells rq2
 have c23:=ga3.cells c22
 have r33:=ga3.cells r32
 have hib:iaddrSV 9 (.sl rb 0 1 9) (.int .i64 0)=some (.ptr rb 0, .no):=rfl
 have hnb:∀{r:Pt},A2.row r≠ .none->r≠rb:=fun{r} e x=>e (by rw[x];exact rbn)
 have hcb:rc≠rb:=hnb (Jh c22)
 rw[happ,jS,Jao,<-hA3,Jit]
 have hle:0+9<=nd0.length:=by decide
 have hle2:cs.length*2+1+1<=(cs++[[tv,V.snil]]).flatten.length:=by rw[hfl];omega
 have hspl:splice (cs++[[tv,V.snil]]).flatten (cs.length*2+1) [V.sl rb 0 1 9]=(cs++[[tv,V.sl rb 0 1 9]]).flatten:=by
  have hf:=Kr hcs2
  simp only[splice,List.flatten_append,List.flatten_cons,List.flatten_nil,List.append_nil,List.length_cons,List.length_nil,<-hf]
  rw[List.take_append,List.take_of_length_le (by omega),List.drop_append,List.drop_eq_nil_of_le (by omega),show cs.flatten.length+1-cs.flatten.length=1 by omega,show cs.flatten.length+1+(0+1)-cs.flatten.length=2 by omega]
  simp
 simp only[XN,simprocAttr,hib,b2,hpv,pc,hcb,c23,hle2]
 have g4:Gr Sb (A3.wr rb A2.t fun u=>Row.cells u (splice nd0 0 (ndN k at_ s nm pv))):=((h1.g.trans ga2).trans ga3).wr (Classical.byContradiction fun c=>c (by rw[<-(h1.g.trans ga2).same _ c];exact rbn)) (Jh b2) (by rw[b2];rfl) (Jj _)
 refine⟨JjZ (jD (v:= .ptr rb 0) (w:= .ptr rc (cs.length*2+1)) (q:=rc) (by simp only[XN,simprocAttr]) (by simp only[XN,simprocAttr]) rfl (fun e=>by injection e with e;exact hcb e.symm)) (jD (v:= .ptr rc (cs.length*2+1)) (w:= .ptr rb 0) (q:=rb) (by simp only[XN,simprocAttr]) (by simp only[XN,simprocAttr]) rfl (fun e=>by injection e with e;exact hcb e)), ?_⟩
 simp only[XM,simprocAttr]
 rw[hspl]
 obtain⟨A4,hA4⟩:∃A,A=(A3.wr rb A2.t fun u=>Row.cells u (splice nd0 0 (ndN k at_ s nm pv))):=⟨_,rfl⟩
 have k4:∀r,r≠rb->A4.row r=A3.row r:=fun r e=>by rw[hA4];simp only[JF,e,if_false]
 have b4:A4.row rb= .cells A3.t (ndN k at_ s nm pv):=by rw[hA4,JF,if_pos rfl];rfl
 rw[<-hA4]at g4⊢
 clear hA4
 have c24:A4.row rc= .cells tc (cs++[[tv,V.snil]]).flatten:=(k4 rc hcb).trans c23
 have hpb:p≠rb:=hnb (Jh rp2)
 have hqb:q≠rb:=hnb (Jh rq2)
 have old:∀{r:Pt},S.row r≠ .none->A2.row r=S.row r:=fun{r} e=>(G1.trans ga2).same r e
 have rbS:S.row rb= .none:=Classical.byContradiction fun c=>c (by rw[<-old c];exact rbn)
 refine fin _ _ (fun r e hW=> ?_) fun _=>⟨rfl,rb,rbS,⟨_,by simp only[JF,Ne.symm hcb,if_false];exact b4⟩,⟨g4.wr c1 (Jh c24) (by rw[c24];rfl) (Jj _),h.pn,h.qn,h.pq,⟨tp, ?_⟩,⟨tq, ?_⟩, ?_,h.am,h.aq⟩⟩
 ·have hrc:r≠rc:=fun x=>hW (by rw[x];rcases c3 with c|c<;>(rw[c];rfl))
  have hrb:r≠rb:=fun x=>e (by rw[x];exact rbS)
  simp only[JF,hrc,if_false]
  rw[k4 r hrb,ga3.same r (by rw[old e];exact e),old e]
 ·simp only[JF,Ne.symm hrcp,if_false]
  rw[k4 p hpb,rp3]
 ·simp only[JF,Ne.symm hrcq,if_false]
  rw[k4 q hqb,rq3]
 ·refine⟨fun e he=> ?_, .inr ⟨rc,A4.t,c1,by rw[JF,if_pos rfl], ?_⟩⟩
  ·rcases List.mem_append.1 he with he|he
   ·exact hcs2 e he
   ·rw[List.mem_singleton.1 he];rfl
  ·have e:(cs++[[tv,V.sl rb 0 1 9]]).length=(cs++[[tv,V.snil]]).length:=by simp
   rw[e];exact c3
theorem Jkd {Sb S:St}{p q:Pt}{at0 at_:Int}{pv0:V}{way:Int}{cv:V}{cs:List (List V)}{tag:Str}(h:PM Sb S p q at0 pv0 way cv cs)(hpv:pv0.sc=true)(hn:cs.length<1000):
  Does (tabT tabD) Jq [.ptr p 0,ofL [99,97,115,101], .agg (ndN 2 at_ [] tag .snil)] S fun v S'=>Ch (fun r=>r=q\/rowOf cv=some r) S S'/\v= .int .i64 0/\∃cv',PM Sb S' p q at0 pv0 2 cv' (cs++[[ofL tag, .snil]])/\∀r,rowOf cv'=some r->S.row r= .none:=by
 refine kU tabM QI rfl h.g.wf fun K fin=> ?_
 have hw:=h.g.wf
 obtain⟨n0,hn0⟩:∃n,S.nx=up 0 n:=⟨_,up0 _⟩
 simp only[Jv,XY,simprocAttr]
 rw[Jk];simp only[XY,simprocAttr,hn0]
 refine Qa ?_
 intro S1 hS1
 have G1:Gr S S1:=by rw[hS1];exact Gr.new hw (Jj _)
 obtain⟨p3,hp3⟩:∃b,b=up 0 n0:=⟨_,rfl⟩
 obtain⟨t3,r3⟩:∃t,S1.row p3= .cells t (ndN 2 at_ [] tag .snil):=⟨_,by rw[hS1,hp3];simp only[XZ,simprocAttr,hn0];rfl⟩
 rw[<-hp3]
 clear hS1
 simp only[XZ,simprocAttr,List.cons.injEq,and_false,false_and,and_true,true_and,List.cons_ne_nil,reduceCtorEq,r3]
 refine Js (otherC (h.gr G1) hpv hn) ?_
 rintro _ S3 ⟨C3,rfl,cv',P3,f3⟩
 simp only[XZ,simprocAttr]
 refine fin _ _ (fun r e hW=> ?_) fun _=>⟨rfl,cv',P3,fun q hq=>Classical.byContradiction fun c=>c (by rw[<-G1.same q c];exact f3 q hq)⟩
 rw[C3.same r (by rw[G1.same r e];exact e) hW,G1.same r e]
theorem Jhv {Sb S:St}{p q:Pt}{at0 at_:Int}{pv0 pv:V}{cv tv:V}{cs:List (List V)}(h:PM Sb S p q at0 pv0 2 cv (cs++[[tv, .snil]]))(hpv:pv.sc=true)(hn:cs.length<1000):
  Does (tabT tabD) Jq [.ptr p 0,ofL [], .agg (ndN 2 at_ [] [] pv)] S fun v S'=>Ch (fun r=>rowOf cv=some r) S S'/\v= .int .i64 0/\∃rb,S.row rb= .none/\(∃t,S'.row rb= .cells t (ndN 2 at_ [] [] pv))/\PM Sb S' p q at0 pv0 2 cv (cs++[[tv, .sl rb 0 1 9]]):=by
 refine kU tabM QI rfl h.g.wf fun K fin=> ?_
 have hw:=h.g.wf
 have pc:pv.cells=some [pv]:=by cases pv<;>first|rfl|(cases hpv;done)
 obtain⟨n0,hn0⟩:∃n,S.nx=up 0 n:=⟨_,up0 _⟩
 simp only[Jv,XY,simprocAttr]
 rw[Jk];simp only[XY,simprocAttr,hn0,hpv,pc]
 refine Qa ?_
 intro S1 hS1
 have G1:Gr S S1:=by rw[hS1];exact Gr.new hw (Jj _)
 obtain⟨p3,hp3⟩:∃b,b=up 0 n0:=⟨_,rfl⟩
 obtain⟨t3,r3⟩:∃t,S1.row p3= .cells t (ndN 2 at_ [] [] pv):=⟨_,by rw[hS1,hp3];simp only[XZ,simprocAttr,hn0];rfl⟩
 rw[<-hp3]
 clear hS1
 simp only[XZ,simprocAttr,List.nil_eq,List.cons.injEq,and_false,false_and,and_true,true_and,List.cons_ne_nil,reduceCtorEq,r3]
 refine Js (putC2 (h.gr G1) hpv hn) ?_
 rintro _ S3 ⟨C3,rfl,rb,n3,b3,P3⟩
 simp only[XZ,simprocAttr]
 refine fin _ _ (fun r e hW=> ?_) fun _=>⟨rfl,rb,Classical.byContradiction fun c=>c (by rw[<-G1.same rb c];exact n3),b3,P3⟩
 rw[C3.same r (by rw[G1.same r e];exact e) hW,G1.same r e]
def PvH (S:St)(p:Pt)(X:Pt->Prop)(F:St->V->Bool)(at_:Int)(pv:V):Prop:=
 ∃(χ:Rn) (a:St) (r:Pt) (u:Nat),pv= .slx (χ r) 0 1 1 1/\Hold χ a S/\F a (.slx r 0 1 1 1)=true/\r.num<a.nx.num/\r≠ .h/\a.row r≠ .none/\χ.s 0= .int .i64 at_/\a.row .h= .dead u/\χ .h=p/\∀x:Pt,x≠ .h->a.row x≠ .none->¬X (χ x)
theorem PvH.ch {S S':St}{p:Pt}{X X' W:Pt->Prop}{F:St->V->Bool}{at_:Int}{pv:V}(h:PvH S p X F at_ pv)(C:Ch W S S')(hW:∀r,W r->r=p\/X r)(hX:∀r,X' r->X r\/S.row r= .none):PvH S' p X' F at_ pv:=by
 obtain⟨χ,a,r,u,e,H,h1,h2,h2',h2'',h3,h4,h5,h6⟩:=h
 have live:∀q,a.row q≠ .none->S.row (χ q)≠ .none:=fun q hq=>Yw (H.row q (H.none hq)) hq
 refine⟨χ,a,r,u,e,H.keep' C.mono fun q hq hd=> ?_,h1,h2,h2',h2'',h3,h4,h5,fun x x0 hx w=> ?_⟩
 ·have q0:q≠ .h:=fun e=>hd u (by rw[e];exact h4)
  refine C.same _ (live q hq) fun w=> ?_
  rcases hW _ w with w|w
  ·exact q0 (H.inj q .h (by rw[w,h5]))
  ·exact h6 q q0 hq w
 ·rcases hX _ w with w|w
  ·exact h6 x x0 hx w
  ·exact live x hx w
def CaseH (Sp S:St)(p q:Pt)(cv:V)(F:St->V->Bool)(k:Nat)(e:List V):Prop:=
 ∃(rb:Pt) (at_:Int) (pv:V),e=[ofL (tagS k), .sl rb 0 1 9]/\(∃t,S.row rb= .cells t (ndN 2 at_ [] [] pv))/\Sp.row rb= .none/\rb≠p/\rb≠q/\rowOf cv≠some rb/\PvH S p (fun r=>Sp.row r≠ .none\/r=q\/rowOf cv=some r\/r=rb) F at_ pv
theorem CaseH.ch {Sp S S':St}{p q:Pt}{cv cv':V}{F:St->V->Bool}{k:Nat}{e:List V}{W:Pt->Prop}(h:CaseH Sp S p q cv F k e)(C:Ch W S S')(hW:∀r,W r->r=p\/r=q\/rowOf cv=some r)(hv:∀r,rowOf cv'=some r->S.row r= .none\/rowOf cv=some r):CaseH Sp S' p q cv' F k e:=by
 obtain⟨rb,at_,pv,e1,⟨t,e2⟩,e3,e4,e5,e6,e7⟩:=h
 refine⟨rb,at_,pv,e1,⟨t, ?_⟩,e3,e4,e5,fun x=> ?_,e7.ch C (fun r w=> ?_) fun r w=> ?_⟩
 ·rw[C.same rb (Jh e2) fun w=> ?_,e2]
  rcases hW _ w with w|w|w
  ·exact e4 w
  ·exact e5 w
  ·exact e6 w
 ·rcases hv _ x with y|y
  ·exact Jh e2 y
  ·exact e6 y
 ·rcases hW _ w with w|w|w
  ·exact .inl w
  ·exact .inr (.inr (.inl w))
  ·exact .inr (.inr (.inr (.inl w)))
 ·rcases w with w|w|w|w
  ·exact .inl (.inl w)
  ·exact .inl (.inr (.inl w))
  ·rcases hv _ w with y|y
   ·exact .inr y
   ·exact .inl (.inr (.inr (.inl y)))
  ·exact .inl (.inr (.inr (.inr w)))
def Cases (Sp S:St)(p q:Pt)(cv:V)(F:St->V->Bool)(ks:List Nat)(cs:List (List V)):Prop:=cs.length=ks.length/\∀i (h:i<cs.length) (h':i<ks.length),CaseH Sp S p q cv F ks[i] cs[i]
theorem Cases.ch {Sp S S':St}{p q:Pt}{cv cv':V}{F:St->V->Bool}{ks:List Nat}{cs:List (List V)}{W:Pt->Prop}(h:Cases Sp S p q cv F ks cs)(C:Ch W S S')(hW:∀r,W r->r=p\/r=q\/rowOf cv=some r)(hv:∀r,rowOf cv'=some r->S.row r= .none\/rowOf cv=some r):Cases Sp S' p q cv' F ks cs:=
 ⟨h.1,fun i a b=>(h.2 i a b).ch C hW hv⟩
structure MS (Sp Sb S:St) (p q:Pt) (pv0:V) (way:Int) (cv:V) (cs:List (List V)) (F0 F:St->V->Bool) (ks:List Nat):Prop where
 P:PM Sb S p q 0 pv0 way cv cs
 h0:PvH S p (fun r=>Sp.row r≠ .none\/r=q\/rowOf cv=some r) F0 0 pv0
 cs:Cases Sp S p q cv F ks cs
theorem JrF {S:St}{p:Pt}{X:Pt->Prop}{F:St->V->Bool}{at_:Int}{pv:V}(h:PvH S p X F at_ pv):pv.sc=true:=by
 obtain⟨χ,a,r,u,rfl,_⟩:=h;rfl
theorem JmT {Sp Sb S:St}{p q:Pt}{pv0:V}{way:Int}{cv:V}{cs:List (List V)}{F0 F:St->V->Bool}{ks:List Nat}{k b:Nat}{c1 c2:Nat}{rest:List Prt}{Q:St->Prop}(h:MS Sp Sb S p q pv0 way cv cs F0 F ks)(hsp:∀r,Sp.row r≠ .none->Sb.row r≠ .none)(hn:cs.length<1000)
  (hk:actB (ofL (mcS k)) (ofL [99,97,115,101]) 2 (ofL (tagS k)) pfNil=true) (hb:actB (ofL (mbS b)) (ofL []) 2 (ofL []) (pf1 F)=true)
  (kont:∀S' cv' cs',MS Sp Sb S' p q pv0 2 cv' cs' F0 F (ks++[k])->StepsD Sb p rest S' Q):StepsD Sb p ((true,mcS k,c1)::(true,mbS b,c2)::rest) S Q:=by
 have sc0:=JrF h.h0
 rw[StepsD]
 refine(actC hk rfl rfl rfl h.P.g.wf (Jh h.P.c.choose_spec) (Q:=fun v S'=>v= .int .i64 0/\WF S'/\(∀q,Sb.row q≠ .none->S'.row q=S.row q)/\StepsD Sb p ((true,mbS b,c2)::rest) S' Q) fun S1 χ1 a1 pv1 g1 eh1 Ha1 fr1 hx1 hpv1=> ?_)
 have e1:pv1= .snil:=by
  unfold pfNil at hpv1
  split at hpv1
  ·rfl
  ·cases hpv1
 subst e1
 simp only[mv]
 refine(Jkd (tag:=tagS k) (at_:=c1) (h.P.gr g1) sc0 hn).mono fun v S2 ⟨C2,e2,cv2,P2,f2⟩=>⟨e2,P2.g.wf,fun r hr=>by rw[P2.g.same r hr,h.P.g.same r hr], ?_⟩
 have C02:Ch (fun r=>r=q\/rowOf cv=some r) S S2:=(Ch.of _ g1).trans C2 fun r w=> .inl w
 have f02:∀r,rowOf cv2=some r->S.row r= .none:=fun r hr=>Classical.byContradiction fun c=>c (by rw[<-g1.same r c];exact f2 r hr)
 have h02:PvH S2 p (fun r=>Sp.row r≠ .none\/r=q\/rowOf cv2=some r) F0 0 pv0:=h.h0.ch C02 (fun r w=> .inr (.inr w)) fun r w=>by
  rcases w with w|w|w
  ·exact .inl (.inl w)
  ·exact .inl (.inr (.inl w))
  ·exact .inr (f02 r w)
 have K2:Cases Sp S2 p q cv2 F ks cs:=h.cs.ch C02 (fun r w=> .inr w) fun r w=> .inl (f02 r w)
 rw[StepsD]
 refine(actC hb rfl rfl rfl P2.g.wf (Jh P2.c.choose_spec) (Q:=fun v S'=>v= .int .i64 0/\WF S'/\(∀q,Sb.row q≠ .none->S'.row q=S2.row q)/\StepsD Sb p rest S' Q) fun S3 χ a pv g3 eh Ha fr hx0 hpv=> ?_)
 obtain⟨hpf,r,tr,l,u,rfl,hrl,har,hah⟩:=JmS hpv
 have P3:=P2.gr g3
 refine(Jhv (at_:=c2) (pv:=mv χ (.slx r 0 1 1 1)) P3 (by rw[mv];rfl) hn).mono fun v S4 ⟨C4,e4,rb,n4,b4,P4⟩=>⟨e4,P4.g.wf,fun r hr=>by rw[P4.g.same r hr,P2.g.same r hr],kont S4 cv2 _ ⟨P4, ?_, ?_⟩⟩
 ·exact(h02.ch (Ch.of (fun _=>False) g3) (fun r w=>w.elim) fun r w=> .inl w).ch C4 (fun r w=> .inr (.inr (.inr w))) fun r w=> .inl w
 have pos:∀x:Pt,x≠ .h->1<=x.num:=fun x e=>by
  cases hq:x.num with
  |zero=>exact absurd (Pt.num_inj (by rw[hq];rfl)) e
  |succ n=>omega
 have r0:r≠ .h:=fun e=>by rw[e,hah]at har;cases har
 have new3:PvH S3 p (fun r=>Sp.row r≠ .none\/r=q\/rowOf cv2=some r) F c2 (mv χ (.slx r 0 1 1 1)):=by
  refine⟨χ,a,r,u,by simp only[mv],Ha,hpf,hrl,r0,(by rw[har];exact fun e=>by cases e),hx0,hah,eh,fun x x0 hx w=> ?_⟩
  have f:=fr x (pos x x0)
  rcases w with w|w|w
  ·have h1:=hsp _ w
   exact(by rw[P2.g.same _ h1];exact h1:S2.row (χ x)≠ .none) f
  ·rw[w]at f
   exact Jh P2.o.choose_spec f
  ·obtain⟨_,t,c⟩:=P2.m.row w
   exact Jh c f
 have lr:rowOf cv2≠some rb:=fun e=>by
  obtain⟨_,t,c⟩:=P3.m.row e
  exact Jh c n4
 have new4:CaseH Sp S4 p q cv2 F k [ofL (tagS k), .sl rb 0 1 9]:=by
  refine⟨rb,c2,mv χ (.slx r 0 1 1 1),rfl,b4,Classical.byContradiction fun c=>hsp _ c (Classical.byContradiction fun d=>(by rw[P3.g.same _ d];exact d:S3.row rb≠ .none) n4),fun e=>Jh P3.c.choose_spec (e▸n4),fun e=>Jh P3.o.choose_spec (e▸n4),lr, ?_⟩
  exact new3.ch C4 (fun r w=> .inr (.inr (.inr w))) fun r w=>by
   rcases w with w|w|w|w
   ·exact .inl (.inl w)
   ·exact .inl (.inr (.inl w))
   ·exact .inl (.inr (.inr w))
   ·rw[w];exact .inr n4
 have K4:Cases Sp S4 p q cv2 F ks cs:=(K2.ch (Ch.of (fun _=>False) g3) (fun r w=>w.elim) fun r w=> .inr w).ch C4 (fun r w=> .inr (.inr w)) fun r w=> .inr w
 refine⟨by simp[K4.1],fun i hi hi'=> ?_⟩
 by_cases c:i<cs.length
 ·have c':i<ks.length:=by rw[<-K4.1];exact c
  rw[List.getElem_append_left c,List.getElem_append_left c']
  exact K4.2 i c c'
 ·have c1:i=cs.length:=by
   rw[List.length_append]at hi
   simp at hi
   omega
  subst c1
  have e2:(ks++[k])[cs.length]=k:=by simp[K4.1]
  rw[List.getElem_append_right (Nat.le_refl _),e2]
  simp only[Nat.sub_self,List.getElem_cons_zero]
  exact new4
theorem casesC {Sp Sb:St}{p q:Pt}{pv0:V}{F0 F:St->V->Bool}{b:Nat}(hsp:∀r,Sp.row r≠ .none->Sb.row r≠ .none)(hb:actB (ofL (mbS b)) (ofL []) 2 (ofL []) (pf1 F)=true){tail:List Prt}{Q:St->Prop}:∀{js:List Nat} {n:Nat} {S:St} {way:Int} {cv:V} {cs:List (List V)} {ks:List Nat},MS Sp Sb S p q pv0 way cv cs F0 F ks->(∀k∈js,actB (ofL (mcS k)) (ofL [99,97,115,101]) 2 (ofL (tagS k)) pfNil=true)->cs.length+js.length<1000->
  (∀S' way' cv' cs',MS Sp Sb S' p q pv0 way' cv' cs' F0 F (ks++js)->StepsD Sb p tail S' Q)->StepsD Sb p (partsM b js n++tail) S Q
 |[],n,S,way,cv,cs,ks,h,_,_,k=>k S way cv cs (by simpa using h)
 | x::r,n,S,way,cv,cs,ks,h,hj,hn,k=>by
   simp only[List.length_cons]at hn
   rw[partsM,List.cons_append,List.cons_append]
   refine JmT h hsp (by omega) (hj x (List.mem_cons_self ..)) hb fun S' cv' cs' h'=> ?_
   have hl:cs'.length=cs.length+1:=by rw[h'.cs.1,List.length_append,h.cs.1];rfl
   exact casesC hsp hb h' (fun y hy=>hj y (List.mem_cons_of_mem _ hy)) (by omega) fun S2 w2 cv2 cs2 h2=>k S2 w2 cv2 cs2 (by simpa using h2)
structure PEnd0 (Sb S:St) (p:Pt) (mv:V):Prop where
 wf:WF S
 c:∃t ov,S.row p= .cells t [ov,mv, .snil, .int .i64 0]/\lenLV ov=some (.int .i64 0, .no)
 m:mv.sc=true
theorem JrG (st:St)(r:Pt)(z:Nat):appV st z (.slx r 0 1 z 1) .snil=some (.slx r 0 1 z 1, .no):=by
 unfold appV Kh
 simp[slen,Jw,allSc]
set_option maxHeartbeats 4000000 in
theorem parseC0 {l:List UInt8}{ps:List Prt}{S:St}{R:St->V->Prop}(hw:WF S)(hl:splitR l=(ps,0))(hps:ps.length<1000)
  (hs:∀(Sb S1:St) (p:Pt),Gr S Sb->Gr Sb S1->Sb.row p= .none->(∃t,S1.row p= .cells t [.snil, .snil, .snil, .int .i64 0])->StepsD Sb p ps S1 fun S2=>∃mv,PEnd0 Sb S2 p mv/\R S2 mv):
  Does (tabT tabD) kH [ofL l] S fun v S'=>(∀q,S.row q≠ .none->S'.row q=S.row q)/\∃mv S2 r,R S2 mv/\Gr S2 S'/\v= .tup [.slx r 0 1 2 1, .int .i64 0, .int .i64 0]/\S2.row r= .none/\∃t,S'.row r= .cells t [ofL [],mv]:=by
 refine YK qE rfl ?_
 simp only[Kl,XY,simprocAttr]
 rw[Jk];simp only[XY,simprocAttr]
 rw[Jk];simp only[XY,simprocAttr]
 refine Js (splitC l S hw) ?_
 rintro _ Sb ⟨gb,u,rfl,hu⟩
 rw[hl]at hu⊢
 have hu:RecsAt S Sb u 3 ps.length (cellsP ps):=hu
 simp only[XY,simprocAttr]
 rw[Ju,Jk];simp only[XY,simprocAttr]
 obtain⟨n0,hn0⟩:∃n,Sb.nx=up 0 n:=⟨_,up0 _⟩
 have wb:=gb.wf
 rw[Jk];simp only[XY,simprocAttr,hn0]
 refine Qa ?_
 intro S1 hS1
 have G1:Gr Sb S1:=by rw[hS1];exact Gr.new wb (Jj _)
 obtain⟨p,hp⟩:∃b,b=up 0 n0:=⟨_,rfl⟩
 have rp:∃t,S1.row p= .cells t [.snil, .snil, .snil, .int .i64 0]:=⟨_,by rw[hS1,hp];simp only[XZ,simprocAttr,hn0];rfl⟩
 have pn:Sb.row p= .none:=by rw[hp];exact nx0 wb hn0 0
 rw[<-hp]
 clear hS1
 have st:=hs Sb S1 p gb G1 pn rp
 rw[Ju,Jk];simp only[XY,simprocAttr]
 have hsl:=JoU hu
 have ul:lenLV u=some (.int .i64 (ps.length:Nat), .no):=by rw[hsl.len,List.length_map]
 obtain⟨Q,hQ⟩:∃Q:St->Prop,Q=fun S2=>∃mv,PEnd0 Sb S2 p mv/\R S2 mv:=⟨_,rfl⟩
 rw[<-hQ]at st
 obtain⟨L,hL⟩:∃L:Nat->Fr->St->Prop,∀j fr S2,L j fr S2<->∃(i:Nat),j+i=ps.length/\fr 0=ofL l/\fr 5=u/\fr 7= .ptr p 0/\fr 8= .int .i64 i/\(∀q,Sb.row q≠ .none->S2.row q=Sb.row q)/\WF S2/\StepsD Sb p (ps.drop i) S2 Q:=⟨_,fun _ _ _=>Iff.rfl⟩
 refine jh L ps.length (by omega) ((hL _ _ _).2 ⟨0,by omega,by simp only[XZ,simprocAttr],by simp only[XZ,simprocAttr],by simp only[XZ,simprocAttr],by simp only[XZ,simprocAttr]<;>rfl,G1.same,G1.wf,st⟩) ?_
 clear st rp
 intro j fr S2 hLj
 obtain⟨i,hj,f0,f5,f7,f8,old,w2,st⟩:=(hL _ _ _).1 hLj
 by_cases hi:i<ps.length
 ·have hi':(i:Int)<ps.length:=by omega
  have hadd1:IntKind.i64.wrap ((i:Int)+1)=((i+1:Nat):Int):=by rw[Q0 (by omega) (by omega)];rfl
  rw[List.drop_eq_getElem_cons hi]at st
  obtain⟨x,hx⟩:∃x,x=ps[i]:=⟨_,rfl⟩
  rw[<-hx]at st
  have hs2:SlAt (fun _=>True) S2 u 3 (ps.map cell3):=hsl.imp fun r e _=>⟨trivial,old r e⟩
  obtain⟨r,o,a1,_,_,a2,a3⟩:=hs2.elem (i:=i) (by simpa using hi)
  have a2:ldn (S2.row r) o 3=some (.agg [.bool x.1,ofL x.2.1, .int .i64 x.2.2], .no):=by rw[a2];simp[cell3,hx]
  have a4:=a3 0 (by simp[cell3])
  have a4:ld1 (S2.row r) o=some (.bool x.1, .no):=by rw[show o=o+0 from rfl,a4];simp[cell3,hx]
  unfold StepsD at st
  rw[Ju,Jk];simp only[XY,simprocAttr,f5,f7,f8,ul,hi']
  cases hx1:x.1 with
  | true=>
    rw[hx1]at st a2 a4
    simp only[if_true]at st
    rw[Ju];simp only[XY,simprocAttr,f0,f5,f7,f8,a1]
    rw[Jk];simp only[XY,simprocAttr,f0,f5,f7,f8,a1]
    rw[Ju,Jk];simp only[XY,simprocAttr,f0,f5,f7,f8,a1,a2,a4]
    refine Js st ?_
    rintro _ S3 ⟨rfl,w3,k3,st3⟩
    simp only[XZ,simprocAttr,f0,f5,f7,f8,hadd1]
    exact⟨ps.length-(i+1),by omega,(hL _ _ _).2 ⟨i+1,by omega,by simp only[XZ,simprocAttr,f0],by simp only[XZ,simprocAttr,f5],by simp only[XZ,simprocAttr,f7],by simp only[XZ,simprocAttr],fun q e=>by rw[k3 q e,old q e],w3,st3⟩⟩
  | false=>
    rw[hx1]at st a2 a4
    simp only[Bool.false_eq_true,if_false]at st
    rw[Ju];simp only[XY,simprocAttr,f0,f5,f7,f8,a1]
    rw[Jk];simp only[XY,simprocAttr,f0,f5,f7,f8,a1]
    rw[Ju,Jk];simp only[XY,simprocAttr,f0,f5,f7,f8,a1,a2,a4]
    refine Js st ?_
    rintro _ S3 ⟨rfl,w3,k3,st3⟩
    simp only[XZ,simprocAttr,f0,f5,f7,f8,hadd1]
    exact⟨ps.length-(i+1),by omega,(hL _ _ _).2 ⟨i+1,by omega,by simp only[XZ,simprocAttr,f0],by simp only[XZ,simprocAttr,f5],by simp only[XZ,simprocAttr,f7],by simp only[XZ,simprocAttr],fun q e=>by rw[k3 q e,old q e],w3,st3⟩⟩
 ·have hi':¬(i:Int)<ps.length:=by omega
  rw[List.drop_eq_nil_of_le (by omega)]at st
  have st:Q S2:=st
  rw[hQ]at st
  obtain⟨mv,pe,hR⟩:=st
  obtain⟨t2,ov,c2,o0⟩:=pe.c
  have msc:=pe.m
  have mcl:mv.cells=some [mv]:=by cases mv<;>first|rfl|(cases msc;done)
  obtain⟨n2,hn2⟩:∃n,S2.nx=up 0 n:=⟨_,up0 _⟩
  have op2:=fun k=>nes (qh w2 hn2 (Jh c2) k)
  rw[Ju,Jk];simp only[XY,simprocAttr,f5,f8,ul,hi',f7,c2,o0]
  rw[Ju,Jk];simp only[XY,simprocAttr,f7,c2,o0]
  rw[Jk];simp only[XY,simprocAttr,f7,c2,hn2,op2,msc,mcl]
  obtain⟨A3,hA3⟩:∃A,A=(S2.new fun t=>Row.cells t [ofL [],mv]):=⟨_,rfl⟩
  have G3:Gr S2 A3:=by rw[hA3];exact Gr.new w2 (Jj _)
  have r3:∃t,A3.row (up 0 n2)= .cells t [ofL [],mv]:=⟨_,by rw[hA3,<-hn2,Qt]⟩
  have n3:S2.row (up 0 n2)= .none:=nx0 w2 hn2 0
  rw[<-hA3]
  clear hA3
  simp only[XZ,simprocAttr,JrG]
  exact⟨fun q e=>by rw[G3.same q (by rw[old q (by rw[gb.same q e];exact e),gb.same q e];exact e),old q (by rw[gb.same q e];exact e),gb.same q e],mv,S2,_,hR,G3,rfl,n3,r3⟩
theorem beginC {Sb S:St}{p:Pt}{at_:Int}{pv:V}(g:Gr Sb S)(pn:Sb.row p= .none)(hc:∃t,S.row p= .cells t [.snil, .snil, .snil, .int .i64 0])(hpv:pv.sc=true):
  Does (tabT tabD) kN [.ptr p 0,mWd, .agg (ndN 8 at_ [] [] pv), .int .i64 3,ofL []] S fun v S'=>Ch (fun r=>r=p) S S'/\v= .int .i64 0/\∃q,S.row q= .none/\PM Sb S' p q at_ pv 3 .snil []:=by
 refine kU tabM kD rfl g.wf fun K fin=> ?_
 obtain⟨tp,rp⟩:=hc
 have hw:=g.wf
 have pc:pv.cells=some [pv]:=by cases pv<;>first|rfl|(cases hpv;done)
 have l0:lenLV .snil=some (.int .i64 0, .no):=rfl
 obtain⟨n0,hn0⟩:∃n,S.nx=up 0 n:=⟨_,up0 _⟩
 simp only[JD,XY,simprocAttr]
 rw[Jk];simp only[XY,simprocAttr,hn0,hpv,pc]
 refine Qa ?_
 intro S1 hS1
 have G1:Gr S S1:=by rw[hS1];exact Gr.new hw (Jj _)
 obtain⟨p7,hp7⟩:∃b,b=up 0 n0:=⟨_,rfl⟩
 obtain⟨t7,r7⟩:∃t,S1.row p7= .cells t (ndN 8 at_ [] [] pv):=⟨_,by rw[hS1,hp7];simp only[XZ,simprocAttr,hn0];rfl⟩
 rw[<-hp7]
 clear hS1
 have rp1:=G1.cells rp
 rw[Ju,Jk];simp only[XY,simprocAttr,rp1,l0,List.cons.injEq,and_false,false_and,and_true,true_and,List.cons_ne_nil,reduceCtorEq]
 rw[Ju,Jk];simp only[XY,simprocAttr,rp1,l0]
 have w1:=G1.wf
 obtain⟨n1,hn1⟩:∃n,S1.nx=up 0 n:=⟨_,up0 _⟩
 have op1:=fun k=>nes (qh w1 hn1 (Jh rp1) k)
 rw[Jk];simp only[XY,simprocAttr,rp1,r7,hn1,op1,hpv,pc]
 obtain⟨A2,hA2⟩:∃S,S=(S1.new fun t=>Row.cells t (opR at_ pv .snil false .snil 3)):=⟨_,rfl⟩
 have ga2:Gr S1 A2:=by rw[hA2];exact Gr.new w1 (Jj _)
 have hone:SlAt (fun r=>r=up 0 n1) A2 (.slx (up 0 n1) 0 1 12 1) 12 [opR at_ pv .snil false .snil 3]:=by
  have:=JbS (st:=S1) (z:=12) (e:=opR at_ pv .snil false .snil 3) rfl
  rwa [hn1,<-hA2]at this
 rw[<-hA2]
 clear hA2
 have rp2:=ga2.cells rp1
 have happ:=Jek hone (fun e he=>by rw[List.mem_singleton.1 he];simp only[opR,allSc,List.all_cons,List.all_nil,hpv];rfl) (by simp) (by simp)
 obtain⟨n2,hn2⟩:∃n,A2.nx=up 0 n:=⟨_,up0 _⟩
 simp only[List.length_cons,List.length_nil,List.flatten_cons,List.flatten_nil,List.append_nil,Nat.zero_add,hn2]at happ
 obtain⟨q,hq⟩:∃b,b=up 0 n2:=⟨_,rfl⟩
 rw[<-hq]at happ
 have qn2:A2.row q= .none:=by rw[hq];exact nx0 ga2.wf hn2 0
 have qp:q≠p:=fun e=>Jh rp2 (by rw[<-e];exact qn2)
 obtain⟨A3,hA3⟩:∃S,S=(A2.new fun t=>Row.cells t (opR at_ pv .snil false .snil 3)):=⟨_,rfl⟩
 have ga3:Gr A2 A3:=by rw[hA3];exact Gr.new ga2.wf (Jj _)
 have rq3:A3.row q= .cells A2.t (opR at_ pv .snil false .snil 3):=by rw[hA3,hq,<-hn2,Ki,if_pos rfl]
 have rp3:=ga3.cells rp2
 rw[happ,jS,Jao,<-hA3,Jit]
 simp only[XN,simprocAttr,rp3]
 rw[Jk];simp only[XZ,simprocAttr]
 have G13:=G1.trans (ga2.trans ga3)
 have old:∀{r:Pt},A2.row r= .none->S.row r= .none:=fun{r} e=>Classical.byContradiction fun c=>c (by rw[<-(G1.trans ga2).same r c];exact e)
 refine fin _ _ (fun r e hW=> ?_) fun _=>⟨rfl,q,old qn2,⟨(g.trans G13).wr pn (Jh rp3) (by rw[rp3];rfl) (Jj _),pn,Classical.byContradiction fun c=>(by rw[g.same q c];exact c:S.row q≠ .none) (old qn2),Ne.symm qp,⟨_,by rw[JF,if_pos rfl]⟩,⟨_,by simp only[JF,qp,if_false];exact rq3⟩,SlF.nil _ _ _,(fun e=>by cases e),(fun e=>by cases e)⟩⟩
 have hp:r≠p:=hW
 simp only[JF,hp,if_false]
 exact G13.same r e
theorem Jhw {Sb S:St}{p:Pt}{at_:Int}{pv:V}(g:Gr Sb S)(pn:Sb.row p= .none)(hc:∃t,S.row p= .cells t [.snil, .snil, .snil, .int .i64 0])(hpv:pv.sc=true):
  Does (tabT tabD) Jq [.ptr p 0,mWd, .agg (ndN 8 at_ [] [] pv)] S fun v S'=>Ch (fun r=>r=p) S S'/\v= .int .i64 0/\∃q,S.row q= .none/\PM Sb S' p q at_ pv 3 .snil []:=by
 refine kU tabM QI rfl g.wf fun K fin=> ?_
 have hw:=g.wf
 have pc:pv.cells=some [pv]:=by cases pv<;>first|rfl|(cases hpv;done)
 obtain⟨n0,hn0⟩:∃n,S.nx=up 0 n:=⟨_,up0 _⟩
 simp only[Jv,XY,simprocAttr]
 rw[Jk];simp only[XY,simprocAttr,hn0,hpv,pc]
 refine Qa ?_
 intro S1 hS1
 have G1:Gr S S1:=by rw[hS1];exact Gr.new hw (Jj _)
 obtain⟨p3,hp3⟩:∃b,b=up 0 n0:=⟨_,rfl⟩
 obtain⟨t3,r3⟩:∃t,S1.row p3= .cells t (ndN 8 at_ [] [] pv):=⟨_,by rw[hS1,hp3];simp only[XZ,simprocAttr,hn0];rfl⟩
 rw[<-hp3]
 clear hS1
 simp only[XZ,simprocAttr,List.cons.injEq,and_false,false_and,and_true,true_and,List.cons_ne_nil,reduceCtorEq,r3]
 refine Js (beginC (g.trans G1) pn (hc.imp fun t c=>G1.cells c) hpv) ?_
 rintro _ S3 ⟨C3,rfl,q,qn,P3⟩
 simp only[XZ,simprocAttr]
 refine fin _ _ (fun r e hW=> ?_) fun _=>⟨rfl,q,Classical.byContradiction fun c=>c (by rw[<-G1.same q c];exact qn),P3⟩
 rw[C3.same r (by rw[G1.same r e];exact e) hW,G1.same r e]
theorem Jke {Sp Sb S:St}{p:Pt}{F0 F:St->V->Bool}{rest:List Prt}{Q:St->Prop}(hsp:∀r,Sp.row r≠ .none->Sb.row r≠ .none)(g:Gr Sb S)(pn:Sb.row p= .none)(hc:∃t,S.row p= .cells t [.snil, .snil, .snil, .int .i64 0])(hm:actB (ofL mtS) mWd 8 (ofL []) (pf1 F0)=true)
  (kont:∀S' q pv0,MS Sp Sb S' p q pv0 3 .snil [] F0 F []->StepsD Sb p rest S' Q):StepsD Sb p ((true,mtS,0)::rest) S Q:=by
 obtain⟨tp,rp⟩:=hc
 rw[StepsD]
 refine(actC hm rfl rfl rfl g.wf (Jh rp) (at_:=0) (Q:=fun v S'=>v= .int .i64 0/\WF S'/\(∀q,Sb.row q≠ .none->S'.row q=S.row q)/\StepsD Sb p rest S' Q) fun S1 χ a pv g1 eh Ha fr hx0 hpv=> ?_)
 obtain⟨hpf,r,tr,l,u,rfl,hrl,har,hah⟩:=JmS hpv
 refine(Jhw (at_:=0) (pv:=mv χ (.slx r 0 1 1 1)) (g.trans g1) pn ⟨tp,g1.cells rp⟩ (by rw[mv];rfl)).mono fun v S2 ⟨C2,e2,q,qn,P2⟩=>⟨e2,P2.g.wf,fun r hr=>by rw[P2.g.same r hr,g.same r hr],kont S2 q _ ⟨P2, ?_,⟨rfl,fun i h=>absurd h (Nat.not_lt_zero _)⟩⟩⟩
 have pos:∀x:Pt,x≠ .h->1<=x.num:=fun x e=>by
  cases hq:x.num with
  |zero=>exact absurd (Pt.num_inj (by rw[hq];rfl)) e
  |succ n=>omega
 have r0:r≠ .h:=fun e=>by rw[e,hah]at har;cases har
 have new1:PvH S1 p (fun r=>Sp.row r≠ .none) F0 0 (mv χ (.slx r 0 1 1 1)):=by
  refine⟨χ,a,r,u,by simp only[mv],Ha,hpf,hrl,r0,(by rw[har];exact fun e=>by cases e),hx0,hah,eh,fun x x0 hx w=> ?_⟩
  have f:=fr x (pos x x0)
  have h1:=hsp _ w
  exact(by rw[g.same _ h1];exact h1:S.row (χ x)≠ .none) f
 exact new1.ch C2 (fun r w=> .inl w) fun r w=>by
  rcases w with w|w|w
  ·exact .inl w
  ·rw[w];exact .inr qn
  ·cases w
abbrev sEnd :V:=ofL [101,110,100]
abbrev sElse :V:=ofL [101,108,115,101]
def ndV (k:Int)(i:Nat)(name pv:V):V:= .agg [.int .i64 k, .opq i, .str 0 0,name,pv, .snil, .snil, .bool false, .snil]
noncomputable def plc (pp:Pt)(w:V)(k:Int)(i:Nat)(name pv:V)(b:St):St:=match run (tabT tabD) 60 Jq [.ptr pp 0,w,ndV k i name pv] b with
 |some (.int .i64 0,b')=>b'
 |_=>b
noncomputable def txt (pp:Pt)(i:Nat)(s:V)(b:St):St:=match run (tabT tabD) 60 Ky [.ptr pp 0, .agg [.bool false,s, .opq i]] b with
 |some (.int .i64 0,b')=>b'
 |_=>b
theorem Jjf :actB sEnd sEnd 2 (ofL []) pfNil=true:=by kernel_rfl
theorem JmU :actB sElse sElse 2 (ofL []) pfNil=true:=by kernel_rfl
def pp2 :Pt:= .c .h
def pq2 :Pt:= .b .h
def e00 (w:V)(way:Int):St:=((St.start.new fun t=> .dead t).new fun t=> .dead t).new fun t=> .cells t (opR 0 (.slx .h 0 1 1 1) .snil false w way)
def e0 (w:V)(way:Int):St:=(e00 w way).new fun t=> .cells t [.sl pq2 0 1 12, .snil, .snil, .int .i64 0]
noncomputable def e1 (w:V)(way:Int):St:=plc pp2 sElse 2 0 (ofL []) .snil (e0 w way)
noncomputable def e2 (w:V)(way:Int):St:=txt pp2 1 (ofL [101]) (e1 w way)
noncomputable def e3 (w:V)(way:Int):St:=plc pp2 sEnd 2 2 (ofL []) .snil (e2 w way)
noncomputable def f1 (w:V)(way:Int):St:=plc pp2 sEnd 2 0 (ofL []) .snil (e0 w way)
structure EndOk (w:V) (way:Int):Prop where
 h00:inT (e00 w way).nx.num (e00 w way).h=true
 h0:inT (e0 w way).nx.num (e0 w way).h=true
 r1:run (tabT tabD) 60 Jq [.ptr pp2 0,sElse,ndV 2 0 (ofL []) .snil] (e0 w way)=some (.int .i64 0,e1 w way)
 i1:inT (e1 w way).nx.num (e1 w way).h=true
 r2:run (tabT tabD) 60 Ky [.ptr pp2 0, .agg [.bool false,ofL [101], .opq 1]] (e1 w way)=some (.int .i64 0,e2 w way)
 i2:inT (e2 w way).nx.num (e2 w way).h=true
 r3:run (tabT tabD) 60 Jq [.ptr pp2 0,sEnd,ndV 2 2 (ofL []) .snil] (e2 w way)=some (.int .i64 0,e3 w way)
 i3:inT (e3 w way).nx.num (e3 w way).h=true
 rf:run (tabT tabD) 60 Jq [.ptr pp2 0,sEnd,ndV 2 0 (ofL []) .snil] (e0 w way)=some (.int .i64 0,f1 w way)
 if1:inT (f1 w way).nx.num (f1 w way).h=true
 d1:(e1 w way).row .h= .dead 0
 d2:(e2 w way).row .h= .dead 0
 d3:(e3 w way).row .h= .dead 0
 df:(f1 w way).row .h= .dead 0
 g1:(e1 w way).row (.a .h)= .dead 1
 g2:(e2 w way).row (.a .h)= .dead 1
 g3:(e3 w way).row (.a .h)= .dead 1
 gf:(f1 w way).row (.a .h)= .dead 1
 n1:Nat.ble 4 (e1 w way).nx.num=true
 n2:Nat.ble (e1 w way).nx.num (e2 w way).nx.num=true
 n3:Nat.ble (e2 w way).nx.num (e3 w way).nx.num=true
 nf:Nat.ble 4 (f1 w way).nx.num=true
 pf:(f1 w way).row (.c .h)= .cells 12 [.sl (.b .h) 0 0 12, .sl (.d (.a .h)) 0 1 9, .snil, .int .i64 0]
 mf:(f1 w way).row (.d (.a .h))= .cells 11 [.int .i64 8, .int .i64 0,ofL [],ofL [], .slx .h 0 1 1 1, .snil, .snil, .bool false,w]
 p3:(e3 w way).row (.c .h)= .cells 23 [.sl (.b .h) 0 0 12, .sl (.b (.c .h)) 0 1 9, .snil, .int .i64 0]
 m3:(e3 w way).row (.b (.c .h))= .cells 22 [.int .i64 8, .int .i64 0,ofL [],ofL [], .slx .h 0 1 1 1, .snil, .sl (.a (.b .h)) 0 1 9, .bool true,w]
 l3:(e3 w way).row (.a (.b .h))= .cells 13 [.int .i64 1, .opq 1,ofL [101],ofL [], .snil, .snil, .snil, .bool false, .snil]
theorem JrH (n:Nat)(way:Int):EndOk (.sl (.a .h) 0 n 2) way:=⟨by kernel_rfl,by kernel_rfl,by kernel_rfl,by kernel_rfl,by kernel_rfl,by kernel_rfl,by kernel_rfl,by kernel_rfl,by kernel_rfl,by kernel_rfl,by kernel_rfl,by kernel_rfl,by kernel_rfl,by kernel_rfl,by kernel_rfl,by kernel_rfl,by kernel_rfl,by kernel_rfl,by kernel_rfl,by kernel_rfl,by kernel_rfl,by kernel_rfl,by kernel_rfl,by kernel_rfl,by kernel_rfl,by kernel_rfl,by kernel_rfl⟩
theorem JoV (n:Nat)(way:Int):EndOk (.slx (.a .h) 0 n 2 n) way:=⟨by kernel_rfl,by kernel_rfl,by kernel_rfl,by kernel_rfl,by kernel_rfl,by kernel_rfl,by kernel_rfl,by kernel_rfl,by kernel_rfl,by kernel_rfl,by kernel_rfl,by kernel_rfl,by kernel_rfl,by kernel_rfl,by kernel_rfl,by kernel_rfl,by kernel_rfl,by kernel_rfl,by kernel_rfl,by kernel_rfl,by kernel_rfl,by kernel_rfl,by kernel_rfl,by kernel_rfl,by kernel_rfl,by kernel_rfl,by kernel_rfl⟩
theorem JoW (way:Int):EndOk .snil way:=⟨by kernel_rfl,by kernel_rfl,by kernel_rfl,by kernel_rfl,by kernel_rfl,by kernel_rfl,by kernel_rfl,by kernel_rfl,by kernel_rfl,by kernel_rfl,by kernel_rfl,by kernel_rfl,by kernel_rfl,by kernel_rfl,by kernel_rfl,by kernel_rfl,by kernel_rfl,by kernel_rfl,by kernel_rfl,by kernel_rfl,by kernel_rfl,by kernel_rfl,by kernel_rfl,by kernel_rfl,by kernel_rfl,by kernel_rfl,by kernel_rfl⟩
attribute [irreducible] e1 e2 e3 f1
end Go.Proofs.YtcgiahehkobpcaaGreat
