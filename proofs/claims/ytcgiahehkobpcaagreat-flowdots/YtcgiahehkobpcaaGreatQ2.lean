/- The table of a schema of one type. The document's names, words; a type by itself. The d -/
import Derived.Test.YtcgiahehkobpcaaGreatQ1
set_option maxHeartbeats 16000000
set_option linter.unusedVariables false
set_option linter.unusedSimpArgs false
set_option linter.unusedSectionVars false
set_option maxRecDepth 100000
namespace Go.Proofs.YtcgiahehkobpcaaGreat
open Eva Go.RowKit
def NewPost (st:St)(v:V)(st':St)(r:Option Tb×Int):Prop:=match r.1 with
 |none=>v= .tup [.pnil, .int .i64 r.2]
 |some tb=>∃rt W F,v= .tup [.ptr rt 0, .int .i64 0]/\Tab W F st' rt tb/\∀r,W r\/F r->st.row r= .none
theorem new0 {P:Pt->Prop}{st:St}{e:List V}{s:Sch}(hw:WF st)(h:SchC P st e s)(h0:s.types=[])(h00:s.sigs=[]):Does (tabT tabD) JkJ [.agg e] st fun v' st'=>Gr st st'/\NewPost st v' st' (newS s):=by
 refine JW tabM JjN rfl hw fun K fin=> ?_;obtain⟨n,hn0⟩:=nxE st;have hnew:=newS0 h0 h00;have hsch:=h;obtain⟨c,tv,sv,rfl,h1,h2,h3⟩:=h;obtain⟨M,hM⟩:∃M,M=s.main:=⟨_,rfl⟩
 rw[<-hM]at h1 hnew;obtain⟨k,nm,ns,ks⟩:=M;have h1':=h1;obtain⟨nv,kv,es,rfl,x1,x2,x3,x4⟩:=h1.inv';rw[h0]at h2;rw[h00]at h3;have g0:Gr st (st.new fun t=> .cells t [.int .i64 k,ofL nm,nv,kv,tv,sv]):=Gr.new hw (Ja _);have r0:(st.new fun t=> .cells t [.int .i64 k,ofL nm,nv,kv,tv,sv]).row (up 0 n)= .cells st.t [.int .i64 k,ofL nm,nv,kv,tv,sv]:=by simp only[XZ,simprocAttr,hn0]
 simp only[Yx,XZ,simprocAttr,hn0,x1.sc,x2.sc,h2.sc.1,h3.sc.1,h2.nil_len,h3.nil_len];refine Je (check0 g0.wf (hsch.imp fun r p e=>⟨p,g0.same r e⟩) h0 h00) ?_;rintro _ S1 ⟨g1,rfl⟩;have G1:=g0.trans g1;have b1:=g1.cells r0;have w1:=g1.wf;obtain⟨n1,hn1⟩:=nxE S1;have o10:=fun k=>nes (JE w1 hn1 (Jd b1) k);by_cases hc:checkS s=0
 ·have hc':(checkS s=0)=True:=eq_true hc;rw[if_neg (fun h=>h hc)]at hnew;simp only[XZ,simprocAttr,hc',hn1,JlP,Jep,o10,b1,h2.nil_len];refine QY (by decide) ?_;simp only[XZ,simprocAttr,hn1,o10,b1];obtain⟨S2,hS2⟩:=exE ((((S1.new fun t=> .mob t []).new fun t=> .mob t []).new fun t=> .mob t []).new fun t=> .cells t [.snil, .map (up 0 n1), .map (up 1 n1), .int .i64 0, .map (up 2 n1)]);have g2:Gr S1 S2:=by rw[hS2];exact(((Gr.new w1 (JbK _)).nn (JbK _)).nn (JbK _)).nn (Ja _)
  have hT:Tab (fun r=>r=up 0 n1\/r=up 1 n1\/r=up 2 n1\/r=up 3 n1) (fun _=>False) S2 (up 3 n1) emptyTb:=by
   refine⟨.snil,up 0 n1,up 1 n1,up 2 n1,[],[],⟨⟨_,by rw[hS2];simp only[XZ,simprocAttr,hn1];rfl⟩,⟨.inr (.inr (.inr rfl)), .inl rfl, .inr (.inl rfl), .inr (.inr (.inl rfl))⟩, ?_,fun r f=>f.elim,⟨?_, ?_, ?_⟩,⟨rfl, .inl ⟨rfl,rfl⟩⟩,fun e h=>absurd h (by simp),rfl,fun i h=>absurd h (by simp),fun n h=>absurd h (by simp[emptyTb]),by decide,⟨_,by rw[hS2];simp only[XZ,simprocAttr,hn1];rfl⟩,⟨_,by rw[hS2];simp only[XZ,simprocAttr,hn1];rfl⟩,⟨_,by rw[hS2];simp only[XZ,simprocAttr,hn1];rfl⟩,rfl,fun i h=>absurd h (by simp)⟩⟩
   ·intro r hr;rcases hr with e|e|e|e
    all_goals rw[hS2,e];simp only[XZ,simprocAttr,hn1]
    all_goals exact fun e=>by cases e
   ·rw[JaJ];decide
   ·rw[JaJ];decide
   ·rw[JaJ];decide
  rw[<-hS2];have hx:TyC (fun r=>P r/\st.row r≠ .none) S2 [.int .i64 k,ofL nm,nv,kv] (.mk k nm ns ks):=h1'.imp fun r p e=>⟨⟨p,e⟩,(G1.trans g2).same r e⟩
  have fresh:∀k,st.row (up k n1)= .none:=fun k=>Ch.fresh (Ch.of (fun _=>False) G1) (nx0 w1 hn1 k);refine Je (addTop g2.wf hT hx (fun r p w=> ?_)) ?_
  ·rcases w with w|w|w|w<;>exact p.2 (by rw[w];exact fresh _)
  rintro _ S3 ⟨c3,⟨W3,F3,a1,a2,a3,T3⟩,rfl⟩;by_cases ha:(addT (.mk k nm ns ks) 400 emptyTb).2.2.1=0
  ·have ha':((addT (.mk k nm ns ks) 400 emptyTb).2.2.1=0)=True:=eq_true ha;rw[if_neg (fun h=>h ha)]at hnew;obtain⟨t3,l3,e3,len3,T4⟩:=T3.setMain (addT (.mk k nm ns ks) 400 emptyTb).2.1;have b3:S3.row (up 0 n)= .cells st.t [.int .i64 k,ofL nm,nv,kv,tv,sv]:=by
    have h5:=g2.cells b1;rw[c3.same _ (Jd h5) (fun w=>by rcases w with w|w|w|w<;>exact absurd w (JE w1 hn1 (Jd b1) _)),h5]
   have o3:up 0 n≠up 3 n1:=JE w1 hn1 (Jd b1) 3;have o3':=nes o3;have h45:3+1<=l3.length:=by omega
   have h45':4<=l3.length:=by omega
   simp only[XM,simprocAttr,ha',e3,h45',o3',b3,h3.nil_len];refine QY (by decide) ?_;simp only[XZ,simprocAttr];refine fin _ _ (fun r e=> ?_) fun _=> ?_
   ·have e1:r≠up 3 n1:=fun k=>e (by rw[k];exact fresh 3);rw[Jo,if_neg e1,c3.same r (by rw[(G1.trans g2).same r e];exact e) (fun w=>by rcases w with w|w|w|w<;>exact e (by rw[w];exact fresh _)),(G1.trans g2).same r e]
   ·rw[hnew];refine⟨up 3 n1,W3,F3,rfl,T4,fun r w=> ?_⟩;have fr:S2.row r= .none->st.row r= .none:=fun h=>Ch.fresh (Ch.of (fun _=>False) (G1.trans g2)) h;rcases w with w|w
    ·rcases a2 r w with w|w
     ·rcases w with w|w|w|w<;>(rw[w];exact fresh _)
     ·exact fr w
    ·rcases a3 r w with w|w
     ·exact w.elim
     ·exact fr w
  ·have ha':((addT (.mk k nm ns ks) 400 emptyTb).2.2.1=0)=False:=eq_false ha;rw[if_pos ha]at hnew;simp only[XZ,simprocAttr,ha'];refine fin _ _ (fun r e=> ?_) fun _=> ?_
   ·rw[c3.same r (by rw[(G1.trans g2).same r e];exact e) (fun w=>by rcases w with w|w|w|w<;>exact e (by rw[w];exact fresh _)),(G1.trans g2).same r e]
   ·rw[hnew];exact rfl
 ·have hc':(checkS s=0)=False:=eq_false hc;rw[if_pos hc]at hnew;simp only[XZ,simprocAttr,hc'];refine fin _ _ (fun r e=>G1.same r e) fun _=> ?_;rw[hnew];exact rfl
theorem rdigitC (x:Nat)(hx:x<256)(st:St):Does (tabT tabD) Jb9 [.int .u8 x] st fun v st'=>v= .bool (digB x)/\st=st':=by
 refine JA Jbf rfl ?_;by_cases h1:(48:Int)<=(x:Int)
 ·by_cases h2:(x:Int)<=57
  ·simp only[Kk,XZ,simprocAttr,h1,h2];rw[digB,decide_eq_true (by omega),decide_eq_true (by omega)];rfl
  ·simp only[Kk,XZ,simprocAttr,h1,h2];rw[digB,decide_eq_true (by omega),decide_eq_false (by omega)];rfl
 ·simp only[Kk,XZ,simprocAttr,h1];rw[digB,decide_eq_false (by omega)];rfl
theorem JjF (x:Nat)(hx:x<256)(st:St):Does (tabT tabD) Jbe [.int .u8 x] st fun v st'=>v= .bool (letB x)/\st=st':=by
 refine JA Jay rfl ?_;rw[<-JqI hx];unfold letR;by_cases h1:(97:Int)<=(x:Int)
 ·rw[decide_eq_true (show 97<=x by omega)];by_cases h2:(x:Int)<=122
  ·rw[decide_eq_true (show x<=122 by omega)];simp only[JI,XZ,simprocAttr,h1,h2];rfl
  ·rw[decide_eq_false (show¬x<=122 by omega),decide_eq_true (show 65<=x by omega),decide_eq_false (show¬x<=90 by omega),decide_eq_false (show¬x=95 by omega)];have h3:(65:Int)<=(x:Int):=by omega
   have h4:¬(x:Int)<=90:=by omega
   have h5:¬(x:Int)=95:=by omega
   simp only[JI,XZ,simprocAttr,h1,h2,h3,h4,h5];rfl
 ·rw[decide_eq_false (show¬97<=x by omega)];by_cases h3:(65:Int)<=(x:Int)
  ·rw[decide_eq_true (show 65<=x by omega)];by_cases h4:(x:Int)<=90
   ·rw[decide_eq_true (show x<=90 by omega)];simp only[JI,XZ,simprocAttr,h1,h3,h4];rfl
   ·rw[decide_eq_false (show¬x<=90 by omega)];by_cases h5:(x:Int)=95
    ·rw[decide_eq_true (show x=95 by omega)];simp only[JI,XZ,simprocAttr,h1,h3,h4,h5];rfl
    ·rw[decide_eq_false (show¬x=95 by omega)];simp only[JI,XZ,simprocAttr,h1,h3,h4,h5];rfl
  ·rw[decide_eq_false (show¬65<=x by omega),decide_eq_false (show¬x=95 by omega)];have h5:¬(x:Int)=95:=by omega
   simp only[JI,XZ,simprocAttr,h1,h3,h5];rfl
theorem ridentC (l:List UInt8)(st:St):Does (tabT tabD) Jb5 [ofL l] st fun v st'=>v= .bool (identB l)/\st=st':=by
 refine JA Jba rfl ?_
 cases l with
 | nil=>
   simp only[Kj,XZ,simprocAttr,Int.natCast_zero];rfl
 | cons c r=>
   obtain⟨l,hle⟩:∃l,l=c::r:=⟨_,rfl⟩
   have hid:=JqJ c r;rw[<-hle]at hid⊢;have hne:¬(l.length:Int)=0:=by rw[hle];simp only[List.length_cons];omega
   have hb:byteAt l 0=c.toNat:=by rw[hle];exact Y5 (l:=c::r) (i:=0) (by simp)
   have h0:(0:Int)<(l.length:Int):=by omega
   by_cases h16:16<l.length
   ·have h16':(16:Int)<(l.length:Int):=by omega
    simp only[Kj,XZ,simprocAttr,hne,h16'];rw[hid,decide_eq_false (by omega)];rfl
   have h16':¬(16:Int)<(l.length:Int):=by omega
   rw[decide_eq_true (by omega)]at hid;have hid:identB l=(letB c.toNat&&okAll l):=hid;simp only[Kj,XY,simprocAttr];rw[Jb];simp only[XY,simprocAttr];rw[Jl,Jb];simp only[XY,simprocAttr,hne,h16',h0,hb];refine Je (JjF c.toNat (UInt8.toNat_lt _) _) ?_;rintro _ _ ⟨rfl,rfl⟩
   cases hl:letB c.toNat with
   | false=>
     rw[hl]at hid;simp only[XZ,simprocAttr];rw[hid];rfl
   | true=>
     rw[hl]at hid;have hid:identB l=okAll l:=hid;simp only[XY,simprocAttr];rw[Jl,Jb];simp only[XY,simprocAttr];obtain⟨I,hI⟩:=loE fun j fr S=>∃(i:Nat),j+i=l.length/\fr 0=ofL l/\fr 3= .int .i64 i/\st=S/\okAll l=okAll (l.drop i);refine JK I l.length (by omega) ((hI _ _ _).2 ⟨0,by omega,rfl,by simp only[XZ,simprocAttr]<;>rfl,rfl,rfl⟩) ?_;intro j fr S hIj;obtain⟨i,hj,f0,f3,rfl,hrec⟩:=(hI _ _ _).1 hIj;by_cases hi:i<l.length
     ·have hi':(i:Int)<l.length:=by omega
      have hi0:(0:Int)<=(i:Int):=by omega
      have hb:=Y5 (l:=l) (i:=i) hi;have hadd1:IntKind.i64.wrap ((i:Int)+1)=((i+1:Nat):Int):=by rw[Jx (by omega) (by omega)];rfl
      have hd:okAll l=(okB l[i].toNat&&okAll (l.drop (i+1))):=by rw[hrec,List.drop_eq_getElem_cons hi];rfl
      simp only[XZ,simprocAttr,f0,f3,hi',hi0,hb];refine Je (JjF l[i].toNat (UInt8.toNat_lt _) _) ?_;rintro _ _ ⟨rfl,rfl⟩
      cases hlt:letB l[i].toNat with
      | true=>
        have hok:okB l[i].toNat=true:=by unfold okB;rw[hlt];rfl
        simp only[XZ,simprocAttr,f3,hadd1];exact⟨l.length-(i+1),by omega,(hI _ _ _).2 ⟨i+1,by omega,f0,rfl,rfl,by rw[hd,hok];rfl⟩⟩
      | false=>
        simp only[XZ,simprocAttr,f0,f3,hi',hi0,hb];refine Je (rdigitC l[i].toNat (UInt8.toNat_lt _) _) ?_;rintro _ _ ⟨rfl,rfl⟩;have hok:okB l[i].toNat=digB l[i].toNat:=by unfold okB;rw[hlt];rfl
        cases hdg:digB l[i].toNat with
        | true=>
          simp only[XZ,simprocAttr,f3,hadd1];exact⟨l.length-(i+1),by omega,(hI _ _ _).2 ⟨i+1,by omega,f0,rfl,rfl,by rw[hd,hok,hdg];rfl⟩⟩
        | false=>
          simp only[XZ,simprocAttr];rw[hid,hd,hok,hdg];rfl
     ·have hi':¬(i:Int)<l.length:=by omega
      simp only[XZ,simprocAttr,f0,f3,hi'];rw[hid,hrec,List.drop_eq_nil_of_le (by omega)];rfl
theorem rwordC (l:List UInt8)(st:St):Does (tabT tabD) JcI [ofL l] st fun v st'=>v= .bool (wordL.contains l)/\st=st':=by
 refine JA Jb6 rfl ?_;by_cases n0:l=[66,111,111,108]
 ·have h0:(l=[66,111,111,108])=True:=eq_true n0;simp only[JG,XZ,simprocAttr,h0];rw[n0];rfl
 have h0:(l=[66,111,111,108])=False:=eq_false n0;by_cases n1:l=[73,110,116]
 ·have h1:(l=[73,110,116])=True:=eq_true n1;simp only[JG,XZ,simprocAttr,h0,h1];rw[n1];rfl
 have h1:(l=[73,110,116])=False:=eq_false n1;by_cases n2:l=[84,101,120,116]
 ·have h2:(l=[84,101,120,116])=True:=eq_true n2;simp only[JG,XZ,simprocAttr,h0,h1,h2];rw[n2];rfl
 have h2:(l=[84,101,120,116])=False:=eq_false n2;by_cases n3:l=[76,105,115,116]
 ·have h3:(l=[76,105,115,116])=True:=eq_true n3;simp only[JG,XZ,simprocAttr,h0,h1,h2,h3];rw[n3];rfl
 have h3:(l=[76,105,115,116])=False:=eq_false n3;by_cases n4:l=[77,97,112]
 ·have h4:(l=[77,97,112])=True:=eq_true n4;simp only[JG,XZ,simprocAttr,h0,h1,h2,h3,h4];rw[n4];rfl
 have h4:(l=[77,97,112])=False:=eq_false n4;by_cases n5:l=[79,112,116]
 ·have h5:(l=[79,112,116])=True:=eq_true n5;simp only[JG,XZ,simprocAttr,h0,h1,h2,h3,h4,h5];rw[n5];rfl
 have h5:(l=[79,112,116])=False:=eq_false n5;by_cases n6:l=[85,110,105,111,110]
 ·have h6:(l=[85,110,105,111,110])=True:=eq_true n6;simp only[JG,XZ,simprocAttr,h0,h1,h2,h3,h4,h5,h6];rw[n6];rfl
 have h6:(l=[85,110,105,111,110])=False:=eq_false n6;simp only[JG,XZ,simprocAttr,h0,h1,h2,h3,h4,h5,h6];have:wordL.contains l=false:=by
  cases hc:wordL.contains l with
  |false=>rfl
  | true=>
    have:=List.contains_iff_mem.1 hc;simp only[wordL,List.mem_cons,List.not_mem_nil,or_false,h0,h1,h2,h3,h4,h5,h6]at this
 rw[this]
theorem JmW (l:List UInt8)(st:St):Does (tabT tabD) Jas [ofL l] st fun v st'=>v= .bool (builtL.contains l)/\st=st':=by
 refine JA qN rfl ?_;by_cases n0:l=[108,101,110]
 ·have h0:(l=[108,101,110])=True:=eq_true n0;simp only[Jn,XZ,simprocAttr,h0];rw[n0];rfl
 have h0:(l=[108,101,110])=False:=eq_false n0;by_cases n1:l=[110,111,116]
 ·have h1:(l=[110,111,116])=True:=eq_true n1;simp only[Jn,XZ,simprocAttr,h0,h1];rw[n1];rfl
 have h1:(l=[110,111,116])=False:=eq_false n1;by_cases n2:l=[97,110,100]
 ·have h2:(l=[97,110,100])=True:=eq_true n2;simp only[Jn,XZ,simprocAttr,h0,h1,h2];rw[n2];rfl
 have h2:(l=[97,110,100])=False:=eq_false n2;by_cases n3:l=[111,114]
 ·have h3:(l=[111,114])=True:=eq_true n3;simp only[Jn,XZ,simprocAttr,h0,h1,h2,h3];rw[n3];rfl
 have h3:(l=[111,114])=False:=eq_false n3;by_cases n4:l=[101,113]
 ·have h4:(l=[101,113])=True:=eq_true n4;simp only[Jn,XZ,simprocAttr,h0,h1,h2,h3,h4];rw[n4];rfl
 have h4:(l=[101,113])=False:=eq_false n4;by_cases n5:l=[108,116]
 ·have h5:(l=[108,116])=True:=eq_true n5;simp only[Jn,XZ,simprocAttr,h0,h1,h2,h3,h4,h5];rw[n5];rfl
 have h5:(l=[108,116])=False:=eq_false n5;by_cases n6:l=[97,100,100]
 ·have h6:(l=[97,100,100])=True:=eq_true n6;simp only[Jn,XZ,simprocAttr,h0,h1,h2,h3,h4,h5,h6];rw[n6];rfl
 have h6:(l=[97,100,100])=False:=eq_false n6;by_cases n7:l=[115,117,98]
 ·have h7:(l=[115,117,98])=True:=eq_true n7;simp only[Jn,XZ,simprocAttr,h0,h1,h2,h3,h4,h5,h6,h7];rw[n7];rfl
 have h7:(l=[115,117,98])=False:=eq_false n7;by_cases n8:l=[109,117,108]
 ·have h8:(l=[109,117,108])=True:=eq_true n8;simp only[Jn,XZ,simprocAttr,h0,h1,h2,h3,h4,h5,h6,h7,h8];rw[n8];rfl
 have h8:(l=[109,117,108])=False:=eq_false n8;by_cases n9:l=[115,104,108]
 ·have h9:(l=[115,104,108])=True:=eq_true n9;simp only[Jn,XZ,simprocAttr,h0,h1,h2,h3,h4,h5,h6,h7,h8,h9];rw[n9];rfl
 have h9:(l=[115,104,108])=False:=eq_false n9;by_cases n10:l=[115,104,114]
 ·have h10:(l=[115,104,114])=True:=eq_true n10;simp only[Jn,XZ,simprocAttr,h0,h1,h2,h3,h4,h5,h6,h7,h8,h9,h10];rw[n10];rfl
 have h10:(l=[115,104,114])=False:=eq_false n10;by_cases n11:l=[105,56]
 ·have h11:(l=[105,56])=True:=eq_true n11;simp only[Jn,XZ,simprocAttr,h0,h1,h2,h3,h4,h5,h6,h7,h8,h9,h10,h11];rw[n11];rfl
 have h11:(l=[105,56])=False:=eq_false n11;by_cases n12:l=[105,49,54]
 ·have h12:(l=[105,49,54])=True:=eq_true n12;simp only[Jn,XZ,simprocAttr,h0,h1,h2,h3,h4,h5,h6,h7,h8,h9,h10,h11,h12];rw[n12];rfl
 have h12:(l=[105,49,54])=False:=eq_false n12;by_cases n13:l=[105,51,50]
 ·have h13:(l=[105,51,50])=True:=eq_true n13;simp only[Jn,XZ,simprocAttr,h0,h1,h2,h3,h4,h5,h6,h7,h8,h9,h10,h11,h12,h13];rw[n13];rfl
 have h13:(l=[105,51,50])=False:=eq_false n13;by_cases n14:l=[117,56]
 ·have h14:(l=[117,56])=True:=eq_true n14;simp only[Jn,XZ,simprocAttr,h0,h1,h2,h3,h4,h5,h6,h7,h8,h9,h10,h11,h12,h13,h14];rw[n14];rfl
 have h14:(l=[117,56])=False:=eq_false n14;by_cases n15:l=[117,49,54]
 ·have h15:(l=[117,49,54])=True:=eq_true n15;simp only[Jn,XZ,simprocAttr,h0,h1,h2,h3,h4,h5,h6,h7,h8,h9,h10,h11,h12,h13,h14,h15];rw[n15];rfl
 have h15:(l=[117,49,54])=False:=eq_false n15;by_cases n16:l=[117,51,50]
 ·have h16:(l=[117,51,50])=True:=eq_true n16;simp only[Jn,XZ,simprocAttr,h0,h1,h2,h3,h4,h5,h6,h7,h8,h9,h10,h11,h12,h13,h14,h15,h16];rw[n16];rfl
 have h16:(l=[117,51,50])=False:=eq_false n16;by_cases n17:l=[99,97,116]
 ·have h17:(l=[99,97,116])=True:=eq_true n17;simp only[Jn,XZ,simprocAttr,h0,h1,h2,h3,h4,h5,h6,h7,h8,h9,h10,h11,h12,h13,h14,h15,h16,h17];rw[n17];rfl
 have h17:(l=[99,97,116])=False:=eq_false n17;by_cases n18:l=[116,101,120,116]
 ·have h18:(l=[116,101,120,116])=True:=eq_true n18;simp only[Jn,XZ,simprocAttr,h0,h1,h2,h3,h4,h5,h6,h7,h8,h9,h10,h11,h12,h13,h14,h15,h16,h17,h18];rw[n18];rfl
 have h18:(l=[116,101,120,116])=False:=eq_false n18;by_cases n19:l=[97,116]
 ·have h19:(l=[97,116])=True:=eq_true n19;simp only[Jn,XZ,simprocAttr,h0,h1,h2,h3,h4,h5,h6,h7,h8,h9,h10,h11,h12,h13,h14,h15,h16,h17,h18,h19];rw[n19];rfl
 have h19:(l=[97,116])=False:=eq_false n19;by_cases n20:l=[103,101,116]
 ·have h20:(l=[103,101,116])=True:=eq_true n20;simp only[Jn,XZ,simprocAttr,h0,h1,h2,h3,h4,h5,h6,h7,h8,h9,h10,h11,h12,h13,h14,h15,h16,h17,h18,h19,h20];rw[n20];rfl
 have h20:(l=[103,101,116])=False:=eq_false n20;by_cases n21:l=[104,97,115]
 ·have h21:(l=[104,97,115])=True:=eq_true n21;simp only[Jn,XZ,simprocAttr,h0,h1,h2,h3,h4,h5,h6,h7,h8,h9,h10,h11,h12,h13,h14,h15,h16,h17,h18,h19,h20,h21];rw[n21];rfl
 have h21:(l=[104,97,115])=False:=eq_false n21;by_cases n22:l=[111,114,101,108,115,101]
 ·have h22:(l=[111,114,101,108,115,101])=True:=eq_true n22;simp only[Jn,XZ,simprocAttr,h0,h1,h2,h3,h4,h5,h6,h7,h8,h9,h10,h11,h12,h13,h14,h15,h16,h17,h18,h19,h20,h21,h22];rw[n22];rfl
 have h22:(l=[111,114,101,108,115,101])=False:=eq_false n22;simp only[Jn,XZ,simprocAttr,h0,h1,h2,h3,h4,h5,h6,h7,h8,h9,h10,h11,h12,h13,h14,h15,h16,h17,h18,h19,h20,h21,h22];have:builtL.contains l=false:=by
  cases hc:builtL.contains l with
  |false=>rfl
  | true=>
    have:=List.contains_iff_mem.1 hc;simp only[builtL,List.mem_cons,List.not_mem_nil,or_false,h0,h1,h2,h3,h4,h5,h6,h7,h8,h9,h10,h11,h12,h13,h14,h15,h16,h17,h18,h19,h20,h21,h22]at this
 rw[this]
theorem rdefC {P:Pt->Prop}{st:St}{e:List V}{s:Sch}(n:Str)(hw:WF st)(h:SchC P st e s)(hl:s.types.length<=1000):
  Does (tabT tabD) Jds [.agg e,ofL n] st fun v S=>Gr st S/\∃E,v= .tup [.agg E, .bool (hasN s.types n)]/\TyC P st E ((defN s.types n).getD zeroTy):=by
 refine JW tabM JcR rfl hw fun K fin=> ?_;obtain⟨n0,hn0⟩:=nxE st;obtain⟨c,tv,sv,rfl,h1,h2,h3⟩:=h;obtain⟨l,hll⟩:∃l,l=s.types:=⟨_,rfl⟩
 rw[<-hll]at h2 hl fin;obtain⟨nv,kv,es,rfl,x1,x2,x3,x4⟩:=h1.inv;have l1:=h2.len;have cs1:=x1.cells;have cs2:=x1.sc;have cs3:=x2.cells;have cs4:=x2.sc;have cv1:=h2.sc;have cv2:=h3.sc;obtain⟨I,hI⟩:=opE fun fr S=>(Gr st S/\fr 1=ofL n/\fr 2= .ptr (up 0 n0) 0/\fr 4= .ptr (up 1 n0) 0/\(∃u,S.row (up 0 n0)= .cells u [.int .i64 s.main.kind,ofL s.main.name,nv,kv,tv,sv])/\(∃u,S.row (up 1 n0)= .cells u [.int .i64 0,ofL [], .snil, .snil]))
 simp only[QB,XY,simprocAttr];refine kD I ?_ ?_
 ·simp only[XZ,simprocAttr,hn0,cs1,cs2,cs3,cs4,cv1.1,cv1.2,cv2.1,cv2.2];exact(hI _ _).2 ⟨(Gr.new hw (Ja _)).nn (Ja _),rfl,rfl,rfl,⟨_,by simp only[XZ,simprocAttr,hn0];rfl⟩,⟨_,by simp only[XZ,simprocAttr,hn0];rfl⟩⟩
 intro fr S hIf;obtain⟨g0,f1,f2,f4,⟨t0,r0⟩,⟨t1,r1⟩⟩:=(hI _ _).1 hIf;rw[Jl,Jb];simp only[XY,simprocAttr];have kst:∀r,st.row r≠ .none->S.row r=st.row r:=fun r e=>g0.same r e;obtain⟨L,hL⟩:=loE fun j fr S'=>∃(i:Nat),j+i=l.length/\fr 1=ofL n/\fr 2= .ptr (up 0 n0) 0/\fr 4= .ptr (up 1 n0) 0/\fr 6= .int .i64 i/\S=S'/\defN l n=defN (l.drop i) n;refine JK L l.length (by omega) ((hL _ _ _).2 ⟨0,by omega,f1,f2,f4,by simp only[XZ,simprocAttr]<;>rfl,rfl,rfl⟩) ?_;clear f1 f2 f4;intro j fr S' hLj;obtain⟨i,hj,f1,f2,f4,f6,rfl,hrec⟩:=(hL _ _ _).1 hLj;have wr1:∀E:List V,Gr st (S.wr (up 1 n0) t1 fun u=> .cells u E):=fun E=>g0.wr (nx0 hw hn0 1) (Jd r1) (by rw[r1];rfl) (Ja _);by_cases hi:i<l.length
 ·have hi':(i:Int)<l.length:=by omega
  obtain⟨r,q,nv1,kv1,a1,a3,a4,hty,d1,d2,d3,d4⟩:=JeH h2 kst hi;have a5:=Jak a4 (j:=0) (by decide) rfl;have a5:ld1 (S.row r) q=some (ofL l[i].1, .no):=a5;have a6:=qH (a:=1) (b:=4) a4;have a6:ldn (S.row r) (q+1) 4=some (.agg [.int .i64 l[i].2.kind,ofL l[i].2.name,nv1,kv1], .no):=a6;have hadd1:IntKind.i64.wrap ((i:Int)+1)=((i+1:Nat):Int):=by rw[Jx (by omega) (by omega)];rfl
  have hd:defN (l.drop i) n=if l[i].1=n then some l[i].2 else defN (l.drop (i+1)) n:=by
   rw[List.drop_eq_getElem_cons hi];unfold defN;rw[List.find?_cons];by_cases e:l[i].1=n
   ·simp[e]
   ·simp[e]
  by_cases hn:l[i].1=n
  ·rw[if_pos hn]at hd;simp only[XZ,simprocAttr,f1,f2,f4,f6,r0,l1,hi',a1,a5,a6,hn,d1,d2,d3,d4,r1];refine fin _ _ (fun r e=>(wr1 _).same r e) fun _=>⟨[.int .i64 l[i].2.kind,ofL l[i].2.name,nv1,kv1], ?_, ?_⟩
   ·rw[Jex,hrec,hd];rfl
   ·rw[hrec,hd];exact hty
  ·rw[if_neg hn]at hd;simp only[XZ,simprocAttr,f1,f2,f4,f6,r0,l1,hi',a1,a5,hn,hadd1];exact⟨l.length-(i+1),by omega,(hL _ _ _).2 ⟨i+1,by omega,f1,f2,f4,rfl,rfl,by rw[hrec,hd]⟩⟩
 ·have hi':¬(i:Int)<l.length:=by omega
  have hdef:defN l n=none:=by rw[hrec,List.drop_eq_nil_of_le (by omega)];rfl
  simp only[XZ,simprocAttr,f2,f4,f6,r0,r1,l1,hi'];refine fin _ _ (fun r e=>(wr1 _).same r e) fun _=>⟨[.int .i64 0,ofL [], .snil, .snil], ?_, ?_⟩
  ·rw[Jex,hdef];rfl
  ·rw[hdef];exact Jor P _
theorem rinC {P:Pt->Prop}{st:St}{v:V}{ns:List Str}(n:Str)(hw:WF st)(h:SlAt P st v 1 (strs ns))(hl:ns.length<=1000):
  Does (tabT tabD) Je9 [v,ofL n] st fun v' S=>v'= .bool (ns.contains n)/\st=S:=by
 refine JA Jdt rfl ?_;have l1:=h.len;rw[QW]at l1;simp only[QR,XY,simprocAttr];rw[Jb];simp only[XY,simprocAttr];rw[Jl,Jb];simp only[XY,simprocAttr];obtain⟨L,hL⟩:=loE fun j fr S'=>∃(i:Nat),j+i=ns.length/\fr 0=v/\fr 1=ofL n/\fr 5= .int .i64 i/\st=S'/\ns.contains n=(ns.drop i).contains n;refine JK L ns.length (by omega) ((hL _ _ _).2 ⟨0,by omega,rfl,rfl,by simp only[XZ,simprocAttr]<;>rfl,rfl,rfl⟩) ?_;intro j fr S' hLj;obtain⟨i,hj,f0,f1,f5,rfl,hrec⟩:=(hL _ _ _).1 hLj;by_cases hi:i<ns.length
 ·have hi':(i:Int)<ns.length:=by omega
  obtain⟨q,qo,a1,a2,a3,a4⟩:=h.one (xs:=ns.map ofL) (i:=i) (by simpa using hi);simp only[List.getElem_map]at a4;have hadd1:IntKind.i64.wrap ((i:Int)+1)=((i+1:Nat):Int):=by rw[Jx (by omega) (by omega)];rfl
  rw[List.drop_eq_getElem_cons hi,List.contains_cons]at hrec;by_cases hn:ns[i]=n
  ·simp only[XZ,simprocAttr,f0,f1,f5,l1,hi',a1,a4,hn];rw[hrec,hn];simp
  ·have hn2:(n==ns[i])=false:=by simpa using fun e=>hn e.symm
   rw[hn2,Bool.false_or]at hrec;simp only[XZ,simprocAttr,f0,f1,f5,l1,hi',a1,a4,hn,hadd1];exact⟨ns.length-(i+1),by omega,(hL _ _ _).2 ⟨i+1,by omega,f0,f1,rfl,rfl,hrec⟩⟩
 ·have hi':¬(i:Int)<ns.length:=by omega
  simp only[XZ,simprocAttr,f0,f5,l1,hi'];rw[hrec,List.drop_eq_nil_of_le (by omega)];rfl
theorem rownC {P:Pt->Prop}{st:St}{e1 e2:List V}{s:Sch}{t:Ty}(hw:WF st)(h:SchC P st e1 s)(ht:TyC P st e2 t)(hl:s.types.length<=1000):
  Does (tabT tabD) Jdq [.agg e1, .agg e2] st fun v S=>Gr st S/\v= .int .i64 (ownS (hasN s.types) t):=by
 refine JW tabM JcO rfl hw fun K fin=> ?_;obtain⟨n0,hn0⟩:=nxE st;have hsch:=h;obtain⟨c,tv,sv,rfl,h1,h2,h3⟩:=h;obtain⟨nv0,kv0,es0,rfl,x1,x2,x3,x4⟩:=h1.inv;obtain⟨k,n,ns,ks⟩:=t;obtain⟨nv,kv,es,rfl,y1,y2,y3,y4⟩:=ht.inv';have l1:=y1.len;rw[QW]at l1;have l2:=y2.len;rw[y3]at l2;have cs1:=x1.cells;have cs2:=x1.sc;have cs3:=x2.cells;have cs4:=x2.sc;have cv1:=h2.sc;have cv2:=h3.sc;have ct1:=y1.cells;have ct2:=y1.sc;have ct3:=y2.cells;have ct4:=y2.sc;have hown:ownS (hasN s.types) (.mk k n ns ks)=if k<1\/9<k then 1 else if ks.length≠kidsS (.mk k n ns ks)\/(n≠[]/\k≠9)\/(0<ns.length/\¬(k=7\/k=8))then 12 else if k=9/\hasN s.types n=false then 15 else fieldsS (.mk k n ns ks):=rfl;have hk:fieldsS (.mk k n ns ks)=if 8<ns.length then 3 else if namesS none ns≠0 then namesS none ns else if k=8/\ns=[]then 12 else 0:=rfl;obtain⟨I,hI⟩:=opE fun fr S=>(Gr st S/\fr 2= .ptr (up 0 n0) 0/\fr 3= .ptr (up 1 n0) 0/\(∃u,S.row (up 0 n0)= .cells u [.int .i64 s.main.kind,ofL s.main.name,nv0,kv0,tv,sv])/\(∃u,S.row (up 1 n0)= .cells u [.int .i64 k,ofL n,nv,kv]))
 simp only[QA,XY,simprocAttr];refine kD I ?_ ?_
 ·simp only[XZ,simprocAttr,hn0,cs1,cs2,cs3,cs4,cv1.1,cv1.2,cv2.1,cv2.2,ct1,ct2,ct3,ct4];exact(hI _ _).2 ⟨(Gr.new hw (Ja _)).nn (Ja _),rfl,rfl,⟨_,by simp only[XZ,simprocAttr,hn0];rfl⟩,⟨_,by simp only[XZ,simprocAttr,hn0];rfl⟩⟩
 intro fr S hIf;obtain⟨g0,f2,f3,⟨t0,r0⟩,⟨t1,r1⟩⟩:=(hI _ _).1 hIf;have out:∀x,ownS (hasN s.types) (.mk k n ns ks)=x->∀S',Gr S S'->K (.int .i64 x) S':=fun x hx S' g=>fin _ _ (fun r e=>(g0.trans g).same r e) fun _=>by rw[hx]
 have rS:=Gr.refl g0.wf;by_cases b1:k<1
 ·rw[Jl,Jb];simp only[XZ,simprocAttr,f3,r1,b1];exact out _ (by rw[hown,if_pos (.inl b1)]) _ rS
 by_cases b2:9<k
 ·rw[Jl,Jb];simp only[XZ,simprocAttr,f3,r1,b1,b2];exact out _ (by rw[hown,if_pos (.inr b2)]) _ rS
 rw[if_neg (fun h=>by rcases h with h|h;exact b1 h;exact b2 h)]at hown;rw[Jl,Jb];simp only[XY,simprocAttr,f3,r1,b1,b2];rw[Jb];simp only[XY,simprocAttr];obtain⟨J,hJ⟩:=opE fun fr S'=>(S=S'/\fr 2= .ptr (up 0 n0) 0/\fr 3= .ptr (up 1 n0) 0/\fr 5= .int .i64 (kidsS (.mk k n ns ks):Nat))
 refine Qc J ?_ ?_
 ·have hks:kidsS (.mk k n ns ks)=if k=4\/k=5\/k=6 then 1 else if k=7\/k=8 then ns.length else 0:=rfl;by_cases k4:k=4
  ·simp only[XZ,simprocAttr,f3,r1,k4];exact(hJ _ _).2 ⟨rfl,f2,f3,by simp only[XZ,simprocAttr];rw[hks,if_pos (.inl k4)];rfl⟩
  by_cases k5:k=5
  ·simp only[XZ,simprocAttr,f3,r1,k4,k5];exact(hJ _ _).2 ⟨rfl,f2,f3,by simp only[XZ,simprocAttr];rw[hks,if_pos (.inr (.inl k5))];rfl⟩
  by_cases k6:k=6
  ·simp only[XZ,simprocAttr,f3,r1,k4,k5,k6];exact(hJ _ _).2 ⟨rfl,f2,f3,by simp only[XZ,simprocAttr];rw[hks,if_pos (.inr (.inr k6))];rfl⟩
  rw[if_neg (by omega)]at hks;by_cases k7:k=7
  ·simp only[XZ,simprocAttr,f3,r1,k4,k5,k6,k7,l1];exact(hJ _ _).2 ⟨rfl,f2,f3,by simp only[XZ,simprocAttr];rw[hks,if_pos (.inl k7)]⟩
  by_cases k8:k=8
  ·simp only[XZ,simprocAttr,f3,r1,k4,k5,k6,k7,k8,l1];exact(hJ _ _).2 ⟨rfl,f2,f3,by simp only[XZ,simprocAttr];rw[hks,if_pos (.inr k8)]⟩
  rw[if_neg (by omega)]at hks;simp only[XZ,simprocAttr,f3,r1,k4,k5,k6,k7,k8];exact(hJ _ _).2 ⟨rfl,f2,f3,by simp only[XZ,simprocAttr];rw[hks];rfl⟩
 clear f2 f3;intro fr S' hJf;obtain⟨rfl,f2,f3,f5⟩:=(hJ _ _).1 hJf;obtain⟨kk,hkk⟩:∃kk,kk=kidsS (.mk k n ns ks):=⟨_,rfl⟩
 rw[<-hkk]at f5 hown;obtain⟨R,hR⟩:∃b,b=decide (k=7\/k=8):=⟨_,rfl⟩
 obtain⟨J2,hJ2⟩:=opE fun fr S'=>(S=S'/\fr 2= .ptr (up 0 n0) 0/\fr 3= .ptr (up 1 n0) 0/\fr 5= .int .i64 kk/\fr 6= .bool R)
 refine kD J2 ?_ ?_
 ·by_cases k7:k=7
  ·simp only[XZ,simprocAttr,f3,r1,k7];exact(hJ2 _ _).2 ⟨rfl,f2,f3,f5,by simp only[XZ,simprocAttr];rw[hR,decide_eq_true (.inl k7)]⟩
  by_cases k8:k=8
  ·simp only[XZ,simprocAttr,f3,r1,k7,k8];exact(hJ2 _ _).2 ⟨rfl,f2,f3,f5,by simp only[XZ,simprocAttr];rw[hR,decide_eq_true (.inr k8)]⟩
  simp only[XZ,simprocAttr,f3,r1,k7,k8];exact(hJ2 _ _).2 ⟨rfl,f2,f3,f5,by simp only[XZ,simprocAttr];rw[hR,decide_eq_false (by omega)]⟩
 clear f2 f3 f5;intro fr S' hJf;obtain⟨rfl,f2,f3,f5,f6⟩:=(hJ2 _ _).1 hJf;by_cases c1:ks.length=kk;rotate_left
 ·have c1':¬(ks.length:Int)=(kk:Int):=by omega
  rw[Jl,Jb];simp only[XZ,simprocAttr,f3,f5,r1,l2,c1'];exact out _ (by rw[hown,if_pos (.inl c1)]) _ rS
 have c1':(ks.length:Int)=(kk:Int):=by omega
 by_cases c2:n≠[]/\k≠9
 ·have c2a:¬n=[]:=c2.1;have c2b:¬k=9:=c2.2;rw[Jl,Jb];simp only[XZ,simprocAttr,f3,f5,r1,l2,c1',c2a,c2b];exact out _ (by rw[hown,if_pos (.inr (.inl c2))]) _ rS
 by_cases c3:0<ns.length/\¬(k=7\/k=8)
 ·have c3a:¬(ns.length:Int)=0:=by omega
  have hR0:R=false:=by rw[hR];exact decide_eq_false c3.2
  rw[hR0]at f6;by_cases k9:k=9
  ·rw[Jl,Jb];simp only[XZ,simprocAttr,f3,f5,f6,r1,l1,l2,c1',c3a,k9];exact out _ (by rw[hown,if_pos (.inr (.inr c3))]) _ rS
  ·have hn:n=[]:=Classical.byContradiction fun h=>c2 ⟨h,k9⟩;rw[Jl,Jb];simp only[XZ,simprocAttr,f3,f5,f6,r1,l1,l2,c1',c3a,k9,hn];exact out _ (by rw[hown,if_pos (.inr (.inr c3))]) _ rS
 rw[if_neg (fun h=>by rcases h with h|h|h;exact h c1;exact c2 h;exact c3 h)]at hown;have hn9:k=9\/n=[]:=by
  by_cases k9:k=9
  ·exact .inl k9
  ·exact .inr (Classical.byContradiction fun h=>c2 ⟨h,k9⟩)
 have hr0:R=true\/R=false/\(ns.length:Int)=0:=by
  by_cases k78:k=7\/k=8
  ·exact .inl (by rw[hR];exact decide_eq_true k78)
  ·exact .inr ⟨by rw[hR];exact decide_eq_false k78,by have:=fun h=>c3 ⟨h,k78⟩;omega⟩
 obtain⟨J3,hJ3⟩:=opE fun fr S'=>(S=S'/\fr 2= .ptr (up 0 n0) 0/\fr 3= .ptr (up 1 n0) 0)
 refine Qc J3 ?_ ?_
 ·have fin3:∀fr':Fr,fr' 2= .ptr (up 0 n0) 0->fr' 3= .ptr (up 1 n0) 0->J3 fr' S:=fun _ a b=>(hJ3 _ _).2 ⟨rfl,a,b⟩;rcases hn9 with k9|hn
  ·rcases hr0 with hr|⟨hr,hz⟩
   ·rw[hr]at f6;rw[Jb];simp only[XZ,simprocAttr,f3,f5,f6,r1,l1,l2,c1',k9];exact fin3 _ f2 f3
   ·rw[hr]at f6;rw[Jb];simp only[XZ,simprocAttr,f3,f5,f6,r1,l1,l2,c1',k9,hz];exact fin3 _ f2 f3
  ·by_cases k9:k=9
   ·rcases hr0 with hr|⟨hr,hz⟩
    ·rw[hr]at f6;rw[Jb];simp only[XZ,simprocAttr,f3,f5,f6,r1,l1,l2,c1',k9];exact fin3 _ f2 f3
    ·rw[hr]at f6;rw[Jb];simp only[XZ,simprocAttr,f3,f5,f6,r1,l1,l2,c1',k9,hz];exact fin3 _ f2 f3
   ·rcases hr0 with hr|⟨hr,hz⟩
    ·rw[hr]at f6;rw[Jb];simp only[XZ,simprocAttr,f3,f5,f6,r1,l1,l2,c1',k9,hn];exact fin3 _ f2 f3
    ·rw[hr]at f6;rw[Jb];simp only[XZ,simprocAttr,f3,f5,f6,r1,l1,l2,c1',k9,hn,hz];exact fin3 _ f2 f3
 clear f2 f3 f5 f6;intro fr S' hJf;obtain⟨rfl,f2,f3⟩:=(hJ3 _ _).1 hJf;obtain⟨J4,hJ4⟩:=opE fun fr S'=>(Gr S S'/\fr 3= .ptr (up 1 n0) 0/\¬(k=9/\hasN s.types n=false))
 refine Qc J4 ?_ ?_
 ·by_cases k9:k=9
  ·rw[Jb];simp only[XY,simprocAttr,f3,r1,k9];rw[Jb];simp only[XY,simprocAttr,f2,f3,r0,r1,cs1,cs2,cs3,cs4,cv1.1,cv1.2,cv2.1,cv2.2];refine Je (rdefC (P:=P) (s:=s) n g0.wf (hsch.imp fun r p e=>⟨p,g0.same r e⟩) hl) ?_;rintro _ S1 ⟨g1,E,rfl,hE⟩;have w1:=g1.wf;obtain⟨n1,hn1⟩:=nxE S1;have e4:=hE.four;have eok:=hE.ok;have esp:splice [.int .i64 0,ofL [], .snil, .snil] 0 E=E:=YJ (by rw[e4];rfl);have etk:E.take 4=E:=by rw[<-e4,List.take_length]
   have gn:Gr S1 ((S1.new fun t=> .cells t [.int .i64 0,ofL [], .snil, .snil]).wr (up 0 n1) S1.t fun u=> .cells u E):=(Gr.refl w1).nw hn1 (Ja _) (Ja _);simp only[XN,simprocAttr,hn1,e4,eok,etk,esp]
   cases hh:hasN s.types n with
   | true=>
     rw[Jb];simp only[XZ,simprocAttr];exact(hJ4 _ _).2 ⟨g1.trans gn,f3,fun h=>by rw[hh]at h;cases h.2⟩
   | false=>
     rw[Jb];simp only[XZ,simprocAttr];exact out _ (by rw[hown,if_pos ⟨k9,hh⟩]) _ (g1.trans gn)
  ·rw[Jb];simp only[XZ,simprocAttr,f3,r1,k9];exact(hJ4 _ _).2 ⟨rS,f3,fun h=>k9 h.1⟩
 clear f2 f3;intro fr S1 hJf;obtain⟨g1,f3,c4⟩:=(hJ4 _ _).1 hJf;rw[if_neg c4,hk]at hown;have r1:=g1.cells r1;by_cases b8:8<ns.length
 ·have b8':(8:Int)<ns.length:=by omega
  rw[Jl,Jb];simp only[XZ,simprocAttr,f3,r1,l1,b8'];exact out _ (by rw[hown,if_pos b8]) _ g1
 have b8':¬(8:Int)<ns.length:=by omega
 rw[if_neg b8]at hown;rw[Jl,Jb];simp only[XY,simprocAttr,f3,r1,l1,b8'];obtain⟨J5,hJ5⟩:=opE fun fr S'=>(S1=S'/\fr 3= .ptr (up 1 n0) 0/\namesS none ns=0)
 refine Qc J5 ?_ ?_
 ·rw[Jb];simp only[XY,simprocAttr];obtain⟨L,hL⟩:=loE fun j fr S'=>∃(i:Nat) (p:Option Str),j+i=ns.length/\fr 3= .ptr (up 1 n0) 0/\fr 9= .int .i64 i/\S1=S'/\namesS none ns=namesS p (ns.drop i)/\(p=if i=0 then none else ns[i-1]?);refine JK L ns.length (by omega) ((hL _ _ _).2 ⟨0,none,by omega,f3,by simp only[XZ,simprocAttr]<;>rfl,rfl,rfl,rfl⟩) ?_;clear f3;intro j fr S' hLj;obtain⟨i,p,hj,f3,f9,rfl,hrec,hp⟩:=(hL _ _ _).1 hLj;have yS:=(y1.gr (g0.trans g1))
  by_cases hi:i<ns.length
  ·have hi':(i:Int)<ns.length:=by omega
   obtain⟨q,qo,a1,a2,a3,a4⟩:=yS.one (xs:=ns.map ofL) (i:=i) (by simpa using hi);simp only[List.getElem_map]at a4;have hd:=List.drop_eq_getElem_cons hi;have hadd1:IntKind.i64.wrap ((i:Int)+1)=((i+1:Nat):Int):=by rw[Jx (by omega) (by omega)];rfl
   simp only[XZ,simprocAttr,f3,f9,r1,l1,hi',a1,a4];refine Je (ridentC _ _) ?_;rintro _ _ ⟨rfl,rfl⟩
   cases hid:identB ns[i]with
   | false=>
     have hv:namesS none ns=15:=by rw[hrec,hd,namesS,if_pos hid]
     simp only[XZ,simprocAttr];exact out _ (by rw[hown,hv];rfl) _ g1
   | true=>
     have next:∀{fr':Fr},notLess p ns[i]=false->fr' 3= .ptr (up 1 n0) 0->fr' 9= .int .i64 ((i+1:Nat):Int)->∃j',j'<j/\L j' fr' S1:=fun{fr'} hl e3 e9=>
      ⟨ns.length-(i+1),by omega,(hL _ _ _).2 ⟨i+1,some ns[i],by omega,e3,e9,rfl,by rw[hrec,hd,Jde hid hl],by rw[if_neg (by omega)];simp[hi]⟩⟩
     by_cases h0:i=0
     ·have h0':¬(0:Int)<(i:Int):=by omega
      simp only[XZ,simprocAttr,f9,h0',hadd1,Jw];exact next (by rw[hp,if_pos h0];rfl) f3 rfl
     ·have h0':(0:Int)<(i:Int):=by omega
      have hsub:IntKind.i64.wrap ((i:Int)-1)=((i-1:Nat):Int):=by rw[Jx (by omega) (by omega)];omega
      obtain⟨q',qo',d1,d2,d3,d4⟩:=yS.one (xs:=ns.map ofL) (i:=i-1) (by simp;omega);simp only[List.getElem_map]at d4;have hp':p=some ns[i-1]:=by rw[hp,if_neg h0,List.getElem?_eq_getElem (by omega)]
      cases hl:Op.bytesLess ns[i-1] ns[i]with
      | false=>
        have hv:namesS none ns=6:=by rw[hrec,hd,namesS,if_neg (by rw[hid];simp),if_pos (by rw[hp',notLess,hl];rfl)]
        simp only[XZ,simprocAttr,f3,f9,r1,h0',hsub,a1,a4,d1,d4,kI,hl,Jw];exact out _ (by rw[hown,hv];rfl) _ g1
      | true=>
        simp only[XZ,simprocAttr,f3,f9,r1,h0',hsub,a1,a4,d1,d4,kI,hl,Jw,hadd1];exact next (by rw[hp',notLess,hl];rfl) f3 rfl
  ·have hi':¬(i:Int)<ns.length:=by omega
   have hv:namesS none ns=0:=by rw[hrec,List.drop_eq_nil_of_le (by omega),namesS]
   simp only[XZ,simprocAttr,f3,f9,r1,l1,hi'];exact(hJ5 _ _).2 ⟨rfl,f3,hv⟩
 clear f3;intro fr S' hJf;obtain⟨rfl,f3,hn0'⟩:=(hJ5 _ _).1 hJf;rw[if_neg (fun h=>h hn0')]at hown;by_cases c8:k=8
 ·by_cases cn:ns.length=0
  ·have cn':(ns.length:Int)=0:=by omega
   simp only[XZ,simprocAttr,f3,r1,l1,c8,cn'];exact out _ (by rw[hown,if_pos ⟨c8,List.length_eq_zero_iff.1 cn⟩]) _ g1
  ·have cn':¬(ns.length:Int)=0:=by omega
   simp only[XZ,simprocAttr,f3,r1,l1,c8,cn'];exact out _ (by rw[hown,if_neg fun h=>cn (by rw[h.2];rfl)]) _ g1
 ·simp only[XZ,simprocAttr,f3,r1,l1,c8];exact out _ (by rw[hown,if_neg fun h=>c8 h.1]) _ g1
theorem _root_.Eva.SchC.low {P:Pt->Prop}{st:St}{e:List V}{s:Sch}(h:SchC P st e s)(k:Nat):SchC P {st with low:=k} e s:=h.imp fun r p _=>⟨p,rfl⟩
theorem rmayC :∀(m:Nat) (ty:Ty),tsz ty<m->∀(P:Pt->Prop) (st:St) (kr:Pt) (s:Sch) (met:Nat) (E e:List V) (deep:Nat),WF st->SchC P st E s->TyC P st e ty->(∀r,P r->r≠kr)->(∃t,st.row kr= .cells t (E++[.int .i64 met]))->deep<=13->met<=400->s.types.length<=1000->cntT ty<1000000\/True->
  Does (tabT tabD) kz [.ptr kr 0, .agg e, .int .i64 deep] st fun v st'=>Ch (fun r=>r=kr) st st'/\(∃t,st'.row kr= .cells t (E++[.int .i64 (mayS (hasN s.types) ty deep met).2]))/\v= .int .i64 (mayS (hasN s.types) ty deep met).1
 |0,_,h=>absurd h (by omega)
 | m+1, .mk k nm ns ks,hm=>by
   intro P st kr s met E e deep hw hsch hx hsep hkr hdeep hmet hl _;refine YU tabM qj rfl hw fun K fin=> ?_;obtain⟨n0,hn0⟩:=nxE st;have hsch0:=hsch;obtain⟨c,tv,sv,rfl,h1,h2,h3⟩:=hsch;obtain⟨nv0,kv0,es0,rfl,x1,x2,x3,x4⟩:=h1.inv;have hx0:=hx;obtain⟨nv,kv,es,rfl,y1,y2,y3,y4⟩:=hx.inv';have l2:=y2.len;rw[y3]at l2;have cs1:=x1.cells;have cs2:=x1.sc;have cs3:=x2.cells;have cs4:=x2.sc;have cv1:=h2.sc;have cv2:=h3.sc;have ct1:=y1.cells;have ct2:=y1.sc;have ct3:=y2.cells;have ct4:=y2.sc;obtain⟨tk,rk⟩:=hkr;have rk:st.row kr= .cells tk [.int .i64 s.main.kind,ofL s.main.name,nv0,kv0,tv,sv, .int .i64 met]:=rk;have hrec:=jI (hasN s.types) k nm ns ks deep met;have kne:=JE hw hn0 (Jd rk) 0;have one:=nes kne;obtain⟨I,hI⟩:=opE fun fr S=>(Ch (fun r=>r=kr) st S/\fr 0= .ptr kr 0/\fr 2= .int .i64 deep/\fr 4= .ptr (up 0 n0) 0/\(∃u,S.row (up 0 n0)= .cells u [.int .i64 k,ofL nm,nv,kv])/\(∃u,S.row kr= .cells u [.int .i64 s.main.kind,ofL s.main.name,nv0,kv0,tv,sv, .int .i64 ((met+1:Nat):Int)]))
   have hadd:IntKind.i64.wrap ((met:Int)+1)=((met+1:Nat):Int):=by rw[Jx (by omega) (by omega)];rfl
   simp only[Kw,XY,simprocAttr];rw[Jb];simp only[XY,simprocAttr,hn0,ct1,ct2,ct3,ct4];refine kD I ?_ ?_
   ·have gn:Gr st (st.new fun t=> .cells t [.int .i64 k,ofL nm,nv,kv]):=Gr.new hw (Ja _);have rk1:=gn.cells rk;simp only[XZ,simprocAttr,rk1,hadd];refine(hI _ _).2 ⟨(Ch.of _ gn).wr (Jd rk1) (by rw[rk1];rfl) (.inl rfl) (Ja _),rfl,rfl,rfl,⟨_,by simp only[XZ,simprocAttr,hn0,one];rfl⟩,⟨_,J7 _ _ _ _⟩⟩
   intro fr S hIf;obtain⟨hC,f0,f2,f4,⟨t0,r0⟩,⟨u1,rk1⟩⟩:=(hI _ _).1 hIf;have keepP:∀{S':St},Ch (fun r=>r=kr) st S'->∀r,P r->st.row r≠ .none->P r/\S'.row r=st.row r:=fun c r p e=>⟨p,c.same r e (hsep r p)⟩
   have out:∀(x:Int) (mm:Nat),mayS (hasN s.types) (.mk k nm ns ks) deep met=(x,mm)->∀S',Ch (fun r=>r=kr) st S'->(∃u,S'.row kr= .cells u [.int .i64 s.main.kind,ofL s.main.name,nv0,kv0,tv,sv, .int .i64 (mm:Int)])->K (.int .i64 x) S':=fun x mm hx S' c hr=>fin _ _ (fun r a b=>c.same r a b) fun _=>by rw[hx];exact⟨hr,rfl⟩
   by_cases b1:400<met+1
   ·have b1':(400:Int)<((met+1:Nat):Int):=by omega
    rw[Jl,Jb];simp only[XZ,simprocAttr,f0,rk1,b1'];exact out _ _ (by rw[hrec,if_pos b1]) _ hC ⟨_,rk1⟩
   have b1':¬(400:Int)<((met+1:Nat):Int):=by omega
   rw[if_neg b1]at hrec;rw[Jl,Jb];simp only[XY,simprocAttr,f0,rk1,b1'];by_cases b2:12<deep
   ·have b2':(12:Int)<(deep:Int):=by omega
    rw[Jl,Jb];simp only[XZ,simprocAttr,f2,b2'];exact out _ _ (by rw[hrec,if_pos b2]) _ hC ⟨_,rk1⟩
   have b2':¬(12:Int)<(deep:Int):=by omega
   rw[if_neg b2]at hrec;rw[Jl,Jb];simp only[XY,simprocAttr,f2,b2'];have wS:=hC.wf;rw[Jb];simp only[XY,simprocAttr,f0,f4,rk1,r0,cs1,cs2,cs3,cs4,cv1.1,cv1.2,cv2.1,cv2.2,ct1,ct2,ct3,ct4];refine JF (rownC (P:=P) (s:=s) (KN wS S.t) ((hsch0.imp (keepP hC)).low S.t) ((hx0.imp (keepP hC)).low S.t) hl) ?_;rintro _ S1 g1 rfl;obtain⟨O,hO⟩:∃O,O=ownS (hasN s.types) (.mk k nm ns ks):=⟨_,rfl⟩
   rw[<-hO]at hrec⊢;have C1:Ch (fun r=>r=kr) st S1:=hC.gr g1;have r01:=g1.cells r0;have rk1:=g1.cells rk1;simp only[XY,simprocAttr,Jw];obtain⟨J,hJ⟩:=opE fun fr S'=>(∃x mm,fr 7= .int .i64 x/\mayS (hasN s.types) (.mk k nm ns ks) deep met=(x,mm)/\Ch (fun r=>r=kr) st S'/\∃u,S'.row kr= .cells u [.int .i64 s.main.kind,ofL s.main.name,nv0,kv0,tv,sv, .int .i64 (mm:Int)])
   refine Qc J ?_ ?_
   ·rw[Jb];simp only[XY,simprocAttr];obtain⟨L,hL⟩:=loE fun j fr S'=>∃(i mi:Nat) (x:Int),j+i=ks.length/\fr 0= .ptr kr 0/\fr 2= .int .i64 deep/\fr 4= .ptr (up 0 n0) 0/\fr 7= .int .i64 x/\fr 8= .int .i64 i/\Ch (fun r=>r=kr) st S'/\(∃u,S'.row (up 0 n0)= .cells u [.int .i64 k,ofL nm,nv,kv])/\(∃u,S'.row kr= .cells u [.int .i64 s.main.kind,ofL s.main.name,nv0,kv0,tv,sv, .int .i64 (mi:Int)])/\mayS (hasN s.types) (.mk k nm ns ks) deep met=(if x≠0 then(x,mi)else maysS (hasN s.types) (ks.drop i) (deep+1) mi)/\(x=0->mi<=400);have hlen:ks.length<1000000\/O≠0:=by
     by_cases ho:O=0
     ·left;have hf:ownS (hasN s.types) (.mk k nm ns ks)=if k<1\/9<k then 1 else if ks.length≠kidsS (.mk k nm ns ks)\/(nm≠[]/\k≠9)\/(0<ns.length/\¬(k=7\/k=8))then 12 else if k=9/\hasN s.types nm=false then 15 else fieldsS (.mk k nm ns ks):=rfl;rw[hO,hf]at ho;by_cases d1:k<1\/9<k
      ·rw[if_pos d1]at ho;cases ho
      rw[if_neg d1]at ho;by_cases d2:ks.length≠kidsS (.mk k nm ns ks)\/(nm≠[]/\k≠9)\/(0<ns.length/\¬(k=7\/k=8))
      ·rw[if_pos d2]at ho;cases ho
      rw[if_neg d2]at ho;have d3:ks.length=kidsS (.mk k nm ns ks):=Classical.byContradiction fun h=>d2 (.inl h);by_cases d4:k=9/\hasN s.types nm=false
      ·rw[if_pos d4]at ho;cases ho
      rw[if_neg d4]at ho;have hk8:ns.length<=8:=by
       have hk:fieldsS (.mk k nm ns ks)=if 8<ns.length then 3 else if namesS none ns≠0 then namesS none ns else if k=8/\ns=[]then 12 else 0:=rfl;rw[hk]at ho;by_cases d5:8<ns.length
       ·rw[if_pos d5]at ho;cases ho
       ·omega
      have hks:kidsS (.mk k nm ns ks)=if k=4\/k=5\/k=6 then 1 else if k=7\/k=8 then ns.length else 0:=rfl;rw[hks]at d3
      split at d3
      ·omega
      split at d3
      ·omega
      ·omega
     ·exact .inr ho
    by_cases ho:O=0;rotate_left
    ·
     refine QY (by decide) ?_;by_cases hz:(0:Int)<ks.length
     ·simp only[XZ,simprocAttr,f4,r01,l2,ho,hz];exact(hJ _ _).2 ⟨O,met+1,rfl,by rw[hrec,if_pos ho],C1,_,rk1⟩
     ·simp only[XZ,simprocAttr,f4,r01,l2,hz];exact(hJ _ _).2 ⟨O,met+1,rfl,by rw[hrec,if_pos ho],C1,_,rk1⟩
    have hlen:ks.length<1000000:=hlen.resolve_right fun h=>h ho;rw[if_neg (fun h=>h ho)]at hrec;refine JK L ks.length (by omega) ((hL _ _ _).2 ⟨0,met+1,O,by omega,f0,f2,f4,rfl,by simp only[XZ,simprocAttr]<;>rfl,C1,⟨_,r01⟩,⟨_,rk1⟩,by rw[hrec,if_neg (fun h=>h ho)];rfl,fun _=>by omega⟩) ?_;clear f0 f2 f4;intro j fr S2 hLj;obtain⟨i,mi,x,hj,f0,f2,f4,f7,f8,C2,⟨ua,r02⟩,⟨ub,rk2⟩,hrc,hmi⟩:=(hL _ _ _).1 hLj;by_cases hi:i<ks.length
    ·have hi':(i:Int)<ks.length:=by omega
     by_cases hx:x=0
     ·rw[if_neg (fun h=>h hx),List.drop_eq_getElem_cons hi,Kv]at hrc;have hx2:LstAt (TyC P S2) P S2 kv 4 ks:=⟨es,y2.imp (keepP C2),y3,fun i a b=>(y4 i a b).imp (keepP C2)⟩
      obtain⟨q,qo,E',a1,a2,a3,a4,hE,e4,a5⟩:=hx2.elem hi;have hadd1:IntKind.i64.wrap ((i:Int)+1)=((i+1:Nat):Int):=by rw[Jx (by omega) (by omega)];rfl
      have haddd:IntKind.i64.wrap ((deep:Int)+1)=((deep+1:Nat):Int):=by rw[Jx (by omega) (by omega)];rfl
      simp only[XZ,simprocAttr,f0,f2,f4,f7,f8,r02,l2,hi',hx,a1,a4,haddd];refine Je (rmayC m ks[i] (by have:=jf (k:=k) (n:=nm) (ns:=ns) hi;omega) P S2 kr s mi _ E' (deep+1) C2.wf (hsch0.imp (keepP C2)) hE hsep ⟨ub,rk2⟩ (by omega) (hmi hx) hl (.inr trivial)) ?_;rintro _ S3 ⟨c3,⟨u3,rk3⟩,rfl⟩;have rk3:S3.row kr= .cells u3 [.int .i64 s.main.kind,ofL s.main.name,nv0,kv0,tv,sv, .int .i64 ((mayS (hasN s.types) ks[i] (deep+1) mi).2:Nat)]:=rk3;have C3:=C2.trans c3 fun r w=> .inl w;have r03:S3.row (up 0 n0)= .cells ua [.int .i64 k,ofL nm,nv,kv]:=by rw[c3.same _ (Jd r02) (fun h=>kne h.symm),r02]
      have hm4:=kn (hasN s.types) ks[i] (deep+1) mi (hmi hx);simp only[XZ,simprocAttr,f8,hadd1];exact⟨ks.length-(i+1),by omega,(hL _ _ _).2 ⟨i+1,_,_,by omega,f0,f2,f4,rfl,rfl,C3,⟨ua,r03⟩,⟨u3,rk3⟩,hrc,hm4.2⟩⟩
     ·rw[if_pos hx]at hrc;simp only[XZ,simprocAttr,f4,f7,f8,r02,l2,hi',hx];exact(hJ _ _).2 ⟨x,mi,f7,hrc,C2,ub,rk2⟩
    ·have hi':¬(i:Int)<ks.length:=by omega
     simp only[XZ,simprocAttr,f4,f7,f8,r02,l2,hi'];refine(hJ _ _).2 ⟨x,mi,f7, ?_,C2,ub,rk2⟩;rw[hrc,List.drop_eq_nil_of_le (by omega),Yh];by_cases hx:x=0
     ·rw[if_neg (fun h=>h hx),hx]
     ·rw[if_pos hx]
   intro fr S2 hJf;obtain⟨x,mm,f7,hxm,C2,hr⟩:=(hJ _ _).1 hJf;simp only[XZ,simprocAttr,f7];exact out _ _ hxm _ C2 hr
theorem rendsC :∀(m:Nat) (ty:Ty),tsz ty<m->∀(P Q:Pt->Prop) (st:St) (lv:V) (has:List Str) (e:List V),WF st->SlAt Q st lv 1 (strs has)->has.length<=1000->TyC P st e ty->cntT ty<1000000->
  Does (tabT tabD) jN [lv, .agg e] st fun v st'=>Gr st st'/\v= .bool (endsR has.contains ty)
 |0,_,h=>absurd h (by omega)
 | m+1, .mk k nm ns ks,hm=>by
   intro P Q st lv has e hw hlv hlh hx hsz;refine JW tabM Jca rfl hw fun K fin=> ?_;obtain⟨n0,hn0⟩:=nxE st;obtain⟨nv,kv,es,rfl,y1,y2,y3,y4⟩:=hx.inv';have l2:=y2.len;rw[y3]at l2;have ct1:=y1.cells;have ct2:=y1.sc;have ct3:=y2.cells;have ct4:=y2.sc;have hS:=JeN has.contains k nm ns ks;have hlen:ks.length<1000000:=by have h1:=JdB ks;rw[jg]at hsz;omega
   obtain⟨I,hI⟩:=opE fun fr S=>(Gr st S/\fr 0=lv/\fr 3= .ptr (up 0 n0) 0/\(∃u,S.row (up 0 n0)= .cells u [.int .i64 k,ofL nm,nv,kv]))
   simp only[Qg,XY,simprocAttr];refine kD I ?_ ?_
   ·simp only[XZ,simprocAttr,hn0,ct1,ct2,ct3,ct4];exact(hI _ _).2 ⟨Gr.new hw (Ja _),rfl,rfl,⟨_,by simp only[XZ,simprocAttr,hn0];rfl⟩⟩
   intro fr S hIf;obtain⟨g0,f0,f3,⟨t0,r0⟩⟩:=(hI _ _).1 hIf;have out:∀b,endsR has.contains (.mk k nm ns ks)=b->∀S',Gr S S'->K (.bool b) S':=fun b hb S' g=>fin _ _ (fun r e=>(g0.trans g).same r e) fun _=>by rw[hb]
   have kid:∀{S':St} {i:Nat} (hi:i<ks.length),Gr S S'->∃q o E,iaddrSV 4 kv (.int .i64 i)=some (.ptr q o, .no)/\ldn (S'.row q) o 4=some (.agg E, .no)/\Does (tabT tabD) jN [lv, .agg E] S' fun v S''=>Gr S' S''/\v= .bool (endsR has.contains ks[i]):=fun{S' i} hi g=>by
    have G:=g0.trans g;have hx2:LstAt (TyC P S') P S' kv 4 ks:=⟨es,y2.gr G,y3,fun i a b=>(y4 i a b).gr G⟩
    obtain⟨q,qo,E',a1,a2,a3,a4,hE,e4,a5⟩:=hx2.elem hi;have h1:=q9 hi;have h2:=jg k nm ns ks;exact⟨q,qo,E',a1,a4,rendsC m ks[i] (by have:=jf (k:=k) (n:=nm) (ns:=ns) hi;omega) P Q S' lv has E' G.wf (hlv.gr G) hlh hE (by omega)⟩
   rw[Jl,Jb];simp only[XY,simprocAttr,f3,r0];by_cases k7:k=7
   ·rw[if_pos k7,JbT]at hS;rw[Jb];simp only[XY,simprocAttr,k7];rw[Jl,Jb];simp only[XY,simprocAttr];obtain⟨L,hL⟩:=loE fun j fr S'=>∃(i:Nat),j+i=ks.length/\fr 0=lv/\fr 3= .ptr (up 0 n0) 0/\fr 5= .int .i64 i/\Gr S S'/\(ks.all fun t=>endsR has.contains t)=((ks.drop i).all fun t=>endsR has.contains t);refine JK L ks.length (by omega) ((hL _ _ _).2 ⟨0,by omega,f0,f3,by simp only[XZ,simprocAttr]<;>rfl,Gr.refl g0.wf,rfl⟩) ?_;clear f0 f3;intro j fr S' hLj;obtain⟨i,hj,f0,f3,f5,hg,hrec⟩:=(hL _ _ _).1 hLj;have r0:=hg.cells r0;by_cases hi:i<ks.length
    ·have hi':(i:Int)<ks.length:=by omega
     have hadd1:IntKind.i64.wrap ((i:Int)+1)=((i+1:Nat):Int):=by rw[Jx (by omega) (by omega)];rfl
     obtain⟨q,o,E,a1,a2,a3⟩:=kid hi hg;rw[List.drop_eq_getElem_cons hi,List.all_cons]at hrec;simp only[XZ,simprocAttr,f0,f3,f5,r0,l2,hi',a1,a2];refine Je a3 ?_;rintro _ S2 ⟨g2,rfl⟩
     cases hb:endsR has.contains ks[i]with
     | true=>
       rw[hb,Bool.true_and]at hrec;simp only[XZ,simprocAttr,f5,hadd1];exact⟨ks.length-(i+1),by omega,(hL _ _ _).2 ⟨i+1,by omega,f0,f3,rfl,hg.trans g2,hrec⟩⟩
     | false=>
       rw[hb,Bool.false_and]at hrec;simp only[XZ,simprocAttr];exact out _ (by rw[hS,hrec]) _ (hg.trans g2)
    ·have hi':¬(i:Int)<ks.length:=by omega
     rw[List.drop_eq_nil_of_le (by omega)]at hrec;simp only[XZ,simprocAttr,f3,f5,r0,l2,hi'];exact out _ (by rw[hS,hrec];rfl) _ hg
   rw[if_neg k7]at hS;by_cases k8:k=8
   ·rw[if_pos k8,JbS]at hS;rw[Jb];simp only[XY,simprocAttr,k7];rw[Jb];simp only[XY,simprocAttr,k8];rw[Jl,Jb];simp only[XY,simprocAttr];obtain⟨L,hL⟩:=loE fun j fr S'=>∃(i:Nat),j+i=ks.length/\fr 0=lv/\fr 3= .ptr (up 0 n0) 0/\fr 6= .int .i64 i/\Gr S S'/\(ks.any fun t=>endsR has.contains t)=((ks.drop i).any fun t=>endsR has.contains t);refine JK L ks.length (by omega) ((hL _ _ _).2 ⟨0,by omega,f0,f3,by simp only[XZ,simprocAttr]<;>rfl,Gr.refl g0.wf,rfl⟩) ?_;clear f0 f3;intro j fr S' hLj;obtain⟨i,hj,f0,f3,f6,hg,hrec⟩:=(hL _ _ _).1 hLj;have r0:=hg.cells r0;by_cases hi:i<ks.length
    ·have hi':(i:Int)<ks.length:=by omega
     have hadd1:IntKind.i64.wrap ((i:Int)+1)=((i+1:Nat):Int):=by rw[Jx (by omega) (by omega)];rfl
     obtain⟨q,o,E,a1,a2,a3⟩:=kid hi hg;rw[List.drop_eq_getElem_cons hi,List.any_cons]at hrec;simp only[XZ,simprocAttr,f0,f3,f6,r0,l2,hi',a1,a2];refine Je a3 ?_;rintro _ S2 ⟨g2,rfl⟩
     cases hb:endsR has.contains ks[i]with
     | false=>
       rw[hb,Bool.false_or]at hrec;simp only[XZ,simprocAttr,f6,hadd1];exact⟨ks.length-(i+1),by omega,(hL _ _ _).2 ⟨i+1,by omega,f0,f3,rfl,hg.trans g2,hrec⟩⟩
     | true=>
       rw[hb,Bool.true_or]at hrec;simp only[XZ,simprocAttr];exact out _ (by rw[hS,hrec]) _ (hg.trans g2)
    ·have hi':¬(i:Int)<ks.length:=by omega
     rw[List.drop_eq_nil_of_le (by omega)]at hrec;simp only[XZ,simprocAttr,f3,f6,r0,l2,hi'];exact out _ (by rw[hS,hrec];rfl) _ hg
   rw[if_neg k8]at hS;by_cases k9:k=9
   ·rw[if_pos k9]at hS;simp only[XZ,simprocAttr,k7,k8,k9,f0,f3,r0];refine Je (rinC (P:=Q) nm g0.wf (hlv.gr g0) hlh) ?_;rintro _ _ ⟨rfl,rfl⟩;simp only[XZ,simprocAttr];exact out _ hS _ (Gr.refl g0.wf)
   ·rw[if_neg k9]at hS;simp only[XZ,simprocAttr,k7,k8,k9];exact out _ hS _ (Gr.refl g0.wf)
def rndR (l:List (Str×Ty))(has:List Str):List Str:=(l.filter fun p=>endsR has.contains p.2).map Prod.fst
theorem JjG (l:List (Str×Ty))(has:List Str):(rndR l has).length<=l.length:=by
 unfold rndR;rw[List.length_map];exact List.length_filter_le _ _
theorem Jpa {P:Pt->Prop}{st:St}{E:List V}{s:Sch}(hw:WF st)(h:SchC P st E s)(hl:s.types.length<=100)(hcnt:cntTs (s.types.map Prod.snd)<1000000):
  Does (tabT tabD) Jbb [.agg E] st fun v S=>Gr st S/\SlAt (fun r=>st.row r= .none) S v 1 (strs (finR s.types (s.types.length+1) [])):=by
 refine JW tabM Jat rfl hw fun K fin=> ?_;obtain⟨n0,hn0⟩:=nxE st;obtain⟨c,tv,sv,rfl,h1,h2,h3⟩:=h;obtain⟨l,hll⟩:∃l,l=s.types:=⟨_,rfl⟩
 rw[<-hll]at h2 hl hcnt fin;obtain⟨nv0,kv0,es0,rfl,x1,x2,x3,x4⟩:=h1.inv;have l1:=h2.len;have cs1:=x1.cells;have cs2:=x1.sc;have cs3:=x2.cells;have cs4:=x2.sc;have cv1:=h2.sc;have cv2:=h3.sc;simp only[KP,XY,simprocAttr];rw[Jb];simp only[XY,simprocAttr,hn0,cs1,cs2,cs3,cs4,cv1.1,cv1.2,cv2.1,cv2.2];obtain⟨S0,hS0⟩:=exE (st.new fun t=> .cells t [.int .i64 s.main.kind,ofL s.main.name,nv0,kv0,tv,sv]);have g0:Gr st S0:=by rw[hS0];exact Gr.new hw (Ja _)
 obtain⟨t0,r0⟩:∃t,S0.row (up 0 n0)= .cells t [.int .i64 s.main.kind,ofL s.main.name,nv0,kv0,tv,sv]:=⟨_,by rw[hS0];simp only[XZ,simprocAttr,hn0];rfl⟩
 rw[<-hS0];clear hS0;rw[Jb];simp only[XY,simprocAttr];have kst:∀{S:St},Gr S0 S->∀r,st.row r≠ .none->S.row r=st.row r:=fun g r e=>by rw[g.same r (by rw[g0.same r e];exact e),g0.same r e]
 have kty:∀{S:St} {e t},Gr S0 S->TyC P st e t->TyC P S e t:=fun g h=>h.imp fun r p e=>⟨p,kst g r e⟩
 rw[Jl,Jb];simp only[XY,simprocAttr];obtain⟨I,hI⟩:=loE fun j fr S=>∃(k:Nat) (lv:V) (has:List Str),j+k=l.length+1/\fr 1= .ptr (up 0 n0) 0/\fr 3=lv/\fr 4= .int .i64 k/\Gr S0 S/\SlF S0 S lv 1 (strs has)/\has.length<=l.length/\finR l (l.length+1) []=finR l (l.length+1-k) has;refine JK I (l.length+1) (by omega) ((hI _ _ _).2 ⟨0, .snil,[],by omega,rfl,rfl,by simp only[XZ,simprocAttr]<;>rfl,Gr.refl g0.wf,SlF.nil _ _ _,Nat.zero_le _,rfl⟩) ?_;intro j fr S hIj;obtain⟨k,lv,has,hj,f1,f3,f4,hg,hlv,hhl,hrec⟩:=(hI _ _ _).1 hIj;have rS:=hg.cells r0;by_cases hk:k<=l.length
 ·have hk':(k:Int)<=l.length:=by omega
  have haddk:IntKind.i64.wrap ((k:Int)+1)=((k+1:Nat):Int):=by rw[Jx (by omega) (by omega)];rfl
  rw[show l.length+1-k=(l.length+1-(k+1))+1 by omega,Jai]at hrec;rw[Jl,Jb];simp only[XY,simprocAttr,f1,f4,rS,l1,hk'];rw[Jl];simp only[XY,simprocAttr];rw[Jb];simp only[XY,simprocAttr];obtain⟨J,hJ⟩:=opE fun fr S'=>(∃nv,fr 1= .ptr (up 0 n0) 0/\fr 4= .int .i64 k/\fr 5=nv/\Gr S0 S'/\SlF S0 S' nv 1 (strs (rndR l has)))
  refine Qc J ?_ ?_
  ·rw[Jb];simp only[XY,simprocAttr];obtain⟨L,hL⟩:=loE fun j fr S'=>∃(i:Nat) (nv:V),j+i=l.length/\fr 1= .ptr (up 0 n0) 0/\fr 3=lv/\fr 4= .int .i64 k/\fr 5=nv/\fr 6= .int .i64 i/\Gr S0 S'/\SlF S0 S' lv 1 (strs has)/\SlF S0 S' nv 1 (strs (rndR (l.take i) has))/\(∀r,rowOf nv=some r->rowOf lv≠some r);refine JK L l.length (by omega) ((hL _ _ _).2 ⟨0, .snil,by omega,f1,f3,f4,rfl,by simp only[XZ,simprocAttr]<;>rfl,hg,hlv,SlF.nil _ _ _,fun r h=>by cases h⟩) ?_;clear f1 f3 f4 rS hg hlv;intro j2 fr S' hLj;obtain⟨i,nw,hj2,f1,f3,f4,f5,f6,hg,hlv,hnw,hap⟩:=(hL _ _ _).1 hLj;have rS:=hg.cells r0;by_cases hi:i<l.length
   ·have hi':(i:Int)<l.length:=by omega
    have hadd1:IntKind.i64.wrap ((i:Int)+1)=((i+1:Nat):Int):=by rw[Jx (by omega) (by omega)];rfl
    obtain⟨r,q,nv1,kv1,a1,a3,a4,hty,d1,d2,d3,d4⟩:=JeH h2 (kst hg) hi;have a6:=qH (a:=1) (b:=4) a4;have a6:ldn (S'.row r) (q+1) 4=some (.agg [.int .i64 l[i].2.kind,ofL l[i].2.name,nv1,kv1], .no):=a6;have hc1:=q9 (ks:=l.map Prod.snd) (i:=i) (by simpa using hi);rw[List.getElem_map]at hc1;have htk:rndR (l.take (i+1)) has=if endsR has.contains l[i].2=true then rndR (l.take i) has++[l[i].1]else rndR (l.take i) has:=by
     unfold rndR;rw[List.take_succ_eq_append_getElem hi,List.filter_append,List.map_append];by_cases e:endsR has.contains l[i].2=true
     ·rw[if_pos e];simp[List.filter,e]
     ·rw[if_neg e];simp[List.filter,e]
    simp only[XZ,simprocAttr,f1,f3,f6,rS,l1,hi',a1,a6];refine Je (rendsC _ l[i].2 (Nat.lt_succ_self _) P _ S' lv has _ hg.wf hlv.at (by omega) (kty hg hty) (by omega)) ?_;rintro _ S2 ⟨g2,rfl⟩;have G2:=hg.trans g2;have r2:=G2.cells r0
    cases hb:endsR has.contains l[i].2 with
    | false=>
      rw[if_neg (by rw[hb];simp)]at htk;simp only[XZ,simprocAttr,f6,hadd1];exact⟨l.length-(i+1),by omega,(hL _ _ _).2 ⟨i+1,nw,by omega,f1,f3,f4,f5,rfl,G2,hlv.gr g2,by rw[htk];exact hnw.gr g2,hap⟩⟩
    | true=>
      rw[if_pos hb]at htk;obtain⟨r',q',nv2,kv2,b1,b3,b4,_⟩:=JeH h2 (kst G2) hi;have b5:=Jak b4 (j:=0) (by decide) rfl;have b5:ld1 (S2.row r') q'=some (ofL l[i].1, .no):=b5;have w2:=g2.wf;obtain⟨n2,hn2⟩:=nxE S2;simp only[XZ,simprocAttr,f1,f5,f6,r2,b1,b5,hn2];have gn:Gr S2 (S2.new fun t=> .cells t [ofL l[i].1]):=Gr.new w2 (Ja _);have hone:SlAt (fun r=>r=up 0 n2) (S2.new fun t=> .cells t [ofL l[i].1]) (.slx (up 0 n2) 0 1 1 1) 1 [[ofL l[i].1]]:=by
       have:=kP (st:=S2) (z:=1) (e:=[ofL l[i].1]) rfl
       rwa [hn2]at this
      have hrl:=JjG (l.take i) has;rw[List.length_take]at hrl;refine JdD (S0:=S0) (G2.trans gn) ((hnw.gr g2).gr gn) hone (fun e he=>by rw[List.mem_singleton.1 he];rfl) (by simp) (by rw[QW];simp;omega) ?_;intro S3 v3 g3 h3 rv kp;have hlv2:=(hlv.gr g2).gr gn;have hlv3:SlF S0 S3 lv 1 (strs has):=hlv2.keep fun r hr=>kp r (by obtain⟨_,t,e⟩:=hlv2.row hr;rw[e];exact fun e=>by cases e) (fun e=>hap r e hr);simp only[XZ,simprocAttr,f6,hadd1];refine⟨l.length-(i+1),by omega,(hL _ _ _).2 ⟨i+1,v3,by omega,f1,f3,f4,rfl,rfl,g3,hlv3, ?_, ?_⟩⟩
      ·rw[htk];have:strs (rndR (l.take i) has++[l[i].1])=strs (rndR (l.take i) has)++[[ofL l[i].1]]:=by unfold strs;simp
       rw[this];exact h3
      ·intro r hr e;rcases rv with rv|rv
       ·exact hap r (by rw[<-rv];exact hr) e
       ·rw[rv]at hr;injection hr with hr;obtain⟨_,t,e2⟩:=hlv2.row e;rw[<-hr]at e2;have:=Q3 gn.wf;rw[e2]at this;cases this
   ·have hi':¬(i:Int)<l.length:=by omega
    rw[List.take_of_length_le (by omega)]at hnw;simp only[XZ,simprocAttr,f1,f6,rS,l1,hi'];exact(hJ _ _).2 ⟨nw,f1,f4,f5,hg,hnw⟩
  clear f1 f3 f4;intro fr S' hJf;obtain⟨nw,f1,f4,f5,hg',hnw⟩:=(hJ _ _).1 hJf;simp only[XZ,simprocAttr,f4,f5,haddk];exact⟨l.length+1-(k+1),by omega,(hI _ _ _).2 ⟨k+1,nw,rndR l has,by omega,f1,rfl,rfl,hg',hnw,JjG l has,hrec⟩⟩
 ·have hk':¬(k:Int)<=l.length:=by omega
  rw[show l.length+1-k=0 by omega]at hrec;have hrec:finR l (l.length+1) []=has:=hrec;simp only[XZ,simprocAttr,f1,f3,f4,rS,l1,hk'];refine fin _ _ (kst hg) fun _=> ?_;rw[hrec];exact hlv.at.imp fun r p _=>⟨Ch.fresh (Ch.of (fun _=>False) g0) p,rfl⟩
theorem JeV (l:List (Str×Ty))(t:Ty){i:Nat}(h:(openT l i t).kind≠9):∀j,openT l (i+j) t=openT l i t
 |0=>rfl
 | j+1=>by
   rw[<-Nat.add_assoc,kN,JeV l t h j,if_neg h]
theorem ropenC {P:Pt->Prop}{st:St}{E e:List V}{s:Sch}{t:Ty}(hw:WF st)(h:SchC P st E s)(ht:TyC P st e t)(hP:∀r,P r->st.row r≠ .none)(hl:s.types.length<=100):
  Does (tabT tabD) JcP [.agg E, .agg e] st fun v S=>Gr st S/\∃e',v= .agg e'/\TyC P st e' (openT s.types (s.types.length+1) t):=by
 refine JW tabM Jcb rfl hw fun K fin=> ?_;obtain⟨n0,hn0⟩:=nxE st;have hsch:=h;obtain⟨c,tv,sv,rfl,h1,h2,h3⟩:=h;obtain⟨l,hll⟩:∃l,l=s.types:=⟨_,rfl⟩
 rw[<-hll]at h2 hl fin;obtain⟨nv0,kv0,es0,rfl,x1,x2,x3,x4⟩:=h1.inv;have ht0:=ht;obtain⟨nv,kv,es,rfl,y1,y2,y3,y4⟩:=ht.inv;have l1:=h2.len;have cs1:=x1.cells;have cs2:=x1.sc;have cs3:=x2.cells;have cs4:=x2.sc;have cv1:=h2.sc;have cv2:=h3.sc;have ct1:=y1.cells;have ct2:=y1.sc;have ct3:=y2.cells;have ct4:=y2.sc;obtain⟨I,hI⟩:=opE fun fr S=>(Gr st S/\fr 2= .ptr (up 0 n0) 0/\fr 3= .ptr (up 1 n0) 0/\fr 4= .ptr (up 2 n0) 0/\(∃u,S.row (up 0 n0)= .cells u [.int .i64 s.main.kind,ofL s.main.name,nv0,kv0,tv,sv])/\(∃u,S.row (up 1 n0)= .cells u [.int .i64 t.kind,ofL t.name,nv,kv])/\(∃u,S.row (up 2 n0)= .cells u [.int .i64 0,ofL [], .snil, .snil]))
 simp only[Qi,XY,simprocAttr];refine kD I ?_ ?_
 ·simp only[XZ,simprocAttr,hn0,cs1,cs2,cs3,cs4,cv1.1,cv1.2,cv2.1,cv2.2,ct1,ct2,ct3,ct4];exact(hI _ _).2 ⟨((Gr.new hw (Ja _)).nn (Ja _)).nn (Ja _),rfl,rfl,rfl,⟨_,by simp only[XZ,simprocAttr,hn0];rfl⟩,⟨_,by simp only[XZ,simprocAttr,hn0];rfl⟩,⟨_,by simp only[XZ,simprocAttr,hn0];rfl⟩⟩
 intro fr S hIf;obtain⟨g0,f2,f3,f4,⟨t0,r0⟩,⟨t1,r1⟩,⟨t2,r2⟩⟩:=(hI _ _).1 hIf;rw[Jl,Jb];simp only[XY,simprocAttr];have kne:=fun r (e:st.row r≠ .none) (k:Nat)=>JE hw hn0 e k;have o01:up 0 n0≠up 1 n0:=by rw[JaJ];decide
 have o21:up 2 n0≠up 1 n0:=by rw[JaJ];decide
 obtain⟨L,hL⟩:=loE fun j fr S'=>∃(i:Nat) (c:List V),j+i=l.length+1/\fr 2= .ptr (up 0 n0) 0/\fr 3= .ptr (up 1 n0) 0/\fr 4= .ptr (up 2 n0) 0/\fr 5= .int .i64 i/\Gr st S'/\(∃u,S'.row (up 0 n0)= .cells u [.int .i64 s.main.kind,ofL s.main.name,nv0,kv0,tv,sv])/\(∃u,S'.row (up 1 n0)= .cells u c)/\(∃u,S'.row (up 2 n0)= .cells u [.int .i64 0,ofL [], .snil, .snil])/\TyC P st c (openT l i t);refine JK L (l.length+1) (by omega) ((hL _ _ _).2 ⟨0,_,by omega,f2,f3,f4,by simp only[XZ,simprocAttr]<;>rfl,g0,⟨_,r0⟩,⟨_,r1⟩,⟨_,r2⟩,ht0⟩) ?_;clear f2 f3 f4 r0 r1 r2;intro j fr S' hLj;obtain⟨i,c,hj,f2,f3,f4,f5,hg,⟨u0,r0⟩,⟨u1,r1⟩,⟨u2,r2⟩,hc⟩:=(hL _ _ _).1 hLj;obtain⟨T,hT⟩:∃T,T=openT l i t:=⟨_,rfl⟩
 rw[<-hT]at hc;have hlast:=kN l i t;rw[<-hT]at hlast;have hc0:=hc;obtain⟨nv1,kv1,es1,rfl,z1,z2,z3,z4⟩:=hc.inv;have d1:=z1.cells;have d2:=z1.sc;have d3:=z2.cells;have d4:=z2.sc;have done:openT l (l.length+1) t=T->K (.agg [.int .i64 T.kind,ofL T.name,nv1,kv1]) (S'.wr (up 2 n0) u2 fun u=> .cells u [.int .i64 T.kind,ofL T.name,nv1,kv1]):=fun hh=>by
  refine fin _ _ (fun r e=> ?_) fun _=>⟨_,rfl,by rw[hh];exact hc0⟩
  rw[JR _ _ _ (kne r e 2),hg.same r e]
 by_cases hi:i<=l.length
 ·have hi':(i:Int)<=l.length:=by omega
  by_cases k9:T.kind=9
  ·have hadd1:IntKind.i64.wrap ((i:Int)+1)=((i+1:Nat):Int):=by rw[Jx (by omega) (by omega)];rfl
   simp only[XZ,simprocAttr,f2,f3,f5,r0,l1,hi',r1,k9,cs1,cs2,cs3,cs4,cv1.1,cv1.2,cv2.1,cv2.2];refine Je (rdefC (P:=P) (s:=s) T.name hg.wf (hsch.imp fun r p e=>⟨p,hg.same r e⟩) (by rw[<-hll];omega)) ?_;rw[<-hll];rintro _ S2 ⟨g2,E',rfl,hE⟩;have hE:TyC P st E' ((defN l T.name).getD zeroTy):=hE.imp fun r p e=>⟨p,(hg.same r (hP r p)).symm⟩
   have r02:=g2.cells r0;have r12:=g2.cells r1;have r22:=g2.cells r2;obtain⟨nv2,kv2,es2,rfl,w1,w2,w3,w4⟩:=hE.inv;have e1:=w1.cells;have e2:=w1.sc;have e3:=w2.cells;have e4:=w2.sc;have G2:=hg.trans g2;have g3:=G2.wr (p:=up 1 n0) (t:=u1) (f:=fun u=> .cells u [.int .i64 ((defN l T.name).getD zeroTy).kind,ofL ((defN l T.name).getD zeroTy).name,nv2,kv2]) (nx0 hw hn0 1) (Jd r12) (by rw[r12];rfl) (Ja _);simp only[XZ,simprocAttr,f3,f5,r12,e1,e2,e3,e4,hadd1];exact⟨l.length+1-(i+1),by omega,(hL _ _ _).2 ⟨i+1,_,by omega,f2,f3,f4,rfl,g3,⟨u0,by rw[JR _ _ _ o01,r02]⟩,⟨_,J7 _ _ _ _⟩,⟨u2,by rw[JR _ _ _ o21,r22]⟩,by rw[hlast,if_pos k9];exact hE⟩⟩
  ·have hst:openT l (l.length+1) t=T:=by
    have:=JeV l t (i:=i) (by rw[<-hT];exact k9) (l.length+1-i);rw[show i+(l.length+1-i)=l.length+1 by omega]at this;rw[this,hT]
   simp only[XZ,simprocAttr,f2,f3,f4,f5,r0,l1,hi',r1,r2,k9,d1,d2,d3,d4];exact done hst
 ·have hi':¬(i:Int)<=l.length:=by omega
  have hie:i=l.length+1:=by omega
  simp only[XZ,simprocAttr,f2,f3,f4,f5,r0,l1,hi',r1,r2,d1,d2,d3,d4];exact done (by rw[hT,hie])
theorem roptsC :∀(m:Nat) (ty:Ty),tsz ty<m->∀(P:Pt->Prop) (st:St) (s:Sch) (E e:List V),WF st->SchC P st E s->TyC P st e ty->(∀r,P r->st.row r≠ .none)->s.types.length<=100->cntT ty<1000000->okO ty=true->
  Does (tabT tabD) JcK [.agg E, .agg e] st fun v st'=>Gr st st'/\v= .bool (optsR s.types ty)
 |0,_,h=>absurd h (by omega)
 | m+1, .mk k nm ns ks,hm=>by
   intro P st s E e hw hsch hx hP hl hsz hok;refine JW tabM Jb7 rfl hw fun K fin=> ?_;obtain⟨n0,hn0⟩:=nxE st;have hsch0:=hsch;obtain⟨c,tv,sv,rfl,h1,h2,h3⟩:=hsch;obtain⟨nv0,kv0,es0,rfl,x1,x2,x3,x4⟩:=h1.inv;obtain⟨nv,kv,es,rfl,y1,y2,y3,y4⟩:=hx.inv';have l2:=y2.len;rw[y3]at l2;have cs1:=x1.cells;have cs2:=x1.sc;have cs3:=x2.cells;have cs4:=x2.sc;have cv1:=h2.sc;have cv2:=h3.sc;have ct1:=y1.cells;have ct2:=y1.sc;have ct3:=y2.cells;have ct4:=y2.sc;have hS:=Jjq s.types k nm ns ks;rw[JeO]at hS;rw[Jo1,Bool.and_eq_true,Bool.or_eq_true,decide_eq_true_eq,decide_eq_true_eq]at hok;have hlen:ks.length<1000000:=by have h1:=JdB ks;rw[jg]at hsz;omega
   obtain⟨I,hI⟩:=opE fun fr S=>(Gr st S/\fr 2= .ptr (up 0 n0) 0/\fr 3= .ptr (up 1 n0) 0/\(∃u,S.row (up 0 n0)= .cells u [.int .i64 s.main.kind,ofL s.main.name,nv0,kv0,tv,sv])/\(∃u,S.row (up 1 n0)= .cells u [.int .i64 k,ofL nm,nv,kv]))
   simp only[Qh,XY,simprocAttr];refine kD I ?_ ?_
   ·simp only[XZ,simprocAttr,hn0,cs1,cs2,cs3,cs4,cv1.1,cv1.2,cv2.1,cv2.2,ct1,ct2,ct3,ct4];exact(hI _ _).2 ⟨(Gr.new hw (Ja _)).nn (Ja _),rfl,rfl,⟨_,by simp only[XZ,simprocAttr,hn0];rfl⟩,⟨_,by simp only[XZ,simprocAttr,hn0];rfl⟩⟩
   intro fr S hIf;obtain⟨g0,f2,f3,⟨t0,r0⟩,⟨t1,r1⟩⟩:=(hI _ _).1 hIf;have out:∀b,optsR s.types (.mk k nm ns ks)=b->∀S',Gr S S'->K (.bool b) S':=fun b hb S' g=>fin _ _ (fun r e=>(g0.trans g).same r e) fun _=>by rw[hb]
   have kid:∀{S':St} {i:Nat} (hi:i<ks.length),Gr S S'->∃q o E,iaddrSV 4 kv (.int .i64 i)=some (.ptr q o, .no)/\ldn (S'.row q) o 4=some (.agg E, .no)/\TyC P S' E ks[i]:=fun{S' i} hi g=>by
    have G:=g0.trans g;have hx2:LstAt (TyC P S') P S' kv 4 ks:=⟨es,y2.gr G,y3,fun i a b=>(y4 i a b).gr G⟩
    obtain⟨q,qo,E',a1,a2,a3,a4,hE,e4,a5⟩:=hx2.elem hi;exact⟨q,qo,E',a1,a4,hE⟩
   have PS:∀{S':St},Gr S S'->∀r,P r->S'.row r≠ .none:=fun g r p=>by rw[(g0.trans g).same r (hP r p)];exact hP r p
   obtain⟨J,hJ⟩:=opE fun fr S'=>(Gr S S'/\fr 2= .ptr (up 0 n0) 0/\fr 3= .ptr (up 1 n0) 0/\optsR s.types (.mk k nm ns ks)=ks.any (optsR s.types))
   refine Qc J ?_ ?_
   ·by_cases k6:k=6
    ·have h0:0<ks.length:=hok.1.resolve_left fun h=>h k6;obtain⟨q,o,E',a1,a2,a3⟩:=kid h0 (Gr.refl g0.wf);have a1:iaddrSV 4 kv (.int .i64 0)=some (.ptr q o, .no):=a1;have hd:ks.headD zeroTy=ks[0]:=by cases ks with
      |nil=>simp at h0
      |cons a r=>rfl
     rw[if_pos k6,hd]at hS;rw[Jb];simp only[XY,simprocAttr,f2,f3,r0,r1,k6,cs1,cs2,cs3,cs4,cv1.1,cv1.2,cv2.1,cv2.2,a1,a2];refine JF (ropenC (P:=P) (s:=s) (KN g0.wf S.t) ((hsch0.imp fun r p e=>⟨p,g0.same r e⟩).low S.t) (a3.low S.t) (fun r p=>PS (Gr.refl g0.wf) r p) hl) ?_;rintro _ S2 g2 ⟨e',rfl,he'⟩;obtain⟨nv2,kv2,es2,rfl,w1,w2,w3,w4⟩:=he'.inv;obtain⟨T,hT⟩:∃T,T=openT s.types (s.types.length+1) ks[0]:=⟨_,rfl⟩
     rw[<-hT]at hS⊢;by_cases t6:T.kind=6
     ·rw[decide_eq_true t6,Bool.true_or]at hS;simp only[XZ,simprocAttr,t6,Jw];exact out _ hS _ g2
     ·rw[decide_eq_false t6,Bool.false_or]at hS;simp only[XZ,simprocAttr,t6,Jw];exact(hJ _ _).2 ⟨g2,f2,f3,hS⟩
    ·rw[if_neg k6,Bool.false_or]at hS;rw[Jb];simp only[XZ,simprocAttr,f3,r1,k6,Jw];exact(hJ _ _).2 ⟨Gr.refl g0.wf,f2,f3,hS⟩
   clear f2 f3 hIf hI;intro fr S1 hJf;obtain⟨g1,f2,f3,hS⟩:=(hJ _ _).1 hJf;rw[Jl,Jb];simp only[XY,simprocAttr];obtain⟨L,hL⟩:=loE fun j fr S'=>∃(i:Nat),j+i=ks.length/\fr 2= .ptr (up 0 n0) 0/\fr 3= .ptr (up 1 n0) 0/\fr 5= .int .i64 i/\Gr S S'/\ks.any (optsR s.types)=(ks.drop i).any (optsR s.types);refine JK L ks.length (by omega) ((hL _ _ _).2 ⟨0,by omega,f2,f3,by simp only[XZ,simprocAttr]<;>rfl,g1,rfl⟩) ?_;clear f2 f3;intro j fr S' hLj;obtain⟨i,hj,f2,f3,f5,hg,hrec⟩:=(hL _ _ _).1 hLj;have r0:=hg.cells r0;have r1:=hg.cells r1;by_cases hi:i<ks.length
   ·have hi':(i:Int)<ks.length:=by omega
    have hadd1:IntKind.i64.wrap ((i:Int)+1)=((i+1:Nat):Int):=by rw[Jx (by omega) (by omega)];rfl
    obtain⟨q,o,E',a1,a2,a3⟩:=kid hi hg;have hc1:=q9 hi;have hc2:=jg k nm ns ks;rw[List.drop_eq_getElem_cons hi,List.any_cons]at hrec;simp only[XZ,simprocAttr,f2,f3,f5,r0,r1,l2,hi',cs1,cs2,cs3,cs4,cv1.1,cv1.2,cv2.1,cv2.2,a1,a2];refine JF (roptsC m ks[i] (by have:=jf (k:=k) (n:=nm) (ns:=ns) hi;omega) P _ s _ E' (KN hg.wf S'.t) ((hsch0.imp fun r p e=>⟨p,(g0.trans hg).same r e⟩).low S'.t) (a3.low S'.t) (fun r p=>PS hg r p) hl (by omega) (JbU hok.2 _ (List.getElem_mem hi))) ?_;rintro _ S2 g2 rfl
    cases hb:optsR s.types ks[i]with
    | true=>
      rw[hb,Bool.true_or]at hrec;simp only[XZ,simprocAttr,Jw];exact out _ (by rw[hS,hrec]) _ (hg.trans g2)
    | false=>
      rw[hb,Bool.false_or]at hrec;simp only[XZ,simprocAttr,Jw,f5,hadd1];exact⟨ks.length-(i+1),by omega,(hL _ _ _).2 ⟨i+1,by omega,f2,f3,rfl,hg.trans g2,hrec⟩⟩
   ·have hi':¬(i:Int)<ks.length:=by omega
    rw[List.drop_eq_nil_of_le (by omega)]at hrec;simp only[XZ,simprocAttr,f3,f5,r1,l2,hi'];exact out _ (by rw[hS,hrec];rfl) _ hg
theorem JjH (l:List Sg)(f:Sg):sgTys (l++[f])=sgTys l++(f.params++[f.result]):=by unfold sgTys;simp
theorem Ja2 :∀(l:List Sg),(∀f∈l,f.params.length<=100)->(sgTys l).length<=101*l.length
 |[],_=>Nat.zero_le _
 | f::l,h=>by
   have ih:=Ja2 l fun g hg=>h g (List.mem_cons_of_mem _ hg);have:=h f (by simp);have e:(sgTys (f::l)).length=f.params.length+1+(sgTys l).length:=by unfold sgTys;simp;omega
   rw[e,List.length_cons];omega
theorem rallC {P Q:Pt->Prop}{st:St}{e:List V}{s:Sch}(hw:WF st)(h:SchC P st e s)(hl1:s.types.length<=1000)(hl2:s.sigs.length<=1000)(hl3:∀f∈s.sigs,f.params.length<=100)(hQ:∀r,P r->Q r)(hN:∀r,st.row r= .none->Q r):
  Does (tabT tabD) Jdm [.agg e] st fun v' st'=>Gr st st'/\LstAt (TyC Q st') Q st' v' 4 (everyS s):=by
 refine JW tabM JcJ rfl hw fun K fin=> ?_;obtain⟨n,hn0⟩:=nxE st;obtain⟨c,tv,sv,rfl,h1,h2,h3⟩:=h;obtain⟨M,hM⟩:∃M,M=s.main:=⟨_,rfl⟩
 obtain⟨l,hl⟩:∃l,l=s.types:=⟨_,rfl⟩
 obtain⟨fs,hfs⟩:∃l,l=s.sigs:=⟨_,rfl⟩
 have hev:everyS s=l.map Prod.snd++[M]++sgTys fs:=by rw[hM,hl,hfs];rfl
 rw[hev]at fin;rw[<-hM]at h1;rw[<-hl]at h2 hl1;rw[<-hfs]at h3 hl2 hl3;obtain⟨nv,kv,es,rfl,x1,x2,x3,x4⟩:=h1.inv;have h1':TyC P st [.int .i64 M.kind,ofL M.name,nv,kv] M:=h1;have l1:=h2.len;have l2:=h3.len;simp only[QC,XY,simprocAttr];rw[Jb];simp only[XY,simprocAttr,hn0,x1.sc,x2.sc,x1.cells,x2.cells,h2.sc.1,h3.sc.1];obtain⟨S0,hS0⟩:=exE (st.new fun t=> .cells t [.int .i64 M.kind,ofL M.name,nv,kv,tv,sv]);have g0:Gr st S0:=by rw[hS0];exact Gr.new hw (Ja _)
 obtain⟨t0,r0⟩:∃t,S0.row (up 0 n)= .cells t [.int .i64 M.kind,ofL M.name,nv,kv,tv,sv]:=⟨_,by rw[hS0];simp only[XZ,simprocAttr,hn0];rfl⟩
 rw[<-hS0];clear hS0;have hM0:TyC P S0 [.int .i64 M.kind,ofL M.name,nv,kv] M:=h1'.gr g0;have h2:LstAt (NmC P S0) P S0 tv 5 l:=h2.imp (fun e x h=>h.imp fun r p e=>⟨p,g0.same r e⟩) fun r p e=>⟨p,g0.same r e⟩
 have h3:LstAt (SgC P S0) P S0 sv 6 fs:=h3.imp (fun e x h=>h.imp fun r p e=>⟨p,g0.same r e⟩) fun r p e=>⟨p,g0.same r e⟩
 have hN:∀r,S0.row r= .none->Q r:=fun r h=>hN r (Ch.fresh (Ch.of (fun _=>False) g0) h);have c1:=x1.cells;have c2:=x1.sc;have c3:=x2.cells;have c4:=x2.sc;rw[Jb];simp only[XY,simprocAttr];obtain⟨J,hJ⟩:=opE fun fr S=>(∃v,fr 1= .ptr (up 0 n) 0/\fr 3=v/\Gr S0 S/\TysF P S0 S v (l.map Prod.snd))
 refine Qc J ?_ ?_
 ·rw[Jb];simp only[XY,simprocAttr];obtain⟨I,hI⟩:=loE fun j fr S=>∃(i:Nat) (v:V),j+i=l.length/\fr 1= .ptr (up 0 n) 0/\fr 3=v/\fr 4= .int .i64 i/\Gr S0 S/\TysF P S0 S v ((l.take i).map Prod.snd);refine JK I l.length (by omega) ((hI _ _ _).2 ⟨0, .snil,by omega,rfl,rfl,by simp only[XZ,simprocAttr]<;>rfl,Gr.refl g0.wf,TysF.nil _ _ _⟩) ?_;intro j fr S hIj;obtain⟨i,v,hj,f1,f3,f4,hg,hv⟩:=(hI _ _ _).1 hIj;have rS:=hg.cells r0;by_cases hi:i<l.length
  ·have hi':(i:Int)<l.length:=by omega
   obtain⟨r,q,nv1,kv1,a1,a3,a4,hty,d1,d2,d3,d4⟩:=JeH h2 (fun r e=>hg.same r e) hi;have a6:=qH (a:=1) (b:=4) a4;have a6:ldn (S.row r) (q+1) 4=some (.agg [.int .i64 l[i].2.kind,ofL l[i].2.name,nv1,kv1], .no):=a6;have wS:=hg.wf;obtain⟨nS,hnS⟩:=nxE S;have hadd1:IntKind.i64.wrap ((i:Int)+1)=((i+1:Nat):Int):=by rw[Jx (by omega) (by omega)];rfl
   have htk:(l.take (i+1)).map Prod.snd=(l.take i).map Prod.snd++[l[i].2]:=by rw[List.take_succ_eq_append_getElem hi,List.map_append];rfl
   obtain⟨T,hT⟩:∃T,T=l[i].2:=⟨_,rfl⟩
   rw[<-hT]at hty htk a6;simp only[XZ,simprocAttr,f1,f3,f4,rS,l1,hi',a1,a6,hnS,d1,d2,d3,d4];have gn:Gr S (S.new fun t=> .cells t [.int .i64 T.kind,ofL T.name,nv1,kv1]):=Gr.new wS (Ja _);refine JdI (ts':=[T]) (hg.trans gn) (hv.gr gn) (Jky hnS hty.four) rfl (fun i a b=>by
    have:i=0:=by simpa using a
    subst this;exact hty) (by simp) (by simp;omega) ?_
   intro S2 v2 g2 h5 rv kp;rw[<-htk]at h5;simp only[XZ,simprocAttr,f4,hadd1];exact⟨l.length-(i+1),by omega,(hI _ _ _).2 ⟨i+1,v2,by omega,f1,rfl,rfl,g2,h5⟩⟩
  ·have hi':¬(i:Int)<l.length:=by omega
   simp only[XZ,simprocAttr,f1,f4,rS,l1,hi'];rw[List.take_of_length_le (by omega)]at hv;exact(hJ _ _).2 ⟨v,f1,f3,hg,hv⟩
 intro fr S hJf;obtain⟨v,f1,f3,hg,hv⟩:=(hJ _ _).1 hJf;have r1:=hg.cells r0;have wS:=hg.wf;obtain⟨nS,hnS⟩:=nxE S;rw[Jb];simp only[XY,simprocAttr,f1,f3,r1,hnS,c1,c2,c3,c4];have gn:Gr S (S.new fun t=> .cells t [.int .i64 M.kind,ofL M.name,nv,kv]):=Gr.new wS (Ja _);refine JdI (ts':=[M]) (hg.trans gn) (hv.gr gn) (Jky hnS hM0.four) rfl (fun i a b=>by
  have:i=0:=by simpa using a
  subst this;exact hM0) (by simp) (by simp;omega) ?_
 intro S2 v2 g2 h5 _ _;simp only[XY,simprocAttr];obtain⟨J2,hJ2⟩:=opE fun fr S=>(∃v,fr 3=v/\Gr S0 S/\TysF P S0 S v (l.map Prod.snd++[M]++sgTys fs))
 refine Qc J2 ?_ ?_
 ·rw[Jb];simp only[XY,simprocAttr];obtain⟨I,hI⟩:=loE fun j fr S=>∃(i:Nat) (v:V),j+i=fs.length/\fr 1= .ptr (up 0 n) 0/\fr 3=v/\fr 5= .int .i64 i/\Gr S0 S/\TysF P S0 S v (l.map Prod.snd++[M]++sgTys (fs.take i));refine JK I fs.length (by omega) ((hI _ _ _).2 ⟨0,v2,by omega,f1,rfl,by simp only[XZ,simprocAttr]<;>rfl,g2,by rw[List.take_zero];unfold sgTys;simpa using h5⟩) ?_;clear f1 f3;intro j fr S hIj;obtain⟨i,v,hj,f1,f3,f5,hg,hv⟩:=(hI _ _ _).1 hIj;have rS:=hg.cells r0;by_cases hi:i<fs.length
  ·have hi':(i:Int)<fs.length:=by omega
   obtain⟨r,q,pv,nv1,kv1,a1,a3,a4,⟨ep,p1,p2,p3⟩,hres,⟨d5,d6⟩,d1,d2,d3,d4⟩:=Jma h3 (fun r e=>hg.same r e) hi;have hadd1:IntKind.i64.wrap ((i:Int)+1)=((i+1:Nat):Int):=by rw[Jx (by omega) (by omega)];rfl
   obtain⟨f,hf⟩:∃f,f=fs[i]:=⟨_,rfl⟩
   have htk:sgTys (fs.take (i+1))=sgTys (fs.take i)++(f.params++[f.result]):=by rw[List.take_succ_eq_append_getElem hi,JjH,hf]
   have hfl:=hl3 f (by rw[hf];exact List.getElem_mem hi);have htl:=Ja2 (fs.take i) fun g hg=>hl3 g (List.mem_of_mem_take hg);rw[List.length_take]at htl;rw[<-hf]at a4 hres p2 p3;have a5:=Jak a4 (j:=1) (by decide) rfl;rw[Jl,Jb];simp only[XY,simprocAttr,f1,f5,rS,l2,hi'];rw[Jl];simp only[XY,simprocAttr];rw[Jb];simp only[XY,simprocAttr,f1,f3,f5,rS,a1,a5];refine JdI (ts':=f.params) hg hv (p1.gr hg) p2 p3 (by omega) (by simp;omega) ?_;intro S2 v2 g2 h5 rv kp;have r2:=g2.cells r0;obtain⟨r',q',pv',nv2,kv2,b1,b3,b4,_,hres2,_,e1,e2,e3,e4⟩:=Jma h3 (fun r e=>g2.same r e) hi;rw[<-hf]at b4 hres2;have b6:=qH (a:=2) (b:=4) b4;have b6:ldn (S2.row r') (q'+2) 4=some (.agg [.int .i64 f.result.kind,ofL f.result.name,nv2,kv2], .no):=b6;have w2:=g2.wf;obtain⟨n2,hn2⟩:=nxE S2;simp only[XY,simprocAttr,f1,f5,r2,b1,b6,hn2,e1,e2,e3,e4];have gn:Gr S2 (S2.new fun t=> .cells t [.int .i64 f.result.kind,ofL f.result.name,nv2,kv2]):=Gr.new w2 (Ja _);refine JdI (ts':=[f.result]) (g2.trans gn) (h5.gr gn) (Jky hn2 hres2.four) rfl (fun i a b=>by
    have:i=0:=by simpa using a
    subst this;exact hres2) (by simp) (by simp;omega) ?_
   intro S3 v3 g3 h6 _ _;have h6:TysF P S0 S3 v3 (l.map Prod.snd++[M]++sgTys (fs.take (i+1))):=by rw[htk];simpa using h6
   simp only[XZ,simprocAttr,f5,hadd1];exact⟨fs.length-(i+1),by omega,(hI _ _ _).2 ⟨i+1,v3,by omega,f1,rfl,rfl,g3,h6⟩⟩
  ·have hi':¬(i:Int)<fs.length:=by omega
   simp only[XZ,simprocAttr,f1,f5,rS,l2,hi'];rw[List.take_of_length_le (by omega)]at hv;exact(hJ2 _ _).2 ⟨v,f3,hg,hv⟩
 intro fr S hJf;obtain⟨v,f3,hg,hv⟩:=(hJ2 _ _).1 hJf;simp only[XZ,simprocAttr,f3];exact fin _ _ (fun r e=>(g0.trans hg).same r e) fun _=>hv.lst hg hQ hN
theorem JjI {P:Pt->Prop}{st:St}{v:V}{ns:List Str}(h:SlAt P st v 1 (strs ns)){i:Nat}(hi:i<ns.length):∃r o,iaddrSV 1 v (.int .i64 i)=some (.ptr r o, .no)/\ld1 (st.row r) o=some (ofL ns[i], .no):=by
 obtain⟨r,q,a,b,c,d⟩:=SlAt.one (xs:=ns.map ofL) h (i:=i) (by simpa using hi);exact⟨r,q,a,by rw[d];simp⟩
theorem JqR {α:Type}{a b:List α}{i:Nat}(ha:i<a.length)(hb:i<b.length)(h:a[i]≠b[i]):a≠b:=fun e=>h (by subst e;rfl)
theorem sameD (m:Nat):∀(X Y:Ty),tsz X<m->fitT X=true->fitT Y=true->∀{P Q:Pt->Prop} {st:St} {e1 e2:List V},WF st->TyC P st e1 X->TyC Q st e2 Y->
  Does (tabT tabD) JcL [.agg e1, .agg e2] st fun v S=>Gr st S/\∃b,v= .bool b/\(b=true<->X=Y):=by
 induction m with
 |zero=>intro X Y h;exact absurd h (Nat.not_lt_zero _)
 |succ m ih=>
 intro X Y hX hf hf' P Q st e1 e2 hw h1 h2;obtain⟨k,n,ns,ks⟩:=X;obtain⟨k',n',ns',ks'⟩:=Y;obtain⟨f1,f2,f3⟩:=Jhv hf;obtain⟨v4,v5,v6⟩:=Jhv hf';refine JA Jb8 rfl ?_;obtain⟨n0,hn0⟩:=nxE st;obtain⟨nv,kv,es,rfl,x1,x2,x3,x4⟩:=h1.inv';obtain⟨mv,lv,fs,rfl,y1,y2,y3,y4⟩:=h2.inv';have c1:=x1.cells;have c2:=x1.sc;have c3:=x2.cells;have c4:=x2.sc;have d1:=y1.cells;have d2:=y1.sc;have d3:=y2.cells;have d4:=y2.sc;have xl1:=x1.len;have xl2:=x2.len;have yl1:=y1.len;have yl2:=y2.len;rw[QW]at xl1 yl1;rw[x3]at xl2;rw[y3]at yl2;obtain⟨p2,hp2⟩:=exE (up 0 n0);obtain⟨p3,hp3⟩:=exE (up 1 n0);simp only[Qj,XY,simprocAttr];rw[Jb];simp only[XY,simprocAttr,hn0,c1,c2,c3,c4,d1,d2,d3,d4];rw[<-hp2,<-hp3];obtain⟨S0,hS0⟩:=exE ((st.new fun t=> .cells t [.int .i64 k,ofL n,nv,kv]).new fun t=> .cells t [.int .i64 k',ofL n',mv,lv]);have G0:Gr st S0:=by rw[hS0];exact(Gr.new hw (Ja _)).nn (Ja _)
 obtain⟨t2,r2⟩:∃t,S0.row p2= .cells t [.int .i64 k,ofL n,nv,kv]:=⟨_,by rw[hS0,hp2];simp only[XZ,simprocAttr,hn0];rfl⟩
 obtain⟨t3,r3⟩:∃t,S0.row p3= .cells t [.int .i64 k',ofL n',mv,lv]:=⟨_,by rw[hS0,hp3];simp only[XZ,simprocAttr,hn0];rfl⟩
 rw[<-hS0];clear hS0;have nope:∀{S:St},Gr st S->¬(Ty.mk k n ns ks=Ty.mk k' n' ns' ks')->Gr st S/\∃b,V.bool false= .bool b/\(b=true<->Ty.mk k n ns ks=Ty.mk k' n' ns' ks'):=fun g h=>⟨g,false,rfl,fun e=>(by cases e),fun e=>absurd e h⟩
 by_cases hk:k=k';rotate_left
 ·simp only[XZ,simprocAttr,r2,r3,hk];exact nope G0 fun e=>hk (by injection e)
 subst hk;by_cases hn:n=n';rotate_left
 ·simp only[XZ,simprocAttr,r2,r3,hn];exact nope G0 fun e=>hn (by injection e)
 subst hn;by_cases hl:ns.length=ns'.length;rotate_left
 ·have hl':((ns.length:Int)=(ns'.length:Int))=False:=eq_false (by omega);simp only[XZ,simprocAttr,r2,r3,xl1,yl1,hl'];exact nope G0 fun e=>hl (by injection e with _ _ e;rw[e])
 have hl':((ns.length:Int)=(ns'.length:Int))=True:=eq_true (by omega);by_cases hm:ks.length=ks'.length;rotate_left
 ·have hm':((ks.length:Int)=(ks'.length:Int))=False:=eq_false (by omega);simp only[XZ,simprocAttr,r2,r3,xl1,yl1,xl2,yl2,hl',hm'];exact nope G0 fun e=>hm (by injection e with _ _ _ e;rw[e])
 have hm':((ks.length:Int)=(ks'.length:Int))=True:=eq_true (by omega);rw[Jl,Jb];simp only[XY,simprocAttr,r2,r3,xl1,xl2,yl1,yl2,hl',hm'];have x10:=x1.gr G0;have y10:=y1.gr G0;refine Qc (fun fr S=>S=S0/\fr 2= .ptr p2 0/\fr 3= .ptr p3 0/\ns=ns') ?_ ?_
 ·rw[Jb];simp only[XY,simprocAttr];obtain⟨L,hL⟩:=loE fun j fr S=>∃(i:Nat),j+i=ns.length/\fr 2= .ptr p2 0/\fr 3= .ptr p3 0/\fr 5= .int .i64 i/\S=S0/\∀q (h:q<ns.length) (h':q<ns'.length),q<i->ns[q]=ns'[q];refine JK L ns.length (by omega) ((hL _ _ _).2 ⟨0,by omega,rfl,rfl,by simp only[XZ,simprocAttr]<;>rfl,rfl,fun q _ _ h=>absurd h (by omega)⟩) ?_;intro j fr S hLj;obtain⟨i,hj,f2,f3,f5,rfl,heq⟩:=(hL _ _ _).1 hLj;by_cases hi:i<ns.length
  ·have hi':(i:Int)<ns.length:=by omega
   have hadd1:IntKind.i64.wrap ((i:Int)+1)=((i+1:Nat):Int):=by rw[Jx (by omega) (by omega)];rfl
   obtain⟨r,q,a1,a4⟩:=JjI x10 hi;obtain⟨r',q',b1,b4⟩:=JjI y10 (i:=i) (by omega);by_cases he:ns[i]=ns'[i]'(by omega)
   ·simp only[XZ,simprocAttr,f2,f3,f5,r2,r3,xl1,hi',a1,a4,b1,b4,hadd1,Jw,he];exact⟨j-1,by omega,(hL _ _ _).2 ⟨i+1,by omega,f2,f3,rfl,rfl,fun q h h' hq=>by
     by_cases e:q=i
     ·subst e;exact he
     ·exact heq q h h' (by omega)⟩⟩
   ·simp only[XZ,simprocAttr,f2,f3,f5,r2,r3,xl1,hi',a1,a4,b1,b4,Jw,he];exact nope G0 fun e=>by injection e with _ _ e;exact JqR hi (by omega) he e
  ·have hi':¬(i:Int)<ns.length:=by omega
   simp only[XZ,simprocAttr,f2,f3,f5,r2,r3,xl1,hi'];exact List.ext_getElem hl fun q h h'=>heq q h h' (by omega)
 rintro fr S ⟨rfl,f2,f3,hns⟩;refine Qc (fun fr S'=>Gr S S'/\ks=ks') ?_ fun fr S' h=>by
  simp only[XZ,simprocAttr];exact⟨G0.trans h.1,true,rfl,fun _=>by rw[hns,h.2],fun _=>rfl⟩
 rw[Jb];simp only[XY,simprocAttr];obtain⟨L,hL⟩:=loE fun j fr S'=>∃(i:Nat),j+i=ks.length/\fr 2= .ptr p2 0/\fr 3= .ptr p3 0/\fr 6= .int .i64 i/\Gr S S'/\∀q (h:q<ks.length) (h':q<ks'.length),q<i->ks[q]=ks'[q];refine JK L ks.length (by omega) ((hL _ _ _).2 ⟨0,by omega,f2,f3,by simp only[XZ,simprocAttr]<;>rfl,Gr.refl G0.wf,fun q _ _ h=>absurd h (by omega)⟩) ?_;intro j fr S' hLj;obtain⟨i,hj,f2,f3,f6,g,heq⟩:=(hL _ _ _).1 hLj;have r2:=g.cells r2;have r3:=g.cells r3;by_cases hi:i<ks.length
 ·have hi':(i:Int)<ks.length:=by omega
  have hadd1:IntKind.i64.wrap ((i:Int)+1)=((i+1:Nat):Int):=by rw[Jx (by omega) (by omega)];rfl
  have hie:i<es.length:=by omega
  have hif:i<fs.length:=by omega
  obtain⟨r,q,a1,a2,a3,a4,a5⟩:=((x2.gr G0).gr g).elem hie;obtain⟨r',q',b1,b2,b3,b4,b5⟩:=((y2.gr G0).gr g).elem hif;rw[Jl,Jb];simp only[XY,simprocAttr,f2,f6,r2,xl2,hi'];rw[Jl];simp only[XY,simprocAttr];rw[Jb];simp only[XY,simprocAttr,f2,f3,f6,r2,r3,a1,a4,b1,b4];refine JF (ih ks[i] (ks'[i]'(by omega)) (by have:=jf (k:=k) (n:=n) (ns:=ns) hi;omega) (JcA (by assumption) i hi) (JcA v6 i (by omega)) (KN g.wf _) (((x4 i hie hi).gr (G0.trans g)).low _) (((y4 i hif (by omega)).gr (G0.trans g)).low _)) ?_;rintro _ Se ge ⟨b,rfl,hb⟩
  cases b with
  | true=>
    simp only[XZ,simprocAttr,f6,hadd1,Jw];exact⟨j-1,by omega,(hL _ _ _).2 ⟨i+1,by omega,f2,f3,rfl,g.trans ge,fun q h h' hq=>by
     by_cases e:q=i
     ·subst e;exact hb.1 rfl
     ·exact heq q h h' (by omega)⟩⟩
  | false=>
    simp only[XZ,simprocAttr,Jw];exact nope (G0.trans (g.trans ge)) fun e=>by
     injection e with _ _ _ e;have:=hb.2 (by subst e;rfl)
     cases this
 ·have hi':¬(i:Int)<ks.length:=by omega
  simp only[XZ,simprocAttr,f2,f6,r2,xl2,hi'];exact⟨g,List.ext_getElem hm fun q h h'=>heq q h h' (by omega)⟩
theorem JeW (has:Str->Bool)(t:Ty)(deep:Nat):∀(l:List Ty) (met:Nat),maysS has (l++[t]) deep met=if(maysS has l deep met).1≠0 then maysS has l deep met else mayS has t deep (maysS has l deep met).2
 | [],met=>by
   by_cases h:(mayS has t deep met).1=0
   ·simp only[List.nil_append,Kv,Yh,h,ne_eq,not_true_eq_false,if_false];exact Prod.ext h.symm rfl
   ·simp only[List.nil_append,Kv,Yh,h,ne_eq,not_true_eq_false,not_false_eq_true,if_false,if_true]
 | a::l,met=>by
   by_cases h:(mayS has a deep met).1=0
   ·simp only[List.cons_append,Kv,h,ne_eq,not_true_eq_false,if_false];exact JeW has t deep l _
   ·simp only[List.cons_append,Kv,h,ne_eq,not_false_eq_true,if_true]
theorem JgO (has:Str->Bool):∀(p:Option Str) (fs:List Sg) (met:Nat),(sigsS has p fs met).1=0->∀f∈fs,okOs (f.params++[f.result])=true
 |p,[],met,h=>fun f h=>by cases h
 | p,f::r,met,h=>by
   rw[kq]at h
   split at h
   ·cases h
   split at h
   ·cases h
   split at h
   ·cases h
   split at h
   ·rename_i c4;exact absurd h c4
   rename_i c4
   intro g hg;rcases List.mem_cons.1 hg with rfl|hg
   ·exact Jaj has _ _ _ (by simpa using c4)
   ·exact JgO has (some f.name) r _ h g hg
theorem Jpb {p:Option Str}{n:Str}{r:List Str}(h1:badName n=false)(h2:notLess p n=false):typesS p (n::r)=typesS (some n) r:=by
 rw[typesS,if_neg (by rw[h1];simp),if_neg (by rw[h2];simp)]
theorem rcheckP {P:Pt->Prop}{st:St}{e1:List V}{s:Sch}(hw:WF st)(h:SchC P st e1 s)(hP:∀r,P r->st.row r≠ .none):
  Does (tabT tabD) jk [.agg e1] st fun v' st'=>Gr st st'/\v'= .int .i64 (refS s):=by
 refine JW tabM Ja9 rfl hw fun K fin=> ?_;obtain⟨n,hn0⟩:=nxE st;have hev:=JmQ s;have hsch:=h;obtain⟨c,tv,sv,rfl,h1,h2,h3⟩:=h;obtain⟨M,hM⟩:∃M,M=s.main:=⟨_,rfl⟩
 obtain⟨l,hll⟩:∃l,l=s.types:=⟨_,rfl⟩
 obtain⟨fs,hfs⟩:∃l,l=s.sigs:=⟨_,rfl⟩
 have hchk:refS s=
  if 12<l.length\/12<fs.length then 3 else
  if typesS none (l.map Prod.fst)≠0 then typesS none (l.map Prod.fst)else
  if(maysS (hasN l) (l.map Prod.snd) 1 0).1≠0 then(maysS (hasN l) (l.map Prod.snd) 1 0).1 else
  if(mayS (hasN l) M 1 (maysS (hasN l) (l.map Prod.snd) 1 0).2).1≠0 then(mayS (hasN l) M 1 (maysS (hasN l) (l.map Prod.snd) 1 0).2).1 else
  if(sigsS (hasN l) none fs (mayS (hasN l) M 1 (maysS (hasN l) (l.map Prod.snd) 1 0).2).2).1≠0 then(sigsS (hasN l) none fs (mayS (hasN l) M 1 (maysS (hasN l) (l.map Prod.snd) 1 0).2).2).1 else
  if(finR l (l.length+1) []).length≠l.length then 14 else
  if(everyS s).any (optsR l)then 17 else 0:=by rw[hll,hM,hfs];rfl
 rw[<-hM]at h1;rw[<-hll]at h2;rw[<-hfs]at h3;rw[<-hll,<-hM,<-hfs]at hev;have hM0:=h1;obtain⟨nv,kv,es,rfl,x1,x2,x3,x4⟩:=h1.inv;have l1:=h2.len;have l2:=h3.len;have cs1:=x1.cells;have cs2:=x1.sc;have cs3:=x2.cells;have cs4:=x2.sc;have cv1:=h2.sc;have cv2:=h3.sc;simp only[KX,XY,simprocAttr];rw[Jb];simp only[XY,simprocAttr,hn0,cs1,cs2,cs3,cs4,cv1.1,cv1.2,cv2.1,cv2.2];obtain⟨S,hS⟩:=exE (st.new fun t=> .cells t [.int .i64 M.kind,ofL M.name,nv,kv,tv,sv]);have g0:Gr st S:=by rw[hS];exact Gr.new hw (Ja _)
 obtain⟨t0,r0⟩:∃t,S.row (up 0 n)= .cells t [.int .i64 M.kind,ofL M.name,nv,kv,tv,sv]:=⟨_,by rw[hS];simp only[XZ,simprocAttr,hn0];rfl⟩
 rw[<-hS];clear hS;by_cases b1:12<l.length
 ·have b1':(12:Int)<l.length:=by omega
  rw[Jl,Jb];simp only[XZ,simprocAttr,r0,l1,b1'];refine fin _ _ (fun r e=>g0.same r e) fun _=> ?_;rw[hchk,if_pos (.inl b1)]
 have b1':¬(12:Int)<l.length:=by omega
 by_cases b2:12<fs.length
 ·have b2':(12:Int)<fs.length:=by omega
  rw[Jl,Jb];simp only[XZ,simprocAttr,r0,l1,l2,b1',b2'];refine fin _ _ (fun r e=>g0.same r e) fun _=> ?_;rw[hchk,if_pos (.inr b2)]
 have b2':¬(12:Int)<fs.length:=by omega
 rw[if_neg (fun h=>by rcases h with h|h;exact b1 h;exact b2 h)]at hchk;rw[Jl,Jb];simp only[XY,simprocAttr,r0,l1,l2,b1',b2'];obtain⟨J0,hJ0⟩:=opE fun fr S'=>(S=S'/\fr 1= .ptr (up 0 n) 0/\typesS none (l.map Prod.fst)=0)
 refine Qc J0 ?_ ?_
 ·rw[Jb];simp only[XY,simprocAttr];obtain⟨I,hI⟩:=loE fun j fr S'=>∃(i:Nat) (p:Option Str),j+i=l.length/\fr 1= .ptr (up 0 n) 0/\fr 3= .int .i64 i/\S=S'/\typesS none (l.map Prod.fst)=typesS p ((l.map Prod.fst).drop i)/\(p=if i=0 then none else(l.map Prod.fst)[i-1]?);refine JK I l.length (by omega) ((hI _ _ _).2 ⟨0,none,by omega,rfl,by simp only[XZ,simprocAttr]<;>rfl,rfl,rfl,rfl⟩) ?_;intro j fr S' hIj;obtain⟨i,p,hj,f1,f3,rfl,hrec,hp⟩:=(hI _ _ _).1 hIj;have kS:∀r,st.row r≠ .none->S.row r=st.row r:=fun r e=>g0.same r e;by_cases hi:i<l.length
  ·have hi':(i:Int)<l.length:=by omega
   obtain⟨r,q,nv1,kv1,a1,a3,a4,_⟩:=JeH h2 kS hi;have a5:=Jak a4 (j:=0) (by decide) rfl;have a5:ld1 (S.row r) q=some (ofL l[i].1, .no):=a5;obtain⟨N,hN⟩:∃N,N=l[i].1:=⟨_,rfl⟩
   rw[<-hN]at a5;have hd:(l.map Prod.fst).drop i=N::(l.map Prod.fst).drop (i+1):=by
    rw[List.drop_eq_getElem_cons (by simpa using hi),List.getElem_map,<-hN]
   rw[hd]at hrec;have hadd1:IntKind.i64.wrap ((i:Int)+1)=((i+1:Nat):Int):=by rw[Jx (by omega) (by omega)];rfl
   have bad:badName N=true->typesS none (l.map Prod.fst)=15:=fun hb=>by rw[hrec,typesS,if_pos hb]
   have hbl:=JqG N;simp only[XZ,simprocAttr,f1,f3,r0,l1,hi',a1,a5];refine Je (ridentC N _) ?_;rintro _ _ ⟨rfl,rfl⟩
   cases hid:identB N with
   | false=>
     have hv:=bad (by rw[hbl,hid];rfl);simp only[XZ,simprocAttr];refine fin _ _ (fun r e=>g0.same r e) fun _=> ?_;rw[hchk,hv];rfl
   | true=>
     simp only[XZ,simprocAttr,f1,f3,r0,a1,a5];refine Je (rwordC N _) ?_;rintro _ _ ⟨rfl,rfl⟩
     cases hwd:wordL.contains N with
     | true=>
       have hv:=bad (by rw[hbl,hid,hwd];rfl);simp only[XZ,simprocAttr];refine fin _ _ (fun r e=>g0.same r e) fun _=> ?_;rw[hchk,hv];rfl
     | false=>
       have hbn:badName N=false:=by rw[hbl,hid,hwd];rfl
       have next:∀{fr':Fr},notLess p N=false->fr' 1= .ptr (up 0 n) 0->fr' 3= .int .i64 ((i+1:Nat):Int)->∃j',j'<j/\I j' fr' S:=fun{fr'} hl e1 e3=>
        ⟨l.length-(i+1),by omega,(hI _ _ _).2 ⟨i+1,some N,by omega,e1,e3,rfl,by rw[hrec,Jpb hbn hl],by rw[if_neg (by omega)];simp[hi,hN]⟩⟩
       by_cases h0:i=0
       ·have h0':¬(0:Int)<(i:Int):=by omega
        simp only[XZ,simprocAttr,f3,h0',hadd1,Jw];exact next (by rw[hp,if_pos h0];rfl) f1 rfl
       ·have h0':(0:Int)<(i:Int):=by omega
        have hsub:IntKind.i64.wrap ((i:Int)-1)=((i-1:Nat):Int):=by rw[Jx (by omega) (by omega)];omega
        have hi1:i-1<l.length:=by omega
        obtain⟨r',q',nv2,kv2,b1,b3,b4,_⟩:=JeH h2 kS hi1;have b5:=Jak b4 (j:=0) (by decide) rfl;have b5:ld1 (S.row r') q'=some (ofL l[i-1].1, .no):=b5;have hp':p=some l[i-1].1:=by rw[hp,if_neg h0,List.getElem?_map,List.getElem?_eq_getElem hi1];rfl
        cases hl:Op.bytesLess l[i-1].1 N with
        | false=>
          have hv:typesS none (l.map Prod.fst)=6:=by rw[hrec,typesS,if_neg (by rw[hbn];simp),if_pos (by rw[hp',notLess,hl];rfl)]
          simp only[XZ,simprocAttr,f1,f3,r0,h0',hsub,a1,a5,b1,b5,kI,hl,Jw];refine fin _ _ (fun r e=>g0.same r e) fun _=> ?_;rw[hchk,hv];rfl
        | true=>
          simp only[XZ,simprocAttr,f1,f3,r0,h0',hsub,a1,a5,b1,b5,kI,hl,Jw,hadd1];exact next (by rw[hp',notLess,hl];rfl) f1 rfl
  ·have hi':¬(i:Int)<l.length:=by omega
   have hv:typesS none (l.map Prod.fst)=0:=by rw[hrec,List.drop_eq_nil_of_le (by simp;omega),typesS]
   simp only[XZ,simprocAttr,f1,f3,r0,l1,hi'];exact(hJ0 _ _).2 ⟨rfl,f1,hv⟩
 intro fr S' hJf;obtain⟨rfl,f1,ht0⟩:=(hJ0 _ _).1 hJf;rw[if_neg (fun h=>h ht0)]at hchk;have w0:=g0.wf;obtain⟨n2,hn2⟩:=nxE S;rw[Jb];simp only[XY,simprocAttr,f1,r0,hn2,cs1,cs2,cs3,cs4,cv1.1,cv1.2,cv2.1,cv2.2];obtain⟨S3,hS3⟩:=exE (S.new fun t=> .cells t [.int .i64 M.kind,ofL M.name,nv,kv,tv,sv, .int .i64 0]);have g3:Gr S S3:=by rw[hS3];exact Gr.new w0 (Ja _)
 obtain⟨kr,hkr⟩:=exE (up 0 n2);obtain⟨tk,rk⟩:∃u,S3.row kr= .cells u [.int .i64 M.kind,ofL M.name,nv,kv,tv,sv, .int .i64 ((0:Nat):Int)]:=⟨_,by rw[hS3,hkr];simp only[XZ,simprocAttr,hn2];rfl⟩
 have qk2:S.row kr= .none:=by rw[hkr];exact nx0 w0 hn2 0
 rw[<-hS3,<-hkr];clear hS3;have G3:=g0.trans g3;have n0k:up 0 n≠kr:=fun h=>by rw[h,qk2]at r0;cases r0
 have r0:=g3.cells r0;have qk:st.row kr= .none:=Ch.fresh (Ch.of (fun _=>False) g0) qk2;have old_k:∀r,st.row r≠ .none->r≠kr:=fun r e h=>e (by rw[h];exact qk);have sep:∀r,P r->r≠kr:=fun r p=>old_k r (hP r p);have keep:∀{S':St},Ch (fun r=>r=kr) S3 S'->∀r,st.row r≠ .none->S'.row r=st.row r:=fun c r e=>by rw[c.same r (by rw[G3.same r e];exact e) (old_k r e),G3.same r e]
 have kcell:∀{S':St} {p:Pt} {u:Nat} {x:List V},Ch (fun r=>r=kr) S3 S'->S3.row p= .cells u x->p≠kr->S'.row p= .cells u x:=fun c e n=>by rw[c.same _ (Jd e) n,e]
 have hschM:∀{S':St},Ch (fun r=>r=kr) S3 S'->SchC P S' ([.int .i64 M.kind,ofL M.name,nv,kv]++[tv,sv]) s:=fun c=>hsch.imp fun r p e=>⟨p,keep c r e⟩
 have may:∀{S':St} {E:List V} {t:Ty} {met:Nat},Ch (fun r=>r=kr) S3 S'->TyC P S' E t->(∃u,S'.row kr= .cells u [.int .i64 M.kind,ofL M.name,nv,kv,tv,sv, .int .i64 (met:Int)])->met<=400->
   Does (tabT tabD) kz [.ptr kr 0, .agg E, .int .i64 1] S' fun v st'=>Ch (fun r=>r=kr) S' st'/\(∃u,st'.row kr= .cells u [.int .i64 M.kind,ofL M.name,nv,kv,tv,sv, .int .i64 ((mayS (hasN l) t 1 met).2:Nat)])/\v= .int .i64 (mayS (hasN l) t 1 met).1:=fun{S' E t met} c ht hk hm=>by
  rw[hll];exact rmayC _ t (Nat.lt_succ_self _) P S' kr s met _ E 1 c.wf (hschM c) ht sep hk (by decide) hm (by rw[<-hll];omega) (.inr trivial)
 rw[Jb];simp only[XY,simprocAttr];obtain⟨J1,hJ1⟩:=opE fun fr S'=>(fr 1= .ptr (up 0 n) 0/\fr 4= .ptr kr 0/\fr 5= .int .i64 (maysS (hasN l) (l.map Prod.snd) 1 0).1/\Ch (fun r=>r=kr) S3 S'/\∃u,S'.row kr= .cells u [.int .i64 M.kind,ofL M.name,nv,kv,tv,sv, .int .i64 ((maysS (hasN l) (l.map Prod.snd) 1 0).2:Nat)])
 refine Qc J1 ?_ ?_
 ·rw[Jb];simp only[XY,simprocAttr];obtain⟨I,hI⟩:=loE fun j fr S'=>∃(i mi:Nat) (x:Int),j+i=l.length/\fr 1= .ptr (up 0 n) 0/\fr 4= .ptr kr 0/\fr 5= .int .i64 x/\fr 6= .int .i64 i/\Ch (fun r=>r=kr) S3 S'/\(∃u,S'.row kr= .cells u [.int .i64 M.kind,ofL M.name,nv,kv,tv,sv, .int .i64 (mi:Int)])/\maysS (hasN l) (l.map Prod.snd) 1 0=(if x≠0 then(x,mi)else maysS (hasN l) ((l.map Prod.snd).drop i) 1 mi)/\(x=0->mi<=400);refine JK I l.length (by omega) ((hI _ _ _).2 ⟨0,0,0,by omega,f1,rfl,rfl,by simp only[XZ,simprocAttr]<;>rfl,Ch.refl _ g3.wf,⟨tk,rk⟩,by rw[if_neg (fun h=>h rfl)];rfl,fun _=>by omega⟩) ?_;clear f1;intro j fr S2 hIj;obtain⟨i,mi,x,hj,f1,f4,f5,f6,C2,⟨ub,rk2⟩,hrc,hmi⟩:=(hI _ _ _).1 hIj;have r02:=kcell C2 r0 n0k;by_cases hi:i<l.length
  ·have hi':(i:Int)<l.length:=by omega
   by_cases hx:x=0
   ·rw[if_neg (fun h=>h hx),List.drop_eq_getElem_cons (by simpa using hi),Kv,List.getElem_map]at hrc;obtain⟨r,q,nv1,kv1,a1,a3,a4,hty,d1,d2,d3,d4⟩:=JeH h2 (keep C2) hi;have a6:=qH (a:=1) (b:=4) a4;have a6:ldn (S2.row r) (q+1) 4=some (.agg [.int .i64 l[i].2.kind,ofL l[i].2.name,nv1,kv1], .no):=a6;have hadd1:IntKind.i64.wrap ((i:Int)+1)=((i+1:Nat):Int):=by rw[Jx (by omega) (by omega)];rfl
    simp only[XZ,simprocAttr,f1,f4,f5,f6,r02,l1,hi',hx,a1,a6];refine Je (may C2 (hty.imp fun r p e=>⟨p,keep C2 r e⟩) ⟨ub,rk2⟩ (hmi hx)) ?_;rintro _ S4 ⟨c4,⟨u4,rk4⟩,rfl⟩;have C4:=C2.trans c4 fun r w=> .inl w;have hm4:=kn (hasN l) l[i].2 1 mi (hmi hx);simp only[XZ,simprocAttr,f6,hadd1];exact⟨l.length-(i+1),by omega,(hI _ _ _).2 ⟨i+1,_,_,by omega,f1,f4,rfl,rfl,C4,⟨u4,rk4⟩,hrc,hm4.2⟩⟩
   ·rw[if_pos hx]at hrc;simp only[XZ,simprocAttr,f1,f5,f6,r02,l1,hi',hx];exact(hJ1 _ _).2 ⟨f1,f4,by simp only[XZ,simprocAttr,f5,hrc],C2,ub,by rw[hrc];exact rk2⟩
  ·have hi':¬(i:Int)<l.length:=by omega
   have hrc2:maysS (hasN l) (l.map Prod.snd) 1 0=(x,mi):=by
    rw[hrc,List.drop_eq_nil_of_le (by simp;omega),Yh];by_cases hx:x=0
    ·rw[if_neg (fun h=>h hx),hx]
    ·rw[if_pos hx]
   simp only[XZ,simprocAttr,f1,f5,f6,r02,l1,hi'];exact(hJ1 _ _).2 ⟨f1,f4,by simp only[XZ,simprocAttr,f5,hrc2],C2,ub,by rw[hrc2];exact rk2⟩
 clear f1;intro fr S2 hJf;obtain⟨f1,f4,f5,C2,⟨u2,rk2⟩⟩:=(hJ1 _ _).1 hJf;by_cases hm0:(maysS (hasN l) (l.map Prod.snd) 1 0).1=0;rotate_left
 ·rw[Jl,Jb];simp only[XY,simprocAttr,f5,hm0];rw[Jl,Jb];simp only[XZ,simprocAttr,f5,hm0];refine fin _ _ (keep C2) fun _=> ?_;rw[hchk,if_pos hm0]
 rw[if_neg (fun h=>h hm0)]at hchk;rw[hm0]at f5;have hcn:=Jaa (hasN l) (l.map Prod.snd) 1 0 hm0;have hmt:=(jC (hasN l) (l.map Prod.snd) 1 0 (by decide)).2 hm0;have hokT:=Jaj (hasN l) (l.map Prod.snd) 1 0 hm0;obtain⟨m1,hm1⟩:∃m,m=(maysS (hasN l) (l.map Prod.snd) 1 0).2:=⟨_,rfl⟩
 rw[<-hm1]at hchk rk2 hmt hcn;have r02:=kcell C2 r0 n0k;rw[Jl,Jb];simp only[XY,simprocAttr,f5];simp only[XZ,simprocAttr,f1,f4,r02,cs1,cs2,cs3,cs4];refine Je (may C2 (hM0.imp fun r p e=>⟨p,keep C2 r e⟩) ⟨u2,rk2⟩ hmt) ?_;rintro _ S4 ⟨c4,⟨u4,rk4⟩,rfl⟩;have C4:=C2.trans c4 fun r w=> .inl w;by_cases he:(mayS (hasN l) M 1 m1).1=0;rotate_left
 ·simp only[XZ,simprocAttr,he];refine fin _ _ (keep C4) fun _=> ?_;rw[hchk,if_pos he]
 rw[if_neg (fun h=>h he)]at hchk;have hcnM:=Jez (hasN l) M 1 m1 he;have hmM:=(kn (hasN l) M 1 m1 hmt).2 he;have hokM:=JeP (hasN l) M 1 m1 he;obtain⟨m2,hm2⟩:∃m,m=(mayS (hasN l) M 1 m1).2:=⟨_,rfl⟩
 rw[<-hm2]at hchk rk4 hmM hcnM;simp only[XY,simprocAttr];rw[Jl,Jb];simp only[XY,simprocAttr,he];obtain⟨J2,hJ2⟩:=opE fun fr S'=>(fr 1= .ptr (up 0 n) 0/\Ch (fun r=>r=kr) S3 S'/\(sigsS (hasN l) none fs m2).1=0)
 refine Qc J2 ?_ ?_
 ·rw[Jb];simp only[XY,simprocAttr];obtain⟨I,hI⟩:=loE fun j fr S'=>∃(i mi:Nat) (p:Option Str),j+i=fs.length/\fr 1= .ptr (up 0 n) 0/\fr 4= .ptr kr 0/\fr 5= .int .i64 0/\fr 7= .int .i64 i/\Ch (fun r=>r=kr) S3 S'/\(∃u,S'.row kr= .cells u [.int .i64 M.kind,ofL M.name,nv,kv,tv,sv, .int .i64 (mi:Int)])/\mi<=400/\sigsS (hasN l) none fs m2=sigsS (hasN l) p (fs.drop i) mi/\(p=if i=0 then none else(fs.map Sg.name)[i-1]?);refine JK I fs.length (by omega) ((hI _ _ _).2 ⟨0,m2,none,by omega,f1,f4,by simp only[XZ,simprocAttr,he],by simp only[XZ,simprocAttr]<;>rfl,C4,⟨u4,rk4⟩,hmM,rfl,rfl⟩) ?_;clear f1 f4 f5;intro j fr S5 hIj;obtain⟨i,mi,p,hj,f1,f4,f5,f7,C5,⟨u5,rk5⟩,hmi,hrec,hp⟩:=(hI _ _ _).1 hIj;have r05:=kcell C5 r0 n0k;by_cases hi:i<fs.length
  ·have hi':(i:Int)<fs.length:=by omega
   obtain⟨r,q,pv,nv1,kv1,a1,a3,a4,⟨ep,p1,p2,p3⟩,hres,⟨d5,d6⟩,d1,d2,d3,d4⟩:=Jma h3 (keep C5) hi;obtain⟨f,hf⟩:∃f,f=fs[i]:=⟨_,rfl⟩
   have hd:fs.drop i=f::fs.drop (i+1):=by rw[List.drop_eq_getElem_cons hi,<-hf]
   rw[hd,kq]at hrec;rw[<-hf]at a4 hres p2 p3;have w5:=C5.wf;obtain⟨nS,hnS⟩:=nxE S5;have oq:=fun k=>nes (JE w5 hnS a3 k);have hadd1:IntKind.i64.wrap ((i:Int)+1)=((i+1:Nat):Int):=by rw[Jx (by omega) (by omega)];rfl
   have lp:=p1.len;rw[p2]at lp;rw[Jl,Jb];simp only[XY,simprocAttr,f1,f7,r05,l2,hi'];rw[Jl];simp only[XY,simprocAttr];rw[Jb];simp only[XY,simprocAttr,f1,f7,r05,a1,a4,hnS,oq,d1,d2,d3,d4,d5,d6];obtain⟨S6,hS6⟩:=exE ((S5.new fun t=> .cells t [ofL [], .snil, .int .i64 0,ofL [], .snil, .snil]).wr (up 0 nS) S5.t fun u=> .cells u [ofL f.name,pv, .int .i64 f.result.kind,ofL f.result.name,nv1,kv1]);have g6:Gr S5 S6:=by rw[hS6];exact(Gr.refl w5).nw hnS (Ja _) (Ja _)
   obtain⟨t6,r6⟩:∃t,S6.row (up 0 nS)= .cells t [ofL f.name,pv, .int .i64 f.result.kind,ofL f.result.name,nv1,kv1]:=⟨_,by rw[hS6];simp only[XZ,simprocAttr,hnS];rfl⟩
   have n6k:up 0 nS≠kr:=fun h=>by have:=nx0 w5 hnS 0;rw[h,rk5]at this;cases this
   rw[<-hS6];have C6:=C5.gr g6;have rk6:=g6.cells rk5;have r06:=g6.cells r05;have bad:∀S',Ch (fun r=>r=kr) S3 S'->∀x,(sigsS (hasN l) none fs m2).1=x->x≠0->K (.int .i64 x) S':=fun S' c x hx h0=>fin _ _ (keep c) fun _=>by rw[hchk,hx,if_pos h0]
   have hbi:=JmR f.name;rw[Jl,Jb];simp only[XY,simprocAttr,r6];refine Je (ridentC f.name _) ?_;rintro _ _ ⟨rfl,rfl⟩
   cases hid:identB f.name with
   | false=>
     simp only[XZ,simprocAttr];exact bad _ C6 15 (by rw[hrec,if_pos (by rw[hid];rfl)]) (by decide)
   |true=>
   simp only[XY,simprocAttr,r6];refine Je (JmW f.name _) ?_;rintro _ _ ⟨rfl,rfl⟩;rw[<-hbi]
   cases hbb:qZ f.name with
   | true=>
     simp only[XZ,simprocAttr];exact bad _ C6 15 (by rw[hrec,if_pos (by rw[hbb];simp)]) (by decide)
   |false=>
   rw[if_neg (by rw[hid,hbb];simp)]at hrec;simp only[XY,simprocAttr];obtain⟨J3,hJ3⟩:=opE fun fr S'=>(S6=S'/\fr 1= .ptr (up 0 n) 0/\fr 4= .ptr kr 0/\fr 5= .int .i64 0/\fr 7= .int .i64 i/\fr 8= .ptr (up 0 nS) 0/\notLess p f.name=false)
   refine Qc J3 ?_ ?_
   ·by_cases h0:i=0
    ·have h0':¬(0:Int)<(i:Int):=by omega
     rw[Jb];simp only[XZ,simprocAttr,f7,h0',Jw];exact(hJ3 _ _).2 ⟨rfl,f1,f4,f5,f7,rfl,by rw[hp,if_pos h0];rfl⟩
    ·have h0':(0:Int)<(i:Int):=by omega
     have hsub:IntKind.i64.wrap ((i:Int)-1)=((i-1:Nat):Int):=by rw[Jx (by omega) (by omega)];omega
     have hi1:i-1<fs.length:=by omega
     obtain⟨r',q',pv',nv2,kv2,b1,b3,b4,_⟩:=Jma h3 (keep C6) hi1;have b5:=Jak b4 (j:=0) (by decide) rfl;have b5:ld1 (S6.row r') q'=some (ofL fs[i-1].name, .no):=b5;have hp':p=some fs[i-1].name:=by rw[hp,if_neg h0,List.getElem?_map,List.getElem?_eq_getElem hi1];rfl
     cases hl2:Op.bytesLess fs[i-1].name f.name with
     | false=>
       rw[Jb];simp only[XZ,simprocAttr,f1,f7,r06,r6,h0',hsub,b1,b5,kI,hl2,Jw];exact bad _ C6 6 (by rw[hrec,if_pos (by rw[hp',notLess,hl2];rfl)]) (by decide)
     | true=>
       rw[Jb];simp only[XZ,simprocAttr,f1,f7,r06,r6,h0',hsub,b1,b5,kI,hl2,Jw];exact(hJ3 _ _).2 ⟨rfl,f1,f4,f5,f7,rfl,by rw[hp',notLess,hl2];rfl⟩
   clear f1 f4 f5 f7;intro fr S' hJf;obtain⟨rfl,f1,f4,f5,f7,f8,hnl⟩:=(hJ3 _ _).1 hJf;rw[if_neg (by rw[hnl];simp)]at hrec;by_cases h4:4<f.params.length
   ·have h4':(4:Int)<f.params.length:=by omega
    rw[Jl,Jb];simp only[XZ,simprocAttr,f8,r6,lp,h4'];exact bad _ C6 18 (by rw[hrec,if_pos h4]) (by decide)
   have h4':¬(4:Int)<f.params.length:=by omega
   rw[if_neg h4]at hrec;rw[Jl,Jb];simp only[XY,simprocAttr,f8,r6,lp,h4'];have hlst:∀{S':St},Ch (fun r=>r=kr) S3 S'->LstAt (TyC P S') P S' pv 4 f.params:=fun c=>⟨ep,p1.imp fun r p e=>⟨p,keep c r e⟩,p2,fun i a b=>(p3 i a b).imp fun r p e=>⟨p,keep c r e⟩⟩
   obtain⟨J4,hJ4⟩:=opE fun fr S'=>(fr 1= .ptr (up 0 n) 0/\fr 4= .ptr kr 0/\fr 5= .int .i64 (maysS (hasN l) f.params 1 mi).1/\fr 7= .int .i64 i/\fr 8= .ptr (up 0 nS) 0/\Ch (fun r=>r=kr) S3 S'/\(∃u,S'.row (up 0 nS)= .cells u [ofL f.name,pv, .int .i64 f.result.kind,ofL f.result.name,nv1,kv1])/\∃u,S'.row kr= .cells u [.int .i64 M.kind,ofL M.name,nv,kv,tv,sv, .int .i64 ((maysS (hasN l) f.params 1 mi).2:Nat)])
   refine Qc J4 ?_ ?_
   ·rw[Jb];simp only[XY,simprocAttr];obtain⟨I2,hI2⟩:=loE fun j fr S'=>∃(k mk:Nat) (x:Int),j+k=f.params.length/\fr 1= .ptr (up 0 n) 0/\fr 4= .ptr kr 0/\fr 5= .int .i64 x/\fr 7= .int .i64 i/\fr 8= .ptr (up 0 nS) 0/\fr 9= .int .i64 k/\Ch (fun r=>r=kr) S3 S'/\(∃u,S'.row (up 0 nS)= .cells u [ofL f.name,pv, .int .i64 f.result.kind,ofL f.result.name,nv1,kv1])/\(∃u,S'.row kr= .cells u [.int .i64 M.kind,ofL M.name,nv,kv,tv,sv, .int .i64 (mk:Int)])/\maysS (hasN l) f.params 1 mi=(if x≠0 then(x,mk)else maysS (hasN l) (f.params.drop k) 1 mk)/\(x=0->mk<=400);refine JK I2 f.params.length (by omega) ((hI2 _ _ _).2 ⟨0,mi,0,by omega,f1,f4,f5,f7,f8,by simp only[XZ,simprocAttr]<;>rfl,C6,⟨t6,r6⟩,⟨u5,rk6⟩,by rw[if_neg (fun h=>h rfl)];rfl,fun _=>hmi⟩) ?_;clear f1 f4 f5 f7 f8;intro j2 fr S7 hIj;obtain⟨k,mk,x,hjk,f1,f4,f5,f7,f8,f9,C7,⟨t7,r7⟩,⟨u7,rk7⟩,hrc,hmk⟩:=(hI2 _ _ _).1 hIj;by_cases hk:k<f.params.length
    ·have hk':(k:Int)<f.params.length:=by omega
     by_cases hx:x=0
     ·rw[if_neg (fun h=>h hx),List.drop_eq_getElem_cons hk,Kv]at hrc;obtain⟨q2,qo,E',c1,c2,c3,c4,hE,e4,c5⟩:=(hlst C7).elem hk;have haddk:IntKind.i64.wrap ((k:Int)+1)=((k+1:Nat):Int):=by rw[Jx (by omega) (by omega)];rfl
      simp only[XZ,simprocAttr,f4,f5,f8,f9,r7,lp,hk',hx,c1,c4];refine Je (may C7 hE ⟨u7,rk7⟩ (hmk hx)) ?_;rintro _ S8 ⟨c8,⟨u8,rk8⟩,rfl⟩;have C8:=C7.trans c8 fun r w=> .inl w;have r8:S8.row (up 0 nS)= .cells t7 [ofL f.name,pv, .int .i64 f.result.kind,ofL f.result.name,nv1,kv1]:=by rw[c8.same _ (Jd r7) n6k,r7]
      have hm8:=kn (hasN l) f.params[k] 1 mk (hmk hx);simp only[XZ,simprocAttr,f9,haddk];exact⟨f.params.length-(k+1),by omega,(hI2 _ _ _).2 ⟨k+1,_,_,by omega,f1,f4,rfl,f7,f8,rfl,C8,⟨t7,r8⟩,⟨u8,rk8⟩,hrc,hm8.2⟩⟩
     ·rw[if_pos hx]at hrc;simp only[XZ,simprocAttr,f5,f8,f9,r7,lp,hk',hx];exact(hJ4 _ _).2 ⟨f1,f4,by simp only[XZ,simprocAttr,f5,hrc],f7,f8,C7,⟨t7,r7⟩,u7,by rw[hrc];exact rk7⟩
    ·have hk':¬(k:Int)<f.params.length:=by omega
     have hrc2:maysS (hasN l) f.params 1 mi=(x,mk):=by
      rw[hrc,List.drop_eq_nil_of_le (by omega),Yh];by_cases hx:x=0
      ·rw[if_neg (fun h=>h hx),hx]
      ·rw[if_pos hx]
     simp only[XZ,simprocAttr,f5,f8,f9,r7,lp,hk'];exact(hJ4 _ _).2 ⟨f1,f4,by simp only[XZ,simprocAttr,f5,hrc2],f7,f8,C7,⟨t7,r7⟩,u7,by rw[hrc2];exact rk7⟩
   clear f1 f4 f5 f7 f8;intro fr S7 hJf;obtain⟨f1,f4,f5,f7,f8,C7,⟨t7,r7⟩,⟨u7,rk7⟩⟩:=(hJ4 _ _).1 hJf;rw[JeW]at hrec;have hmp:=jC (hasN l) f.params 1 mi hmi;by_cases hp0:(maysS (hasN l) f.params 1 mi).1=0
   ·rw[hp0]at f5;rw[if_neg (show¬(maysS (hasN l) f.params 1 mi).1≠0 from fun h=>h hp0)]at hrec;have hmp2:=hmp.2 hp0;obtain⟨mq,hmq⟩:∃m,m=(maysS (hasN l) f.params 1 mi).2:=⟨_,rfl⟩
    rw[<-hmq]at hrec rk7 hmp2;rw[Jl,Jb];simp only[XY,simprocAttr,f5];simp only[XZ,simprocAttr,f4,f8,r7,d1,d2,d3,d4];refine Je (may C7 (hres.imp fun r p e=>⟨p,keep C7 r e⟩) ⟨u7,rk7⟩ hmp2) ?_;rintro _ S8 ⟨c8,⟨u8,rk8⟩,rfl⟩;have C8:=C7.trans c8 fun r w=> .inl w;have hm8:=kn (hasN l) f.result 1 mq hmp2;by_cases hr0:(mayS (hasN l) f.result 1 mq).1=0
    ·rw[if_neg (fun h=>h hr0)]at hrec;simp only[XZ,simprocAttr,hr0,f7,hadd1];exact⟨fs.length-(i+1),by omega,(hI _ _ _).2 ⟨i+1,_,some f.name,by omega,f1,f4,by simp only[XZ,simprocAttr,hr0],rfl,C8,⟨u8,rk8⟩,hm8.2 hr0,hrec,by rw[if_neg (by omega)];simp[hi,hf]⟩⟩
    ·rw[if_pos hr0]at hrec;simp only[XZ,simprocAttr,hr0];exact bad _ C8 _ (by rw[hrec]) hr0
   ·rw[if_pos (show(maysS (hasN l) f.params 1 mi).1≠0 from hp0),if_pos hp0]at hrec;rw[Jl,Jb];simp only[XZ,simprocAttr,f5,hp0];exact bad _ C7 _ (by rw[hrec]) hp0
  ·have hi':¬(i:Int)<fs.length:=by omega
   rw[List.drop_eq_nil_of_le (by omega),sigsS]at hrec;simp only[XZ,simprocAttr,f1,f7,r05,l2,hi'];exact(hJ2 _ _).2 ⟨f1,C5,by rw[hrec]⟩
 clear f1 f4 f5;intro fr S5 hJf;obtain⟨f1,C5,hs0⟩:=(hJ2 _ _).1 hJf;rw[if_neg (fun h=>h hs0)]at hchk;obtain⟨hp4,hpc,hms⟩:=Jjk (hasN l) none fs m2 hmM hs0;have hokS:=JgO (hasN l) none fs m2 hs0;have r05:=kcell C5 r0 n0k;have w5:=C5.wf;rw[Jl,Jb];simp only[XY,simprocAttr,f1,r05,cs1,cs2,cs3,cs4,cv1.1,cv1.2,cv2.1,cv2.2];refine JF (Jpa (P:=P) (s:=s) (KN w5 S5.t) ((hschM C5).low S5.t) (by rw[<-hll];omega) (by rw[<-hll];omega)) ?_;rw[<-hll];rintro fv S6 g6 hfv;have lf:=hfv.len;rw[QW]at lf;have C6:=C5.gr g6;have r06:=g6.cells r05;obtain⟨F,hF⟩:∃F,F=(finR l (l.length+1) []).length:=⟨_,rfl⟩
 rw[<-hF]at lf hchk;by_cases hfl:F=l.length;rotate_left
 ·have hfl':¬(F:Int)=(l.length:Int):=by omega
  simp only[XZ,simprocAttr,f1,lf,r06,l1,hfl',Jw];refine fin _ _ (keep C6) fun _=> ?_;rw[hchk,if_pos hfl]
 have hfl':(F:Int)=(l.length:Int):=by omega
 rw[if_neg (fun h=>h hfl)]at hchk;simp only[XY,simprocAttr,f1,lf,r06,l1,hfl',Jw];rw[Jb];simp only[XY,simprocAttr,f1,r06,cs1,cs2,cs3,cs4,cv1.1,cv1.2,cv2.1,cv2.2];refine Je (rallC (P:=P) (Q:=fun r=>P r\/S6.row r= .none) (s:=s) C6.wf (hschM C6) (by rw[<-hll];omega) (by rw[<-hfs];omega) (fun f hf=>by have:=hp4 f (by rw[hfs];exact hf);omega) (fun r p=> .inl p) fun r p=> .inr p) ?_;rintro ev S7 ⟨g7,hevl⟩;have C7:=C6.gr g7;have r07:=g7.cells r06;have hok:∀t∈everyS s,cntT t<1000000/\okO t=true:=fun t ht=>by
  rw[hev]at ht;rcases List.mem_append.1 ht with ht|ht
  ·rcases List.mem_append.1 ht with ht|ht
   ·exact⟨by have:=Jl9 ht;omega,JbU hokT t ht⟩
   ·rw[List.mem_singleton.1 ht];exact⟨by omega,hokM⟩
  ·unfold sgTys at ht;obtain⟨x,hx,htx⟩:=List.mem_flatten.1 ht;obtain⟨f,hf,rfl⟩:=List.mem_map.1 hx;have h5:=Jl9 htx;have h6:=hpc f hf;exact⟨by omega,JbU (hokS f hf) t htx⟩
 have hlenE:(everyS s).length<1000000:=by
  have hk:=Ja2 fs fun f hf=>by have:=hp4 f hf;omega
  rw[hev];simp only[List.length_append,List.length_map,List.length_singleton];omega
 have le:=hevl.len;simp only[XY,simprocAttr];rw[Jl,Jb];simp only[XY,simprocAttr];obtain⟨A,hA⟩:∃A,A=everyS s:=⟨_,rfl⟩
 rw[<-hA]at hevl le hlenE hok hchk;obtain⟨I,hI⟩:=loE fun j fr S'=>∃(i:Nat),j+i=A.length/\fr 1= .ptr (up 0 n) 0/\fr 10=ev/\fr 11= .int .i64 i/\Gr S7 S'/\A.any (optsR l)=(A.drop i).any (optsR l);refine JK I A.length (by omega) ((hI _ _ _).2 ⟨0,by omega,f1,rfl,by simp only[XZ,simprocAttr]<;>rfl,Gr.refl g7.wf,rfl⟩) ?_;clear f1;intro j fr S8 hIj;obtain⟨i,hj,f1,f10,f11,g8,hrec⟩:=(hI _ _ _).1 hIj;have C8:=C7.gr g8;have r08:=g8.cells r07;by_cases hi:i<A.length
 ·have hi':(i:Int)<A.length:=by omega
  obtain⟨q2,qo,E',c1,c2,c3,c4,hE,e4,c5⟩:=(hevl.imp (fun e x h=>h.gr g8) fun r p e=>⟨p,g8.same r e⟩:LstAt (TyC (fun r=>P r\/S6.row r= .none) S8) (fun r=>P r\/S6.row r= .none) S8 ev 4 A).elem hi;have hadd1:IntKind.i64.wrap ((i:Int)+1)=((i+1:Nat):Int):=by rw[Jx (by omega) (by omega)];rfl
  rw[List.drop_eq_getElem_cons hi,List.any_cons]at hrec;obtain⟨hk1,hk2⟩:=hok _ (List.getElem_mem hi);simp only[XZ,simprocAttr,f1,f10,f11,r08,le,hi',c1,c4,cs1,cs2,cs3,cs4,cv1.1,cv1.2,cv2.1,cv2.2];refine JF (roptsC _ A[i] (Nat.lt_succ_self _) (fun r=>S8.row r≠ .none) _ s _ E' (KN C8.wf S8.t) (((hschM C8).imp fun r p e=>⟨e,rfl⟩).low S8.t) ((hE.imp fun r p e=>⟨e,rfl⟩:TyC (fun r=>S8.row r≠ .none) S8 E' A[i]).low S8.t) (fun r p=>p) (by rw[<-hll];omega) hk1 hk2) ?_;rw[<-hll];rintro _ S9 g9 rfl
  cases hb:optsR l A[i]with
  | true=>
    rw[hb,Bool.true_or]at hrec;simp only[XZ,simprocAttr,Jw];refine fin _ _ (keep (C8.gr g9)) fun _=> ?_;rw[hchk,hrec];rfl
  | false=>
    rw[hb,Bool.false_or]at hrec;simp only[XZ,simprocAttr,Jw,f11,hadd1];exact⟨A.length-(i+1),by omega,(hI _ _ _).2 ⟨i+1,by omega,f1,f10,rfl,g8.trans g9,hrec⟩⟩
 ·have hi':¬(i:Int)<A.length:=by omega
  rw[List.drop_eq_nil_of_le (by omega)]at hrec;simp only[XZ,simprocAttr,f10,f11,le,hi'];refine fin _ _ (keep C8) fun _=> ?_;rw[hchk,hrec];rfl
theorem rcheckC {P:Pt->Prop}{st:St}{e1:List V}{s:Sch}(hw:WF st)(h:SchC P st e1 s):
  Does (tabT tabD) jk [.agg e1] st fun v' st'=>Gr st st'/\v'= .int .i64 (refS s):=
 rcheckP (P:=fun r=>P r/\st.row r≠ .none) hw (h.imp fun r p e=>⟨⟨p,e⟩,rfl⟩) fun r p=>p.2
end Go.Proofs.YtcgiahehkobpcaaGreat
