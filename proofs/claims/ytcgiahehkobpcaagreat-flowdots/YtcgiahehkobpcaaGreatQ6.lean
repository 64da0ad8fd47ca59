/- The law. No condition. -/
import Derived.Test.YtcgiahehkobpcaaGreatQ5
set_option linter.unusedVariables false
set_option linter.unusedSimpArgs false
set_option linter.unusedSectionVars false
set_option maxRecDepth 100000
namespace Go.Proofs.YtcgiahehkobpcaaGreat
open Eva Go.RowKit
theorem JkH :pureB (tabT tabD) Ja3 [] (.bool true)=true:=by kernel_rfl
theorem JmX (a n:Int)(st:St)(h0:0<n)(h1:n<4611686018427387904):Does (tabT tabD) Jan [.int .i64 a, .int .i64 n] st fun v st'=>v= .int .i64 (a%n)/\st=st':=by
 refine JA qJ rfl ?_;have hn:n≠0:=by omega
 have e1:=Int.emod_nonneg a hn;have e2:=Int.emod_lt_of_pos a h0;rcases tmodC a h0 with⟨h3,h4⟩|⟨h3,h4⟩
 ·simp only[Kg,XZ,simprocAttr,hn,h3];rw[h4]
 ·have hw:IntKind.i64.wrap (a.tmod n+n)=a%n:=by rw[h4,Jx (by omega) (by omega)]
  simp only[Kg,XZ,simprocAttr,hn,h3,hw]
theorem JsE :∀ws:List Nat,(chT ws).name=[]
 |[]=>rfl
 |w::r=>rfl
theorem chOk.four :∀{ws:List Nat},chOk ws->∀w∈ws,w<4
 |[],_,w,h=>by cases h
 | v::r,h,w,hw=>by
   rcases List.mem_cons.1 hw with rfl|hw
   ·exact h.1
   ·exact chOk.four h.2.2 w hw
theorem Jtv {ws:List Nat}(h:chOk ws):(chT ws).kind=6<->ws.head? =some 2:=by
 cases ws with
 |nil=>exact⟨fun h=>absurd h (by decide),fun h=>by cases h⟩
 | cons w r=>
   have:=(JcC h.1).2.2.2.2;show chK w=6<->some w=some 2;rw[this];simp
theorem Jpn {ws:List Nat}(h:chOk ws):(chT ws).kind=2<->ws=[]:=by
 cases ws with
 |nil=>exact⟨fun _=>rfl,fun _=>rfl⟩
 | cons w r=>
   have:=(JcC h.1).1;have e:(chT (w::r)).kind=chK w:=rfl;rw[e];exact⟨fun c=>by omega,fun c=>by cases c⟩
theorem JgP (w:Nat):∀r:List Nat,Yj r++br mEnd=Yj (w::r)
 |[]=>rfl
 |v::r=>by rw[Yj,List.append_assoc,JgP v r,Yj,Yj,Yj]
theorem wrapA {S1 S:St}{p nS:Pt}{t:Nat}{e:List V}{T:Ty}(hg:Gr S1 S)(pn:S1.row p= .none)(rp:S.row p= .cells t e)(hty:TyC (fun r=>r≠p) S e T)(hnS:S.nx=up 0 nS)(kd:Int):
  Gr S1 ((S.new fun t=>Row.cells t e).wr p t fun u=>Row.cells u [.int .i64 kd,ofL [], .snil, .slx (up 0 nS) 0 1 4 1])/\∃t' e',((S.new fun t=>Row.cells t e).wr p t fun u=>Row.cells u [.int .i64 kd,ofL [], .snil, .slx (up 0 nS) 0 1 4 1]).row p= .cells t' e'/\TyC (fun r=>r≠p) ((S.new fun t=>Row.cells t e).wr p t fun u=>Row.cells u [.int .i64 kd,ofL [], .snil, .slx (up 0 nS) 0 1 4 1]) e' (.mk kd [] [] [T]):=by
 have w:=hg.wf;have ne:up 0 nS≠p:=fun c=>Jd rp (by rw[<-c];exact nx0 w hnS 0);obtain⟨S2,hS2⟩:∃S2,S2=S.new fun t=>Row.cells t e:=⟨_,rfl⟩
 have G2:Gr S S2:=by rw[hS2];exact Gr.new w (Ja _)
 have r2:S2.row (up 0 nS)= .cells S.t e:=by rw[hS2,<-hnS,Ka]
 rw[<-hS2];have rp2:=G2.cells rp;refine⟨(hg.trans G2).wr pn (Jd rp2) (by rw[rp2];rfl) (Ja _),_,_,J7 _ _ _ _, ?_⟩;refine .mk (ns:=[]) (ks:=[T]) (es:=[e]) (SlAt.nil _ _ _) (SlAt.freshx (es:=[e]) (t:=S.t) (by rw[JR _ _ _ ne,r2];simp) ne (fun x hx=>by rw[List.mem_singleton.1 hx];exact hty.four)) rfl fun i h h'=> ?_;have:i=0:=by simpa using h
 subst this;exact hty.imp fun r hr e=>⟨hr,by rw[JR _ _ _ hr,G2.same r e]⟩
theorem wrapB {S1 S:St}{p nS:Pt}{t:Nat}{e:List V}{T:Ty}(hg:Gr S1 S)(pn:S1.row p= .none)(rp:S.row p= .cells t e)(hty:TyC (fun r=>r≠p) S e T)(hnS:S.nx=up 0 nS):
  Gr S1 (((S.new fun t=>Row.cells t [ofL [107]]).new fun t=>Row.cells t e).wr p t fun u=>Row.cells u [.int .i64 8,ofL [], .slx (up 0 nS) 0 1 1 1, .slx (up 1 nS) 0 1 4 1])/\∃t' e',(((S.new fun t=>Row.cells t [ofL [107]]).new fun t=>Row.cells t e).wr p t fun u=>Row.cells u [.int .i64 8,ofL [], .slx (up 0 nS) 0 1 1 1, .slx (up 1 nS) 0 1 4 1]).row p= .cells t' e'/\TyC (fun r=>r≠p) (((S.new fun t=>Row.cells t [ofL [107]]).new fun t=>Row.cells t e).wr p t fun u=>Row.cells u [.int .i64 8,ofL [], .slx (up 0 nS) 0 1 1 1, .slx (up 1 nS) 0 1 4 1]) e' (.mk 8 [] [[107]] [T]):=by
 have w:=hg.wf;have ne:up 0 nS≠p:=fun c=>Jd rp (by rw[<-c];exact nx0 w hnS 0);have ne1:up 1 nS≠p:=fun c=>Jd rp (by rw[<-c];exact nx0 w hnS 1);obtain⟨S2,hS2⟩:∃S2,S2=S.new fun t=>Row.cells t [ofL [107]]:=⟨_,rfl⟩
 have G2:Gr S S2:=by rw[hS2];exact Gr.new w (Ja _)
 have r2:S2.row (up 0 nS)= .cells S.t [ofL [107]]:=by rw[hS2,<-hnS,Ka]
 have hn2:S2.nx=up 1 nS:=by rw[hS2,YF,hnS,Yw]
 rw[<-hS2];obtain⟨S3,hS3⟩:∃S3,S3=S2.new fun t=>Row.cells t e:=⟨_,rfl⟩
 have G3:Gr S2 S3:=by rw[hS3];exact Gr.new G2.wf (Ja _)
 have r3:S3.row (up 1 nS)= .cells S2.t e:=by rw[hS3,<-hn2,Ka]
 rw[<-hS3];have r23:=G3.cells r2;have rp2:=G3.cells (G2.cells rp);refine⟨(hg.trans (G2.trans G3)).wr pn (Jd rp2) (by rw[rp2];rfl) (Ja _),_,_,J7 _ _ _ _, ?_⟩;refine .mk (ns:=[[107]]) (ks:=[T]) (es:=[e]) (SlAt.freshx (es:=strs [[107]]) (t:=S.t) (by rw[JR _ _ _ ne,r23];rfl) ne (fun x hx=>by rw[List.mem_singleton.1 hx];rfl)) (SlAt.freshx (es:=[e]) (t:=S2.t) (by rw[JR _ _ _ ne1,r3];simp) ne1 (fun x hx=>by rw[List.mem_singleton.1 hx];exact hty.four)) rfl fun i h h'=> ?_;have:i=0:=by simpa using h
 subst this;exact hty.imp fun r hr e=>⟨hr,by rw[JR _ _ _ hr,(G2.trans G3).same r e]⟩
set_option maxHeartbeats 4000000 in
theorem dotsC (st:St)(hw:WF st)(v:V)(zs:List Int)(hv:IntsAt st v zs)(hz:∀z∈zs,-9223372036854775808<=z/\z<9223372036854775808)(hn:zs.length<=maxLen):
  Does (tabT tabD) qh [v] st fun v' _=>v'= .bool true:=by
 refine JA j6 rfl ?_;have hlen:=hv.len;simp only[Ki,XY,simprocAttr];rw[Jb];simp only[XY,simprocAttr];rw[Jl,Jb];simp only[XY,simprocAttr];refine Je (pureC tabE tabM tabU JkH rfl rfl hw) ?_;rintro _ S1 ⟨G1,rfl⟩;simp only[XY,simprocAttr];obtain⟨n1,hn1⟩:=nxE S1;rw[Jb];simp only[XY,simprocAttr,hn1];refine JM ?_;intro S2 hS2;have G2:Gr S1 S2:=by rw[hS2];exact(Gr.refl G1.wf).nw hn1 (Ja _) (Ja _)
 obtain⟨p,hp⟩:=exE (up 0 n1);obtain⟨t3,r3⟩:∃t,S2.row p= .cells t [.int .i64 2,ofL [], .snil, .snil]:=⟨_,by rw[hS2,hp];simp only[XZ,simprocAttr,hn1];rfl⟩
 have pn:S1.row p= .none:=by rw[hp];exact nx0 G1.wf hn1 0
 rw[<-hp];clear hS2;have ty0:TyC (fun r=>r≠p) S2 [.int .i64 2,ofL [], .snil, .snil] (chT []):= .mk (es:=[]) (SlAt.nil _ _ _) (SlAt.nil _ _ _) rfl fun i h=>absurd h (by simp);have e4:ofL [123,123,97,100,100,32,46,32,49,125,125]=ofL (opsS []++br adS):=rfl;rw[Jb];simp only[XY,simprocAttr,e4];obtain⟨J,hJ⟩:=opE fun fr S=>∃(ws:List Nat),chOk ws/\ws.length<=8/\fr 3= .ptr p 0/\fr 4=ofL (opsS ws++br adS)/\fr 5=ofL (Yj ws)/\Gr S1 S/\∃t e,S.row p= .cells t e/\TyC (fun r=>r≠p) S e (chT ws);refine Qc J ?_ ?_
 ·rw[Jb];simp only[XY,simprocAttr];obtain⟨L,hL⟩:=loE fun j fr S=>∃(i:Nat) (ws:List Nat),j+i=8/\ws.length<=i/\chOk ws/\fr 0=v/\fr 3= .ptr p 0/\fr 4=ofL (opsS ws++br adS)/\fr 5=ofL (Yj ws)/\fr 6= .int .i64 (i:Nat)/\Gr S1 S/\∃t e,S.row p= .cells t e/\TyC (fun r=>r≠p) S e (chT ws);refine JK L 8 (by omega) ((hL _ _ _).2 ⟨0,[],by omega,by simp,trivial,rfl,rfl,rfl,by simp only[XZ,simprocAttr]<;>rfl,by simp only[XZ,simprocAttr]<;>rfl,G2,t3,_,r3,ty0⟩) ?_;intro j fr S hLj;obtain⟨i,ws,hj,hwl,hok,f0,f3,f4,f5,f6,G3,t,e,rp,hty⟩:=(hL _ _ _).1 hLj;by_cases h1:i<zs.length;rotate_left
  ·have h1':¬(i:Int)<zs.length:=by omega
   rw[Jl,Jb];simp only[XY,simprocAttr,f0,f6,hlen,h1'];exact(hJ _ _).2 ⟨ws,hok,by omega,f3,f4,f5,G3,t,e,rp,hty⟩
  have h1':(i:Int)<zs.length:=by omega
  by_cases h2:i<8;rotate_left
  ·have h2':¬(i:Int)<8:=by omega
   rw[Jl,Jb];simp only[XY,simprocAttr,f0,f6,hlen,h1',h2'];exact(hJ _ _).2 ⟨ws,hok,by omega,f3,f4,f5,G3,t,e,rp,hty⟩
  have h2':(i:Int)<8:=by omega
  have hadd1:IntKind.i64.wrap ((i:Int)+1)=((i+1:Nat):Int):=by rw[Jx (by omega) (by omega)];rfl
  obtain⟨q,a1,a2⟩:=(hv.gr (G1.trans G3)).at h1;have a3:ld1 (S.row q) i=some (.int .i64 zs[i], .no):=by rw[a2,Jg7,Job h1];rfl
  have w3:=G3.wf;obtain⟨nv,kv,es,rfl,x1,x2,x3,x4⟩:=hty.inv;rw[JsE]at rp hty;have cs1:=x1.cells;have cs2:=x1.sc;have cs3:=x2.cells;have cs4:=x2.sc;obtain⟨nS,hnS⟩:=nxE S;have oS:=fun k=>nes (JE w3 hnS (Jd rp) k);have l1:=JbX ws;have l2:=Jal ws;have l3:(br adS).length=11:=rfl;obtain⟨K,hK⟩:=opE fun fr S=>∃(ws':List Nat),ws'.length<=i+1/\chOk ws'/\fr 0=v/\fr 3= .ptr p 0/\fr 4=ofL (opsS ws'++br adS)/\fr 5=ofL (Yj ws')/\fr 6= .int .i64 (i:Nat)/\Gr S1 S/\∃t e,S.row p= .cells t e/\TyC (fun r=>r≠p) S e (chT ws');rw[Jl,Jb];simp only[XY,simprocAttr,f0,f6,hlen,h1',h2'];refine Qc K ?_ ?_;rotate_left
  ·intro fr' S' hKf;obtain⟨ws',b1,b2,f0',f3',f4',f5',f6',b3,b4⟩:=(hK _ _).1 hKf;simp only[XZ,simprocAttr,f6',hadd1];exact⟨7-i,by omega,(hL _ _ _).2 ⟨i+1,ws',by omega,b1,b2,by simp only[XZ,simprocAttr,f0'],by simp only[XZ,simprocAttr,f3'],by simp only[XZ,simprocAttr,f4'],by simp only[XZ,simprocAttr,f5'],rfl,b3,b4⟩⟩
  simp only[XY,simprocAttr];rw[Jl,Jb];simp only[XY,simprocAttr,f0,f6,a1,a3];refine Je (JmX zs[i] 4 _ (by decide) (by decide)) ?_;rintro _ _ ⟨rfl,rfl⟩;obtain⟨w,hwz,hw4⟩:∃w:Nat,zs[i]%4=(w:Int)/\w<4:=⟨(zs[i]%4).toNat,by omega,by omega⟩
  have hends:∀w:Nat,Yj ws++br mEnd=Yj (w::ws):=fun w=>JgP w ws;have hstr:∀l:List UInt8,l.length<=21->l.length+(opsS ws++br adS).length<=1000000:=fun l hl=>by rw[List.length_append];omega
  have fin:∀(w:Nat) (fr':Fr) (S':St),chOk (w::ws)->fr' 0=v->fr' 3= .ptr p 0->fr' 4=ofL (opS w++(opsS ws++br adS))->fr' 5=ofL (Yj ws++br mEnd)->fr' 6= .int .i64 (i:Nat)->(Gr S1 S'/\∃t e,S'.row p= .cells t e/\TyC (fun r=>r≠p) S' e (chT (w::ws)))->K fr' S':=fun w fr' S' b1 b2 b3 b4 b5 b6 b7=>
   (hK _ _).2 ⟨w::ws,by simp;omega,b1,b2,b3,by rw[b4,opsS,List.append_assoc],by rw[b5,hends w],b6,b7⟩
  have hno:∀w,w<4->w≠2->chOk (w::ws):=fun w h1 h2=>⟨h1,fun e=>absurd e h2,hok⟩
  rcases(by omega:w=0\/w=1\/w=2\/w=3)with rfl|rfl|rfl|rfl
  ·have hwz:zs[i]%4=0:=hwz;rw[hwz];have hs:=hstr [123,123,114,97,110,103,101,32,46,125,125] (by decide);simp only[XY,simprocAttr];rw[Jb];simp only[XY,simprocAttr];rw[Jb];simp only[XY,simprocAttr,f3,rp,hnS,oS,cs1,cs2,cs3,cs4];simp only[XZ,simprocAttr,f4,f5];refine⟨by simp only[List.length_append,List.length_cons,List.length_nil]at*;omega,by simp only[List.length_append,List.length_cons,List.length_nil]at*;omega, ?_⟩;exact fin 0 _ _ (hno 0 (by decide) (by decide)) f0 f3 (by simp only[XZ,simprocAttr]<;>rfl) (by simp only[XZ,simprocAttr]<;>rfl) f6 (wrapA G3 pn rp hty hnS 4)
  ·have hwz:zs[i]%4=1:=hwz;rw[hwz];have hs:=hstr [123,123,114,97,110,103,101,32,46,125,125] (by decide);simp only[XY,simprocAttr];rw[Jb];simp only[XY,simprocAttr];rw[Jb];simp only[XY,simprocAttr];rw[Jb];simp only[XY,simprocAttr,f3,rp,hnS,oS,cs1,cs2,cs3,cs4];simp only[XZ,simprocAttr,f4,f5];refine⟨by simp only[List.length_append,List.length_cons,List.length_nil]at*;omega,by simp only[List.length_append,List.length_cons,List.length_nil]at*;omega, ?_⟩;exact fin 1 _ _ (hno 1 (by decide) (by decide)) f0 f3 (by simp only[XZ,simprocAttr]<;>rfl) (by simp only[XZ,simprocAttr]<;>rfl) f6 (wrapA G3 pn rp hty hnS 5)
  ·have hwz:zs[i]%4=2:=hwz;rw[hwz];have hs:=hstr [123,123,119,105,116,104,32,46,125,125] (by decide);simp only[XY,simprocAttr];rw[Jb];simp only[XY,simprocAttr];rw[Jb];simp only[XY,simprocAttr];rw[Jb];simp only[XY,simprocAttr];by_cases h6:(chT ws).kind=6
   ·rw[Jl,Jb];simp only[XY,simprocAttr,f3,rp,h6];exact(hK _ _).2 ⟨ws,by omega,hok,f0,f3,f4,f5,f6,G3,t,_,rp,hty⟩
   ·rw[Jl,Jb];simp only[XY,simprocAttr,f3,rp,h6];rw[Jb];simp only[XY,simprocAttr,f3,rp,hnS,oS,cs1,cs2,cs3,cs4];simp only[XZ,simprocAttr,f4,f5];refine⟨by simp only[List.length_append,List.length_cons,List.length_nil]at*;omega,by simp only[List.length_append,List.length_cons,List.length_nil]at*;omega, ?_⟩;exact fin 2 _ _ ⟨by decide,fun _ c=>h6 ((Jtv hok).2 c),hok⟩ f0 f3 (by simp only[XZ,simprocAttr]<;>rfl) (by simp only[XZ,simprocAttr]<;>rfl) f6 (wrapA G3 pn rp hty hnS 6)
  ·have hwz:zs[i]%4=3:=hwz;rw[hwz];have hs:=hstr [123,123,109,97,116,99,104,32,46,125,125,123,123,99,97,115,101,32,107,125,125] (by decide);simp only[XY,simprocAttr];rw[Jb];simp only[XY,simprocAttr];rw[Jb];simp only[XY,simprocAttr];rw[Jb];simp only[XY,simprocAttr];rw[Jb];simp only[XY,simprocAttr];rw[Jb];simp only[XY,simprocAttr,f3,rp,hnS,oS,cs1,cs2,cs3,cs4];simp only[XZ,simprocAttr,f4,f5];refine⟨by simp only[List.length_append,List.length_cons,List.length_nil]at*;omega,by simp only[List.length_append,List.length_cons,List.length_nil]at*;omega, ?_⟩;exact fin 3 _ _ (hno 3 (by decide) (by decide)) f0 f3 (by simp only[XZ,simprocAttr]<;>rfl) (by simp only[XZ,simprocAttr]<;>rfl) f6 (wrapB G3 pn rp hty hnS)
 intro fr S hJf;obtain⟨ws,hok,h8,f3,f4,f5,G3,t,e,rp,hty⟩:=(hJ _ _).1 hJf;have h4:=chOk.four hok;have w3:=G3.wf;have l1:=JbX ws;have l2:=Jal ws;have l3:(br adS).length=11:=rfl;obtain⟨nv,kv,es,rfl,x1,x2,x3,x4⟩:=hty.inv;rw[JsE]at rp hty;have cs1:=x1.cells;have cs2:=x1.sc;have cs3:=x2.cells;have cs4:=x2.sc;have hl:TyC (fun r=>S.row r≠ .none) S [.int .i64 (chT ws).kind,ofL [],nv,kv] (chT ws):=hty.imp fun r _ e=>⟨e,rfl⟩
 have hsch:∀S',(∀r,S.row r≠ .none->S'.row r=S.row r)->SchC (fun r=>S'.row r≠ .none) S' ([.int .i64 (chT ws).kind,ofL [],nv,kv]++[.snil, .snil]) (schT ws):=fun S' k=>schC1 (hl.imp fun r hr e=>⟨by rw[k r e];exact e,k r e⟩);have c1:(opsS ws++br adS)++Yj ws=chS ws false:=by simp[chS,twoS]
 have c2:chS ws false++(opsS []++br adS)=chS ws true:=by simp[chS,twoS,opsS]
 have c3:(chS ws false).length+11<=1000000:=by simp only[chS,twoS,List.length_append,l2,l3,Bool.false_eq_true,if_false,List.length_nil];omega
 rw[Jb];simp only[XY,simprocAttr,f3,f4,f5,rp,cs1,cs2,cs3,cs4];refine⟨by simp only[List.length_append]at*;omega, ?_⟩;rw[c1];refine Je (textW (two:=false) w3 hok h4 h8 (hsch S fun _ _=>rfl)) ?_;rintro _ S4 ⟨G4,rfl⟩;have rp4:=G4.cells rp;rw[if_neg (fun h=>by cases h.1)];simp only[XY,simprocAttr];rw[Jb];simp only[XY,simprocAttr,f3,f4,f5,rp4,cs1,cs2,cs3,cs4];refine⟨by simp only[List.length_append]at*;omega,by simp only[List.length_append,opsS,List.length_nil,l2,l3];omega, ?_⟩;rw[c1,c2];refine Je (textW (two:=true) G4.wf hok h4 h8 (hsch S4 G4.same)) ?_;rintro _ S5 ⟨G5,rfl⟩;have rp5:=G5.cells rp4;by_cases hws:ws=[]
 ·have hk:=(Jpn hok).2 hws;rw[if_neg (fun h=>h.2 hws)];simp only[XZ,simprocAttr,f3,rp5,hk]
 ·have hk:¬(chT ws).kind=2:=fun c=>hws ((Jpn hok).1 c);rw[if_pos ⟨rfl,hws⟩];simp only[XZ,simprocAttr,f3,rp5,hk]
end Go.Proofs.YtcgiahehkobpcaaGreat
