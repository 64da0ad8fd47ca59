/- Flow: the two bodies. The document's flow: a node of the two bodies. The document's flo -/
import Derived.Test.YtgmmjcgkklgeeaaGreatQ3
set_option maxHeartbeats 4000000
set_option linter.unusedVariables false
set_option linter.unusedSimpArgs false
set_option linter.unusedSectionVars false
set_option maxRecDepth 100000
namespace Go.Proofs.YtgmmjcgkklgeeaaGreat
open Eva Go.RowKit
def nodX (x:Bool×Int):List V:=if x.1 then ndR 9 x.2 [] [116] .snil else ndR 1 x.2 [97] [] .snil
def clsX (id:Nat):List (Bool×Int)->List Pr
 |[]=>[]
 |x::r=>if x.1 then([116],id)::clsX id r else clsX id r
theorem Jcz (id:Nat)(x:Bool×Int):∀l,clsX id (l++[x])=clsX id l++(if x.1 then[([116],id)]else[])
 |[]=>by cases h:x.1<;>simp[clsX,h]
 |a::r=>by cases h:a.1<;>simp[clsX,h,Jcz id x r]
theorem JeT (id:Nat):∀l,(clsX id l).length<=l.length
 |[]=>Nat.le_refl _
 |a::r=>by have:=JeT id r;cases h:a.1<;>simp[clsX,h]<;>omega
theorem rowM {W F:Pt->Prop}{Sb S:St}{w rt q:Pt}{tb:Tb}{id:Nat}{bv:V}{xs:List (Bool×Int)}(hT:Tab W F Sb rt tb)(hop:Jga tb)(h0:0<tb.nodes.length)(h:WkR Sb S w rt q .snil (-1) [])(hqn:Sb.row q≠ .none)(hq:∃t,Sb.row q= .cells t [ofL [116]])(hb:SlAt (fun r=>Sb.row r≠ .none) Sb bv 9 (xs.map nodX))(hx:xs.length<1000):
  Does (tabT tabD) 56 [.ptr w 0,envE id,bv] S fun v S'=>v= .int .i64 0/\∃cv',WkR Sb S' w rt q cv' (-1) (clsX id xs):=by
 refine Jy (aT Tryz.func56 rfl) rfl ?_;obtain⟨tq,hq⟩:=hq;obtain⟨tw,rw_⟩:=h.c;have hw:=h.g.wf;have lb:=hb.len;rw[List.length_map]at lb;obtain⟨n0,hn0⟩:=nxE S;simp only[CT,Tryz.f56,XY,simprocAttr];rw[Jb];simp only[XY,simprocAttr,hn0];refine Js ?_;intro S1 hS1;have G1:Gr S S1:=by rw[hS1];exact Gr.new hw (Ja _)
 obtain⟨p4,hp4⟩:=exE (up 0 n0);obtain⟨t4,r4⟩:∃t,S1.row p4= .cells t [.int .i64 (id:Nat), .snil, .snil]:=⟨_,by rw[hS1,hp4];simp only[XZ,simprocAttr,hn0];rfl⟩
 have p4n:S.row p4= .none:=by rw[hp4];exact nx0 hw hn0 0
 have p4w:p4≠w:=fun e=>Jc rw_ (by rw[<-e];exact p4n);rw[<-hp4];have W1:=h.gr G1;clear hS1;rw[Je,Jb];simp only[XY,simprocAttr,lb];obtain⟨L,hL⟩:=loE fun j fr S'=>∃(i:Nat) (cv':V),j+i=xs.length/\fr 0= .ptr w 0/\fr 4= .ptr p4 0/\fr 12=bv/\fr 13= .int .i64 (xs.length:Nat)/\fr 14= .int .i64 i/\WkR Sb S' w rt q cv' (-1) (clsX id (xs.take i))/\(∃t,S'.row p4= .cells t [.int .i64 (id:Nat), .snil, .snil])/\rowOf cv'≠some p4;refine Jn L xs.length (by omega) ((hL _ _ _).2 ⟨0, .snil,by omega,by simp only[XZ,simprocAttr],by simp only[XZ,simprocAttr],by simp only[XZ,simprocAttr],by simp only[XZ,simprocAttr],by simp only[XZ,simprocAttr]<;>rfl,W1,⟨t4,r4⟩,fun e=>by cases e⟩) ?_;clear W1 r4 rw_ tw;intro j fr S2 hLj;obtain⟨i,cv2,hj,f0,f4,f12,f13,f14,W2,⟨t42,r42⟩,a42⟩:=(hL _ _ _).1 hLj;by_cases hi:i<xs.length;rotate_left
 ·have hi':¬(i:Int)<xs.length:=by omega
  rw[List.take_of_length_le (by omega)]at W2;rw[Jb];simp only[XY,simprocAttr,f13,f14,hi'];rw[Je];simp only[XZ,simprocAttr];exact⟨cv2,W2⟩
 have hi':(i:Int)<xs.length:=by omega
 have hadd1:IntKind.i64.wrap ((i:Int)+1)=((i+1:Nat):Int):=by rw[Jo (by omega) (by omega)];rfl
 obtain⟨r,o,a1,_,_,a2,_⟩:=(hb.imp (Q:=fun _=>True) (st':=S2) fun r e _=>⟨trivial,W2.g.same r e⟩).elem (i:=i) (by rw[List.length_map];exact hi);rw[List.getElem_map]at a2;obtain⟨x,hx'⟩:=exE (xs[i]);rw[<-hx']at a2;have htk:clsX id (xs.take (i+1))=clsX id (xs.take i)++(if x.1 then[([116],id)]else[]):=by rw[List.take_add_one,List.getElem?_eq_getElem hi,hx'];exact Jcz id _ _
 obtain⟨tw,rw_⟩:=W2.c;obtain⟨n2,hn2⟩:=nxE S2;have l0:Kf .snil=some (.int .i64 0, .no):=rfl;rw[Jb];simp only[XY,simprocAttr,f13,f14,hi'];rw[Je];simp only[XY,simprocAttr];rw[Je];simp only[XY,simprocAttr];obtain⟨kk,a0,ss,nm,hnd,hkk⟩:∃(kk a0:Int) (ss nm:Str),nodX x=ndR kk a0 ss nm .snil/\(kk=1\/kk=9):=by
  unfold nodX
  cases x.1 with
  |true=>exact⟨9,x.2,[],[116],rfl, .inr rfl⟩
  |false=>exact⟨1,x.2,[97],[],rfl, .inl rfl⟩
 rw[hnd]at a2;rw[Jb];simp only[XY,simprocAttr,f12,f14,a1,a2,hn2];refine Js ?_;intro S3 hS3;have w2:=W2.g.wf;have G3:Gr S2 S3:=by rw[hS3];exact(Gr.refl w2).nw hn2 (Ja _) (Ja _)
 obtain⟨p8,hp8⟩:=exE (up 0 n2);obtain⟨t8,r8⟩:∃t,S3.row p8= .cells t (ndR kk a0 ss nm .snil):=⟨_,by rw[hS3,hp8];simp only[XZ,simprocAttr,hn2];rfl⟩
 have p8n:S2.row p8= .none:=by rw[hp8];exact nx0 w2 hn2 0
 rw[<-hp8];clear hS3;have rw3:=G3.cells rw_;have r43:=G3.cells r42;have W3:=W2.gr G3;have p8w:p8≠w:=fun e=>Jc rw_ (by rw[<-e];exact p8n);have l00:¬(0:Int)<0:=by omega
 rw[Jb];simp only[XY,simprocAttr];obtain⟨J,hJ⟩:=opE fun fr' S'=>fr' 0= .ptr w 0/\fr' 4= .ptr p4 0/\fr' 8= .ptr p8 0/\fr' 9= .int .i64 0/\fr' 10= .int .i64 0/\fr' 12=bv/\fr' 13= .int .i64 (xs.length:Nat)/\fr' 14= .int .i64 i/\S'=S3;refine JM J ?_ ?_
 ·rcases hkk with rfl|rfl
  ·rw[Jb];simp only[XZ,simprocAttr,r8];exact(hJ _ _).2 ⟨by simp only[XZ,simprocAttr,f0],by simp only[XZ,simprocAttr,f4],by simp only[XZ,simprocAttr],by simp only[XZ,simprocAttr],by simp only[XZ,simprocAttr],by simp only[XZ,simprocAttr,f12],by simp only[XZ,simprocAttr,f13],by simp only[XZ,simprocAttr,f14],rfl⟩
  ·rw[Jb];simp only[XZ,simprocAttr,r8,l0,l00];exact(hJ _ _).2 ⟨by simp only[XZ,simprocAttr,f0],by simp only[XZ,simprocAttr,f4],by simp only[XZ,simprocAttr],by simp only[XZ,simprocAttr],by simp only[XZ,simprocAttr],by simp only[XZ,simprocAttr,f12],by simp only[XZ,simprocAttr,f13],by simp only[XZ,simprocAttr,f14],rfl⟩
 clear f0 f4 f12 f13 f14;intro fr S3' hJf;obtain⟨f0,f4,f8,f9,f10,f12,f13,f14,rfl⟩:=(hJ _ _).1 hJf;rw[Jb];simp only[XY,simprocAttr,f0,rw3];rw[Jb];simp only[XY,simprocAttr,f0,rw3];refine Js ?_;intro S5 hS5;have W5:WkR Sb S5 w rt q cv2 (-1) (clsX id (xs.take i)):=by rw[hS5];exact W3.at rw3
 have k5:∀r,r≠w->S5.row r=S3'.row r:=fun r e=>by rw[hS5];simp only[Jk,e,if_false]
 have r85:S5.row p8= .cells t8 (ndR kk a0 ss nm .snil):=(k5 p8 p8w).trans r8;have r45:S5.row p4= .cells t42 [.int .i64 (id:Nat), .snil, .snil]:=(k5 p4 p4w).trans r43;clear hS5;have hT5:Tab W F S5 rt tb:=hT.gr W5.g;have hq5:∃t,S5.row q= .cells t [ofL [116]]:=⟨tq,W5.g.cells hq⟩
 have cvr:∀r,rowOf cv2=some r->S2.row r≠ .none:=fun r hr=>W2.l.some hr;obtain⟨J6,hJ6⟩:=opE fun fr' S'=>fr' 0= .ptr w 0/\fr' 4= .ptr p4 0/\fr' 8= .ptr p8 0/\fr' 10= .int .i64 0/\fr' 11= .int .i64 (-1)/\fr' 12=bv/\fr' 13= .int .i64 (xs.length:Nat)/\fr' 14= .int .i64 i/\(∃t,S'.row p4= .cells t [.int .i64 (id:Nat), .snil, .snil])/\(∃t,S'.row p8= .cells t (ndR kk a0 ss nm .snil))/\∃cv6,WkR Sb S' w rt q cv6 (-1) (clsX id (xs.take (i+1)))/\rowOf cv6≠some p4;refine JM J6 ?_ ?_
 ·rw[Jb];simp only[XY,simprocAttr,f10];simp only[XY,simprocAttr,f0,f4,f8,f9,r45,r85];unfold nodX at hnd
  cases hx1:x.1 with
  | true=>
    rw[hx1]at hnd htk;simp only[if_true]at hnd htk;injection hnd with e1 e2;injection e1 with _ e1;injection e2 with e2 e3;injection e2 with _ e2;injection e3 with e3 e4;injection e4 with e4 _;have e3:=Jdi.1 e3;have e4:=Jdi.1 e4;subst e1;subst e2;subst e3;subst e4;refine Jd (JsA hT5 hop h0 W5 hq5 (by have:=JeT id (xs.take i);have:(xs.take i).length<=i:=List.length_take_le _ _;omega)) ?_;rintro _ S6 ⟨C6,rfl,cv6,W6,f6⟩;have r86:∃t,S6.row p8= .cells t (ndR 9 x.2 [] [116] .snil):=⟨t8,by
     rw[C6.same p8 (Jc r85) fun h=>by rcases h with h|h;exact p8w h;exact cvr _ h p8n];exact r85⟩
    have r46:∃t,S6.row p4= .cells t [.int .i64 (id:Nat), .snil, .snil]:=⟨t42,by
     rw[C6.same p4 (Jc r45) fun h=>by rcases h with h|h;exact p4w h;exact a42 h];exact r45⟩
    simp only[XZ,simprocAttr];exact(hJ6 _ _).2 ⟨by simp only[XZ,simprocAttr,f0],by simp only[XZ,simprocAttr,f4],by simp only[XZ,simprocAttr,f8],by simp only[XZ,simprocAttr],by simp only[XZ,simprocAttr],by simp only[XZ,simprocAttr,f12],by simp only[XZ,simprocAttr,f13],by simp only[XZ,simprocAttr,f14],r46,r86,cv6,by rw[htk];exact W6,fun e=>Jc r45 (f6 p4 e)⟩
  | false=>
    rw[hx1]at hnd htk;simp only[Bool.false_eq_true,if_false,List.append_nil]at hnd htk;injection hnd with e1 e2;injection e1 with _ e1;injection e2 with e2 e3;injection e2 with _ e2;injection e3 with e3 e4;injection e4 with e4 _;have e3:=Jdi.1 e3;have e4:=Jdi.1 e4;subst e1;subst e2;subst e3;subst e4;refine Jd (Jsy W5.g.wf hT5 hop h0 W5.c) ?_;rintro _ S6 ⟨G6,rfl⟩;simp only[XZ,simprocAttr];exact(hJ6 _ _).2 ⟨by simp only[XZ,simprocAttr,f0],by simp only[XZ,simprocAttr,f4],by simp only[XZ,simprocAttr,f8],by simp only[XZ,simprocAttr],by simp only[XZ,simprocAttr],by simp only[XZ,simprocAttr,f12],by simp only[XZ,simprocAttr,f13],by simp only[XZ,simprocAttr,f14],⟨_,G6.cells r45⟩,⟨_,G6.cells r85⟩,cv2,by rw[htk];exact W5.gr G6,a42⟩
 clear f0 f4 f8 f9 f10 f12 f13 f14;intro fr S6 hJf;obtain⟨f0,f4,f8,f10,f11,f12,f13,f14,⟨t46,r46⟩,⟨t86,r86⟩,cv6,W6,c46⟩:=(hJ6 _ _).1 hJf;obtain⟨t6,rw6⟩:=W6.c;have hk3:¬kk=3:=by omega
 rw[Je,Jb];simp only[XY,simprocAttr,f10];rw[Jb];simp only[XY,simprocAttr,f0,f11,rw6];refine Js ?_;intro S7 hS7;have W7:WkR Sb S7 w rt q cv6 (-1) (clsX id (xs.take (i+1))):=by rw[hS7];exact W6.at rw6
 have k7:∀r,r≠w->S7.row r=S6.row r:=fun r e=>by rw[hS7];simp only[Jk,e,if_false]
 have r87:=(k7 p8 p8w).trans r86;have r47:=(k7 p4 p4w).trans r46;clear hS7;rw[Jb];simp only[XZ,simprocAttr,f8,r87,hk3,f0,f4,f12,f13,f14,hadd1];exact⟨xs.length-(i+1),by omega,(hL _ _ _).2 ⟨i+1,cv6,by omega,by simp only[XZ,simprocAttr,f0],by simp only[XZ,simprocAttr,f4],by simp only[XZ,simprocAttr,f12],by simp only[XZ,simprocAttr,f13],by simp only[XZ,simprocAttr],W7,⟨_,r47⟩,c46⟩⟩
theorem Gr.relow {a b:St}{x:Nat}(h:Gr {a with low:=x} b)(y:Nat):Gr {a with low:=y} {b with low:=y}:=⟨⟨JD h.wf _,h.mono.t,h.mono.nx,h.mono.row,Nat.le_refl _,fun r e1 e2=>absurd (h.same r e1) e2,h.mono.born⟩,h.same,fun _=>rfl⟩
structure WkS (Sb S:St) (w ru:Pt) (nv cv:V) (calls:List Pr):Prop where
 g:Gr {Sb with low:=S.low} S
 wn:Sb.row w= .none
 c:∃t,S.row w= .cells t [.ptr ru 0,nv,cv, .int .i64 0, .int .i64 0]
 l:SlF Sb S cv 2 (calls.map clE)
 aw:rowOf cv≠some w
 n:One nv
theorem WkS.gr {Sb S S':St}{w ru:Pt}{nv cv:V}{calls:List Pr}(h:WkS Sb S w ru nv cv calls)(g:Gr S S'):WkS Sb S' w ru nv cv calls:=⟨Gr.relow (h.g.trans g) S'.low,h.wn,h.c.imp fun t c=>g.cells c,h.l.gr g,h.aw,h.n⟩
theorem WkS.low {Sb S:St}{w ru:Pt}{nv cv:V}{calls:List Pr}(h:WkS Sb S w ru nv cv calls)(y:Nat):WkS Sb {S with low:=y} w ru nv cv calls:=⟨Gr.relow h.g y,h.wn,h.c,h.l,h.aw,h.n⟩
theorem JrF {S:St}{w ru:Pt}{nv cv:V}{a0 k:Int}{s nm:Str}{p:V}{tw:Nat}{err:Int}(hw:WF S)(hr:S.row w= .cells tw [.ptr ru 0,nv,cv, .int .i64 0, .int .i64 0])(hp:One p):
  Does (tabT tabD) 121 [.ptr w 0, .agg (ndR k a0 s nm p), .int .i64 err] S fun v S'=>v= .tup []/\Ch (fun r=>r=w) S S'/\∃t,S'.row w= .cells t [.ptr ru 0,nv,cv, .int .i64 a0, .int .i64 err]:=by
 refine Jy (aT Tryz.func121 rfl) rfl ?_;obtain⟨n0,hn0⟩:=nxE S;have o1:=fun k=>nes (Jz hw hn0 (Jc hr) k);simp only[CT,Tryz.f121,XY,simprocAttr];rw[Jb];simp only[XY,simprocAttr,hn0,hp.1,hp.2];refine Js ?_;intro S1 hS1;have G1:Gr S S1:=by rw[hS1];exact Gr.new hw (Ja _)
 obtain⟨p4,hp4⟩:=exE (up 0 n0);obtain⟨t4,r4⟩:∃t,S1.row p4= .cells t (ndR k a0 s nm p):=⟨_,by rw[hS1,hp4];simp only[XZ,simprocAttr,hn0];rfl⟩
 have p4w:p4≠w:=fun e=>Jc hr (by rw[<-e,hp4];exact nx0 hw hn0 0);rw[<-hp4];clear hS1 o1;have r1:=G1.cells hr;rw[Jb];simp only[XY,simprocAttr,r1];simp only[XZ,simprocAttr,r1,r4];refine⟨Kq (v:= .ptr w 4) (w:= .ptr p4 1) (q:=p4) rfl rfl rfl (fun e=>p4w (by injection e with e;exact e.symm)),((Ch.of (fun r=>r=w) G1).wr (Jc r1) (by rw[r1];rfl) (.inl rfl) (Ja _)).wr ?_ ?_ (.inl rfl) (Ja _),_,rfl⟩
 ·simp only[Jk,if_true];intro e;cases e
 ·simp only[Jk,if_true];rfl
theorem JrG {Sb S:St}{w ru:Pt}{nv cv:V}{a0:Int}{calls:List Pr}{id:Nat}(h:WkS Sb S w ru nv cv calls)(hn:SlAt (fun r=>Sb.row r≠ .none) Sb nv 1 [[ofL [116]]])(hc:calls.length<10000):
  Does (tabT tabD) 123 [.ptr w 0, .agg (ndR 9 a0 [] [116] .snil), .int .i64 (id:Nat)] S fun v S'=>Ch (fun r=>r=w\/rowOf cv=some r) S S'/\v= .tup []/\∃cv',WkS Sb S' w ru nv cv' (calls++[([116],id)])/\∀q,rowOf cv'=some q->S.row q= .none:=by
 refine QS tabM (aT Tryz.func123 rfl) rfl h.g.wf fun K fin=> ?_;obtain⟨tw,rw_⟩:=h.c;have hw:=h.g.wf;obtain⟨n0,hn0⟩:=nxE S;simp only[CT,Tryz.f123,XY,simprocAttr];rw[Jb];simp only[XY,simprocAttr,hn0];refine Js ?_;intro S1 hS1;have G1:Gr S S1:=by rw[hS1];exact Gr.new hw (Ja _)
 obtain⟨p4,hp4⟩:=exE (up 0 n0);obtain⟨t4,r4⟩:∃t,S1.row p4= .cells t (ndR 9 a0 [] [116] .snil):=⟨_,by rw[hS1,hp4];simp only[XZ,simprocAttr,hn0];rfl⟩
 rw[<-hp4];have rw1:=G1.cells rw_;clear hS1;have hn1:SlAt (fun _=>True) S1 nv 1 [[ofL [116]]]:=hn.imp fun r e _=>⟨trivial,(h.g.trans G1).same r e⟩
 have hl:=hn1.len;have hl:Kf nv=some (.int .i64 1, .no):=hl;obtain⟨r,o,a1,a2⟩:=Jac (ns:=[[116]]) (i:=0) hn1 (by decide);have a1:JJ 1 nv (.int .i64 0)=some (.ptr r o, .no):=a1;have a2:ld1 (S1.row r) o=some (ofL [116], .no):=a2;have h01:(0:Int)<1:=by omega
 have h11:¬(1:Int)<1:=by omega
 rw[Jb];simp only[XY,simprocAttr];rw[Je,Jb];simp only[XY,simprocAttr];obtain⟨L,hL⟩:=loE fun j fr S'=>S'=S1/\fr 0= .ptr w 0/\fr 2= .int .i64 (id:Nat)/\fr 4= .ptr p4 0/\((j=1/\fr 6= .bool false/\fr 7= .int .i64 0)\/(j=0/\fr 6= .bool true/\fr 7= .int .i64 1));refine Jn L 1 (by omega) ((hL _ _ _).2 ⟨rfl,rfl,rfl,rfl, .inl ⟨rfl,rfl,rfl⟩⟩) ?_;intro j fr S2 hLj;obtain⟨rfl,f0,f2,f4,hj⟩:=(hL _ _ _).1 hLj;rcases hj with⟨rfl,f6,f7⟩|⟨rfl,f6,f7⟩
 ·have hadd1:IntKind.i64.wrap ((0:Int)+1)=1:=by decide
  simp only[XZ,simprocAttr,f0,f2,f4,f6,f7,rw1,r4,hl,a1,a2,h01,hadd1];exact⟨0,by omega,(hL _ _ _).2 ⟨rfl,f0,f2,f4, .inr ⟨rfl,rfl,rfl⟩⟩⟩
 rw[Je,Jb];simp only[XY,simprocAttr,f0,f7,rw1,hl,h11];rw[Je,Jb];simp only[XY,simprocAttr,f6];have w2:=G1.wf;obtain⟨n2,hn2⟩:=nxE S2;have ow2:=fun k=>nes (Jz w2 hn2 (Jc rw1) k);simp only[XY,simprocAttr,f0,f2,f4,rw1,r4,hn2,ow2];obtain⟨A3,hA3⟩:=exE (S2.new fun t=>Row.cells t [ofL [116], .int .i64 (id:Nat)]);have ga3:Gr S2 A3:=by rw[hA3];exact Gr.new w2 (Ja _)
 have hone:SlAt (fun r=>r=up 0 n2) A3 (.slx (up 0 n2) 0 1 2 1) 2 [clE ([116],id)]:=by
  have:=Qd (st:=S2) (z:=2) (e:=clE ([116],id)) rfl
  rwa [hn2,show(S2.new fun t=>Row.cells t (clE ([116],id)))=A3 from hA3.symm]at this
 rw[<-hA3];clear hA3;have rw3:=ga3.cells rw1;have h3:=h.l.gr (G1.trans ga3);refine Qw (S0:={Sb with low:=S.low}) (h.g.trans (G1.trans ga3)) h3 hone (fun e he=>by rw[List.mem_singleton.1 he];rfl) (by simp) (by simp) (by simp;omega) ?_;intro A4 cv4 g4 h4 rv4 kp4;have rw4:A4.row w= .cells tw [.ptr ru 0,nv,cv, .int .i64 0, .int .i64 0]:=(kp4 w (Jc rw3) h.aw).trans rw3;have sc4:=h4.at.sc;have cl4:=h4.at.cells;have wr:∀x,rowOf cv4=some x->x≠w:=fun x hx e=>by
  rw[rv4]at hx;injection hx with hx;rw[<-e,<-hx,Kj ga3.wf]at rw3
  cases rw3
 simp only[XZ,simprocAttr,f0,rw4,sc4,cl4];refine fin _ _ (fun r e hW=> ?_) fun _=>⟨rfl,cv4,⟨Gr.relow (g4.wr h.wn (Jc rw4) (by rw[rw4]<;>rfl) (Ja _)) _,h.wn,⟨_,by simp only[Jk,if_true];rfl⟩, ?_,fun e=>wr w e rfl,h.n⟩, ?_⟩
 ·have hp:r≠w:=fun x=>hW (.inl x);simp only[Jk,hp,if_false];rw[kp4 r (by rw[(G1.trans ga3).same r e];exact e) fun x=>hW (.inr x),(G1.trans ga3).same r e]
 ·have h4:SlF Sb A4 cv4 2 (calls.map clE++[clE ([116],id)]):=h4;have h5:SlF Sb A4 cv4 2 ((calls++[([116],id)]).map clE):=by simpa using h4
  refine h5.keep fun r hr=> ?_;simp only[Jk,wr r hr,if_false]
 ·intro x hx;rw[rv4]at hx;injection hx with hx;rw[<-hx];exact Classical.byContradiction fun c=>c (by
   have:=(G1.trans ga3).same _ c;rw[Kj ga3.wf]at this;exact this.symm)
theorem JpR {S:St}{w:Pt}{id:Nat}{a0:Int}{s:Str}(hw:WF S):
  Does (tabT tabD) 90 [.ptr w 0,envE id, .agg (ndR 1 a0 s [] .snil)] S fun v S'=>Gr S S'/\v=envE id:=by
 refine Ju tabM (aT Tryz.func90 rfl) rfl hw fun K fin=> ?_;obtain⟨n0,hn0⟩:=nxE S;have l0:Kf .snil=some (.int .i64 0, .no):=rfl;have n00:¬(0:Int)<0:=by omega
 simp only[CT,Tryz.f90,XY,simprocAttr];rw[Jb];simp only[XY,simprocAttr,hn0];refine Js ?_;intro S1 hS1;have G1:Gr S S1:=by rw[hS1];exact((Gr.new hw (Ja _)).nn (Ja _)).nn (Ja _)
 obtain⟨p4,hp4⟩:=exE (up 0 n0);obtain⟨p5,hp5⟩:=exE (up 1 n0);obtain⟨p6,hp6⟩:=exE (up 2 n0);obtain⟨t4,r4⟩:∃t,S1.row p4= .cells t [.int .i64 (id:Nat), .snil, .snil]:=⟨_,by rw[hS1,hp4];simp only[XZ,simprocAttr,hn0];rfl⟩
 obtain⟨t5,r5⟩:∃t,S1.row p5= .cells t (ndR 1 a0 s [] .snil):=⟨_,by rw[hS1,hp5];simp only[XZ,simprocAttr,hn0];rfl⟩
 obtain⟨t6,r6⟩:∃t,S1.row p6= .cells t [.int .i64 0, .snil, .snil]:=⟨_,by rw[hS1,hp6];simp only[XZ,simprocAttr,hn0];rfl⟩
 have p6n:S.row p6= .none:=by rw[hp6];exact nx0 hw hn0 2
 rw[<-hp4,<-hp5,<-hp6];clear hS1;rw[Jb];simp only[XY,simprocAttr,r4];rw[Je,Jb];simp only[XY,simprocAttr,r5,l0,n00];rw[Je,Jb];simp only[XY,simprocAttr,r5];simp only[XZ,simprocAttr,r4,r6];exact fin _ _ (fun r e=>by rw[Jk,if_neg fun x=>e (by rw[x];exact p6n),G1.same r e]) fun _=>rfl
theorem JpS {Sb S:St}{w ru:Pt}{nv cv:V}{a0:Int}{calls:List Pr}{id:Nat}(h:WkS Sb S w ru nv cv calls)(hn:SlAt (fun r=>Sb.row r≠ .none) Sb nv 1 [[ofL [116]]])(hc:calls.length<10000):
  Does (tabT tabD) 90 [.ptr w 0,envE id, .agg (ndR 9 a0 [] [116] .snil)] S fun v S'=>Ch (fun r=>r=w\/rowOf cv=some r) S S'/\v=envE id/\∃cv',WkS Sb S' w ru nv cv' (calls++[([116],id)])/\∀q,rowOf cv'=some q->S.row q= .none:=by
 refine QS tabM (aT Tryz.func90 rfl) rfl h.g.wf fun K fin=> ?_;have hw:=h.g.wf;obtain⟨n0,hn0⟩:=nxE S;have l0:Kf .snil=some (.int .i64 0, .no):=rfl;have n00:¬(0:Int)<0:=by omega
 simp only[CT,Tryz.f90,XY,simprocAttr];rw[Jb];simp only[XY,simprocAttr,hn0];refine Js ?_;intro S1 hS1;have G1:Gr S S1:=by rw[hS1];exact((Gr.new hw (Ja _)).nn (Ja _)).nn (Ja _)
 obtain⟨p4,hp4⟩:=exE (up 0 n0);obtain⟨p5,hp5⟩:=exE (up 1 n0);obtain⟨p6,hp6⟩:=exE (up 2 n0);obtain⟨t4,r4⟩:∃t,S1.row p4= .cells t [.int .i64 (id:Nat), .snil, .snil]:=⟨_,by rw[hS1,hp4];simp only[XZ,simprocAttr,hn0];rfl⟩
 obtain⟨t5,r5⟩:∃t,S1.row p5= .cells t (ndR 9 a0 [] [116] .snil):=⟨_,by rw[hS1,hp5];simp only[XZ,simprocAttr,hn0];rfl⟩
 obtain⟨t6,r6⟩:∃t,S1.row p6= .cells t [.int .i64 0, .snil, .snil]:=⟨_,by rw[hS1,hp6];simp only[XZ,simprocAttr,hn0];rfl⟩
 have p4n:S.row p4= .none:=by rw[hp4];exact nx0 hw hn0 0
 have p6n:S.row p6= .none:=by rw[hp6];exact nx0 hw hn0 2
 rw[<-hp4,<-hp5,<-hp6];clear hS1;obtain⟨tw,rw_⟩:=h.c;have hcv:∀q,S.row q= .none->rowOf cv≠some q:=fun q hq e=>h.l.some e hq;rw[Jb];simp only[XY,simprocAttr,r4];rw[Je,Jb];simp only[XY,simprocAttr,r5,l0,n00];simp only[XZ,simprocAttr,r5];refine Jd (JrG (h.gr G1) hn hc) ?_;rintro _ S2 ⟨C2,rfl,cv',W2,f2⟩;have k2:∀p t l,S1.row p= .cells t l->S.row p= .none->S2.row p= .cells t l:=fun p t l hp hp0=>by
  rw[C2.same p (Jc hp) fun h=>by rcases h with h|h;exact Jc rw_ (by rw[<-h];exact hp0);exact hcv p hp0 h];exact hp
 have r42:=k2 _ _ _ r4 p4n;have r62:=k2 _ _ _ r6 p6n;have f2':∀q,rowOf cv'=some q->S.row q= .none:=fun q hq=>Classical.byContradiction fun c=>c (by rw[<-G1.same q c];exact f2 q hq);have p6c:rowOf cv'≠some p6:=fun e=>Jc r6 (f2 p6 e);have p6w:p6≠w:=fun e=>Jc rw_ (by rw[<-e];exact p6n);obtain⟨tw2,rw2⟩:=W2.c;simp only[XZ,simprocAttr,r42,r62];have k3:∀r,r≠p6->(S2.wr p6 t6 fun u=>Row.cells u [V.int IntKind.i64 (id:Nat),V.snil,V.snil]).row r=S2.row r:=fun r e=>by rw[Jk,if_neg e]
 refine fin _ _ (fun r e hW=> ?_) fun _=>⟨rfl,cv',⟨Gr.relow (W2.g.wr ?_ (Jc r62) (by rw[r62]<;>rfl) (Ja _)) _,W2.wn,⟨tw2,by rw[k3 _ (Ne.symm p6w)];exact rw2⟩,W2.l.keep fun r hr=>k3 r fun e=>p6c (by rw[<-e];exact hr),W2.aw,W2.n⟩,f2'⟩
 ·rw[k3 r fun x=>e (by rw[x];exact p6n),C2.same r (by rw[G1.same r e];exact e) hW,G1.same r e]
 ·exact Classical.byContradiction fun c=>c ((h.g.same _ c).symm.trans p6n)
theorem JoH {S1 S:St}{s:Sch}{tb:Tb}{w ru rp rc rq:Pt}{id o:Nat}{a0:Int}{nv cv:V}{tw tp tc tq:Nat}{l:List V}(hD:RD S1 S s tb ru)(hw:WF S)(ho:Kh tb (tb.nodes.length+1) id=(o,true))(hol:o<tb.nodes.length)(hno:YP tb)(hp:S.row rp= .cells tp [.slx rc 0 1 7 1])(hc:S.row rc= .cells tc (Q3 rq))(hq:S.row rq= .cells tq (ofL Qf::l))(hl:l.length=2)
  (hr:S.row w= .cells tw [.ptr ru 0,nv,cv, .int .i64 0, .int .i64 0]):
  Does (tabT tabD) 90 [.ptr w 0,envE id, .agg (ndR 2 a0 [] [] (.slx rp 0 1 1 1))] S fun v S'=>Ch (fun r=>r=w) S S'/\v=envE id/\∃t,S'.row w= .cells t [.ptr ru 0,nv,cv, .int .i64 a0, .int .i64 16]:=by
 refine QS tabM (aT Tryz.func90 rfl) rfl hw fun K fin=> ?_;obtain⟨n0,hn0⟩:=nxE S;have l1:Kf (.slx rp 0 1 1 1)=some (.int .i64 1, .no):=rfl;have h01:(0:Int)<1:=by omega
 simp only[CT,Tryz.f90,XY,simprocAttr];rw[Jb];simp only[XY,simprocAttr,hn0];refine Js ?_;intro S2 hS2;have G1:Gr S S2:=by rw[hS2];exact((Gr.new hw (Ja _)).nn (Ja _)).nn (Ja _)
 obtain⟨p4,hp4⟩:=exE (up 0 n0);obtain⟨p5,hp5⟩:=exE (up 1 n0);obtain⟨p6,hp6⟩:=exE (up 2 n0);obtain⟨t4,r4⟩:∃t,S2.row p4= .cells t [.int .i64 (id:Nat), .snil, .snil]:=⟨_,by rw[hS2,hp4];simp only[XZ,simprocAttr,hn0];rfl⟩
 obtain⟨t5,r5⟩:∃t,S2.row p5= .cells t (ndR 2 a0 [] [] (.slx rp 0 1 1 1)):=⟨_,by rw[hS2,hp5];simp only[XZ,simprocAttr,hn0];rfl⟩
 obtain⟨t6,r6⟩:∃t,S2.row p6= .cells t [.int .i64 0, .snil, .snil]:=⟨_,by rw[hS2,hp6];simp only[XZ,simprocAttr,hn0];rfl⟩
 have p4n:S.row p4= .none:=by rw[hp4];exact nx0 hw hn0 0
 have p6n:S.row p6= .none:=by rw[hp6];exact nx0 hw hn0 2
 rw[<-hp4,<-hp5,<-hp6];clear hS2;have r2:=G1.cells hr;rw[Jb];simp only[XY,simprocAttr,r4];rw[Je,Jb];simp only[XY,simprocAttr,r5,l1,h01];rw[Jb];simp only[XY,simprocAttr,r2,r4,r5];refine Ji (P:=fun v _=>v= .tup [.int .i64 0, .int .i64 16]) (rofN ((hD.fz G1).low _) ho hol hno (G1.cells hp) (G1.cells hc) (G1.cells hq) hl) ?_;rintro _ S3 G3 rfl;have r3:=G3.cells r2;have r43:=G3.cells r4;have r53:=G3.cells r5;have r63:=G3.cells r6;have G13:=G1.trans G3;simp only[XY,simprocAttr];rw[Je,Jb];simp only[XY,simprocAttr];rw[Jb];simp only[XY,simprocAttr,r53];refine Jd (JrF G3.wf r3 (One.of rfl)) ?_;rintro _ S4 ⟨rfl,C4,t4',r4'⟩;have k4:∀p t l,S3.row p= .cells t l->S.row p= .none->S4.row p= .cells t l:=fun p t l hp hp0=>by
  rw[C4.same p (Jc hp) fun h=>Jc hr (by rw[<-h];exact hp0)];exact hp
 have r44:=k4 _ _ _ r43 p4n;have r64:=k4 _ _ _ r63 p6n;have p6w:p6≠w:=fun e=>Jc hr (by rw[<-e];exact p6n);simp only[XZ,simprocAttr,r44,r64];refine fin _ _ (fun r e hW=> ?_) fun _=>⟨rfl,t4',by rw[Jk,if_neg (Ne.symm p6w)];exact r4'⟩
 rw[Jk,if_neg fun x=>e (by rw[x];exact p6n),C4.same r (by rw[G13.same r e];exact e) hW,G13.same r e]
theorem JrH {Sb S:St}{w ru:Pt}{nv bv:V}{id:Nat}{xs:List (Bool×Int)}(h:WkS Sb S w ru nv .snil [])(hn:SlAt (fun r=>Sb.row r≠ .none) Sb nv 1 [[ofL [116]]])(hb:SlAt (fun r=>Sb.row r≠ .none) Sb bv 9 (xs.map nodX))(hx:xs.length<1000):
  Does (tabT tabD) 57 [.ptr w 0,envE id,bv] S fun v S'=>v= .tup []/\∃cv',WkS Sb S' w ru nv cv' (clsX id xs):=by
 refine Jy (aT Tryz.func57 rfl) rfl ?_;obtain⟨tw,rw_⟩:=h.c;have hw:=h.g.wf;have lb:=hb.len;rw[List.length_map]at lb;obtain⟨n0,hn0⟩:=nxE S;simp only[CT,Tryz.f57,XY,simprocAttr];rw[Jb];simp only[XY,simprocAttr,hn0];refine Js ?_;intro S1 hS1;have G1:Gr S S1:=by rw[hS1];exact Gr.new hw (Ja _)
 obtain⟨p4,hp4⟩:=exE (up 0 n0);obtain⟨t4,r4⟩:∃t,S1.row p4= .cells t [.int .i64 (id:Nat), .snil, .snil]:=⟨_,by rw[hS1,hp4];simp only[XZ,simprocAttr,hn0];rfl⟩
 have p4n:S.row p4= .none:=by rw[hp4];exact nx0 hw hn0 0
 have p4w:p4≠w:=fun e=>Jc rw_ (by rw[<-e];exact p4n);have p4b:Sb.row p4= .none:=Classical.byContradiction fun c=>c ((h.g.same _ c).symm.trans p4n);rw[<-hp4];have W1:=h.gr G1;clear hS1;rw[Jb];simp only[XY,simprocAttr];obtain⟨L,hL⟩:=loE fun j fr S'=>∃(i:Nat) (cv':V),j+i=xs.length/\fr 0= .ptr w 0/\fr 2=bv/\fr 4= .ptr p4 0/\fr 6= .int .i64 (i:Nat)/\WkS Sb S' w ru nv cv' (clsX id (xs.take i))/\(∃t,S'.row p4= .cells t [.int .i64 (id:Nat), .snil, .snil])/\rowOf cv'≠some p4;refine Jn L xs.length (by omega) ((hL _ _ _).2 ⟨0, .snil,by omega,by simp only[XZ,simprocAttr],by simp only[XZ,simprocAttr],by simp only[XZ,simprocAttr],by simp only[XZ,simprocAttr]<;>rfl,W1,⟨t4,r4⟩,fun e=>by cases e⟩) ?_;clear W1 r4 rw_ tw;intro j fr S2 hLj;obtain⟨i,cv2,hj,f0,f2,f4,f6,W2,⟨t42,r42⟩,a42⟩:=(hL _ _ _).1 hLj;obtain⟨tw,rw_⟩:=W2.c;by_cases hi:i<xs.length;rotate_left
 ·have hi':¬(i:Int)<xs.length:=by omega
  rw[List.take_of_length_le (by omega)]at W2;simp only[XZ,simprocAttr,f2,f6,lb,hi'];exact⟨cv2,W2⟩
 have hi':(i:Int)<xs.length:=by omega
 have hadd1:IntKind.i64.wrap ((i:Int)+1)=((i+1:Nat):Int):=by rw[Jo (by omega) (by omega)];rfl
 obtain⟨r,o,a1,_,_,a2,_⟩:=(hb.imp (Q:=fun _=>True) (st':=S2) fun r e _=>⟨trivial,W2.g.same r e⟩).elem (i:=i) (by rw[List.length_map];exact hi);rw[List.getElem_map]at a2;obtain⟨x,hx'⟩:=exE (xs[i]);rw[<-hx']at a2;have htk:clsX id (xs.take (i+1))=clsX id (xs.take i)++(if x.1 then[([116],id)]else[]):=by rw[List.take_add_one,List.getElem?_eq_getElem hi,hx'];exact Jcz id _ _
 have cvr:∀r,rowOf cv2=some r->S2.row r≠ .none:=fun r hr=>W2.l.some hr;rw[Je,Jb];simp only[XY,simprocAttr,f0,f2,f6,lb,hi',rw_];rw[Je];simp only[XY,simprocAttr,f0,f2,f4,f6,r42,a1,a2];unfold nodX
 cases hx1:x.1 with
 | true=>
   rw[hx1]at htk;simp only[if_true]at htk⊢;refine jp W2.g.wf (JpS (W2.low _) hn (by have:=JeT id (xs.take i);have:(xs.take i).length<=i:=List.length_take_le _ _;omega)) ?_;rintro _ S6x lo C6 ⟨rfl,cv6,W6,f6'⟩
   replace W6:=W6.low lo
   obtain⟨S6,hS6'⟩:=exE ({S6x with low:=lo});rw[<-hS6']at C6 W6⊢;clear hS6';have r46:S6.row p4= .cells t42 [.int .i64 (id:Nat), .snil, .snil]:=by
    rw[C6.same p4 (Jc r42) fun h=>by rcases h with h|h;exact p4w h;exact a42 h];exact r42
   have c64:rowOf cv6≠some p4:=fun e=>Jc r42 (f6' p4 e);obtain⟨tw6,rw6⟩:=W6.c;have k3:∀r,r≠p4->(S6.wr p4 t42 fun u=>Row.cells u [V.int IntKind.i64 (id:Nat),V.snil,V.snil]).row r=S6.row r:=fun r e=>by rw[Jk,if_neg e]
   simp only[XZ,simprocAttr,f0,f2,f4,f6,r46,hadd1];exact⟨xs.length-(i+1),by omega,(hL _ _ _).2 ⟨i+1,cv6,by omega,by simp only[XZ,simprocAttr,f0],by simp only[XZ,simprocAttr,f2],by simp only[XZ,simprocAttr,f4],by simp only[XZ,simprocAttr],⟨Gr.relow (W6.g.wr p4b (Jc r46) (by rw[r46]<;>rfl) (Ja _)) _,W6.wn,⟨tw6,by rw[k3 _ (Ne.symm p4w)];exact rw6⟩,by rw[htk];exact W6.l.keep fun r hr=>k3 r fun e=>c64 (by rw[<-e];exact hr),W6.aw,W6.n⟩,⟨_,by rw[Jk,if_pos rfl]⟩,c64⟩⟩
 | false=>
   rw[hx1]at htk;simp only[Bool.false_eq_true,if_false,List.append_nil]at htk⊢;refine Ji (P:=fun v _=>v=envE id) (JpR (JD W2.g.wf _)) ?_;rintro _ S6 G6 rfl;have W6:=W2.gr G6;have r46:=G6.cells r42;obtain⟨tw6,rw6⟩:=W6.c;have k3:∀r,r≠p4->(S6.wr p4 t42 fun u=>Row.cells u [V.int IntKind.i64 (id:Nat),V.snil,V.snil]).row r=S6.row r:=fun r e=>by rw[Jk,if_neg e]
   simp only[XZ,simprocAttr,f0,f2,f4,f6,r46,hadd1];exact⟨xs.length-(i+1),by omega,(hL _ _ _).2 ⟨i+1,cv2,by omega,by simp only[XZ,simprocAttr,f0],by simp only[XZ,simprocAttr,f2],by simp only[XZ,simprocAttr,f4],by simp only[XZ,simprocAttr],⟨Gr.relow (W6.g.wr p4b (Jc r46) (by rw[r46]<;>rfl) (Ja _)) _,W6.wn,⟨tw6,by rw[k3 _ (Ne.symm p4w)];exact rw6⟩,by rw[htk];exact W6.l.keep fun r hr=>k3 r fun e=>a42 (by rw[<-e];exact hr),W6.aw,W6.n⟩,⟨_,by rw[Jk,if_pos rfl]⟩,a42⟩⟩
theorem JoI {S1 S:St}{s:Sch}{tb:Tb}{w ru rb rp rc rq:Pt}{id o:Nat}{a0:Int}{nv cv:V}{tw tr tp tc tq:Nat}{l:List V}(hD:RD S1 S s tb ru)(hw:WF S)(ho:Kh tb (tb.nodes.length+1) id=(o,true))(hol:o<tb.nodes.length)(hno:YP tb)
  (hb:S.row rb= .cells tr (ndR 2 a0 [] [] (.slx rp 0 1 1 1))) (hp:S.row rp= .cells tp [.slx rc 0 1 7 1]) (hc:S.row rc= .cells tc (Q3 rq)) (hq:S.row rq= .cells tq (ofL Qf::l)) (hl:l.length=2)
  (hr:S.row w= .cells tw [.ptr ru 0,nv,cv, .int .i64 0, .int .i64 0]):
  Does (tabT tabD) 57 [.ptr w 0,envE id, .sl rb 0 1 9] S fun v S'=>v= .tup []/\Ch (fun r=>r=w) S S'/\∃t,S'.row w= .cells t [.ptr ru 0,nv,cv, .int .i64 a0, .int .i64 16]:=by
 refine(QS (Q:=fun v S'=>v= .tup []/\∃t,S'.row w= .cells t [.ptr ru 0,nv,cv, .int .i64 a0, .int .i64 16]) (W:=fun r=>r=w) tabM (aT Tryz.func57 rfl) rfl hw fun K fin=> ?_).mono fun v S' ⟨a,b,c⟩=>⟨b,a,c⟩
 obtain⟨n0,hn0⟩:=nxE S;have lb:Kf (.sl rb 0 1 9)=some (.int .i64 1, .no):=rfl;have i0:JJ 9 (.sl rb 0 1 9) (.int .i64 0)=some (.ptr rb 0, .no):=rfl;have h01:(0:Int)<1:=by omega
 have h11:¬(1:Int)<1:=by omega
 have hadd1:IntKind.i64.wrap ((0:Int)+1)=1:=by decide
 simp only[CT,Tryz.f57,XY,simprocAttr];rw[Jb];simp only[XY,simprocAttr,hn0];refine Js ?_;intro S2 hS2;have G1:Gr S S2:=by rw[hS2];exact Gr.new hw (Ja _)
 obtain⟨p4,hp4⟩:=exE (up 0 n0);obtain⟨t4,r4⟩:∃t,S2.row p4= .cells t [.int .i64 (id:Nat), .snil, .snil]:=⟨_,by rw[hS2,hp4];simp only[XZ,simprocAttr,hn0];rfl⟩
 have p4n:S.row p4= .none:=by rw[hp4];exact nx0 hw hn0 0
 have p4w:p4≠w:=fun e=>Jc hr (by rw[<-e];exact p4n);rw[<-hp4];clear hS2;have r2:=G1.cells hr;have hd:ldn (S2.row rb) 0 9=some (.agg (ndR 2 a0 [] [] (.slx rp 0 1 1 1)), .no):=by rw[G1.cells hb];rfl
 rw[Jb];simp only[XY,simprocAttr];obtain⟨L,hL⟩:=loE fun j fr S'=>fr 0= .ptr w 0/\fr 2= .sl rb 0 1 9/\fr 4= .ptr p4 0/\((j=1/\fr 6= .int .i64 0/\S'=S2)\/(j=0/\fr 6= .int .i64 1/\(∀r,S.row r≠ .none->¬r=w->S'.row r=S.row r)/\∃t,S'.row w= .cells t [.ptr ru 0,nv,cv, .int .i64 a0, .int .i64 16]));refine Jn L 1 (by omega) ((hL _ _ _).2 ⟨by simp only[XZ,simprocAttr],by simp only[XZ,simprocAttr],by simp only[XZ,simprocAttr], .inl ⟨rfl,by simp only[XZ,simprocAttr],rfl⟩⟩) ?_;intro j fr S3 hLj;obtain⟨f0,f2,f4,hj⟩:=(hL _ _ _).1 hLj;rcases hj with⟨rfl,f6,rfl⟩|⟨rfl,f6,k3,t3,r3⟩
 ·rw[Je,Jb];simp only[XY,simprocAttr,f0,f2,f6,lb,h01,r2];rw[Je];simp only[XY,simprocAttr,f0,f2,f4,f6,r4,i0,hd];refine jp G1.wf (JoH ((hD.fz G1).low _) (JD G1.wf _) ho hol hno (G1.cells hp) (G1.cells hc) (G1.cells hq) hl r2) ?_;rintro _ S4x lo C4 ⟨rfl,t4',r4'⟩;have r4':({S4x with low:=lo}:St).row w= .cells t4' [.ptr ru 0,nv,cv, .int .i64 a0, .int .i64 16]:=r4';obtain⟨S4,hS4'⟩:=exE ({S4x with low:=lo});rw[<-hS4']at C4 r4'⊢;clear hS4';have r44:S4.row p4= .cells t4 [.int .i64 (id:Nat), .snil, .snil]:=by rw[C4.same p4 (Jc r4) p4w];exact r4
  simp only[XZ,simprocAttr,f0,f2,f4,f6,r44,hadd1];exact⟨0,by omega,(hL _ _ _).2 ⟨by simp only[XZ,simprocAttr,f0],by simp only[XZ,simprocAttr,f2],by simp only[XZ,simprocAttr,f4], .inr ⟨rfl,by simp only[XZ,simprocAttr],fun r e hW=>by rw[Jk,if_neg fun x=>e (by rw[x];exact p4n),C4.same r (by rw[G1.same r e];exact e) hW,G1.same r e],t4',by rw[Jk,if_neg (Ne.symm p4w)];exact r4'⟩⟩⟩
 ·simp only[XZ,simprocAttr,f2,f6,lb,h11];exact fin _ _ (fun r e hW=>k3 r e hW) fun _=>⟨rfl,t3,r3⟩
theorem JrI {S:St}{ru:Pt}{nv bv:V}{id:Nat}{xs:List (Bool×Int)}(hw:WF S)(h1:One nv)(hn:SlAt (fun r=>S.row r≠ .none) S nv 1 [[ofL [116]]])(hb:SlAt (fun r=>S.row r≠ .none) S bv 9 (xs.map nodX))(hx:xs.length<1000):
  Does (tabT tabD) 26 [.ptr ru 0,nv, .int .i64 (id:Nat),bv] S fun v S'=>Gr S S'/\∃cv,v= .tup [cv, .int .i64 0, .int .i64 0]/\SlF S S' cv 2 ((clsX id xs).map clE):=by
 refine Ju tabM (aT Tryz.func26 rfl) rfl hw fun K fin=> ?_;obtain⟨n0,hn0⟩:=nxE S;simp only[CT,Tryz.f26,XY,simprocAttr];rw[Jb];simp only[XY,simprocAttr];rw[Jb];simp only[XY,simprocAttr,hn0,h1.1,h1.2];refine Js ?_;intro S1 hS1;have G1:Gr S S1:=by rw[hS1];exact Gr.new hw (Ja _)
 obtain⟨w,hpw⟩:=exE (up 0 n0);obtain⟨t1,r1⟩:∃t,S1.row w= .cells t [.ptr ru 0,nv, .snil, .int .i64 0, .int .i64 0]:=⟨_,by rw[hS1,hpw];simp only[XZ,simprocAttr,hn0];rfl⟩
 have wn:S.row w= .none:=by rw[hpw];exact nx0 hw hn0 0
 rw[<-hpw];clear hS1;have W1:WkS S S1 w ru nv .snil []:=⟨Gr.relow (x:=S.low) G1 _,wn,⟨t1,r1⟩,SlF.nil _ _ _,fun e=>(by cases e),h1⟩
 rw[Jb];simp only[XY,simprocAttr];refine Jd (JrH W1 hn hb hx) ?_;rintro _ S2 ⟨rfl,cv,W2⟩;obtain⟨t2,r2⟩:=W2.c;simp only[XZ,simprocAttr,r2];exact fin _ _ (fun r e=>W2.g.same r e) fun _=>⟨cv,rfl,W2.l⟩
theorem JoJ {S1 S:St}{s:Sch}{tb:Tb}{ru rb rp rc rq:Pt}{id o:Nat}{a0:Int}{nv:V}{tr tp tc tq:Nat}{l:List V}(hD:RD S1 S s tb ru)(hw:WF S)(h1:One nv)(ho:Kh tb (tb.nodes.length+1) id=(o,true))(hol:o<tb.nodes.length)(hno:YP tb)
  (hb:S.row rb= .cells tr (ndR 2 a0 [] [] (.slx rp 0 1 1 1))) (hp:S.row rp= .cells tp [.slx rc 0 1 7 1]) (hc:S.row rc= .cells tc (Q3 rq)) (hq:S.row rq= .cells tq (ofL Qf::l)) (hl:l.length=2):
  Does (tabT tabD) 26 [.ptr ru 0,nv, .int .i64 (id:Nat), .sl rb 0 1 9] S fun v S'=>Gr S S'/\v= .tup [.snil, .int .i64 a0, .int .i64 16]:=by
 refine Ju tabM (aT Tryz.func26 rfl) rfl hw fun K fin=> ?_;obtain⟨n0,hn0⟩:=nxE S;simp only[CT,Tryz.f26,XY,simprocAttr];rw[Jb];simp only[XY,simprocAttr];rw[Jb];simp only[XY,simprocAttr,hn0,h1.1,h1.2];refine Js ?_;intro S2 hS2;have G1:Gr S S2:=by rw[hS2];exact Gr.new hw (Ja _)
 obtain⟨w,hpw⟩:=exE (up 0 n0);obtain⟨t1,r1⟩:∃t,S2.row w= .cells t [.ptr ru 0,nv, .snil, .int .i64 0, .int .i64 0]:=⟨_,by rw[hS2,hpw];simp only[XZ,simprocAttr,hn0];rfl⟩
 have wn:S.row w= .none:=by rw[hpw];exact nx0 hw hn0 0
 rw[<-hpw];clear hS2;rw[Jb];simp only[XY,simprocAttr];refine Jd (JoI (hD.fz G1) G1.wf ho hol hno (G1.cells hb) (G1.cells hp) (G1.cells hc) (G1.cells hq) hl r1) ?_;rintro _ S3 ⟨rfl,C3,t3,r3⟩;simp only[XZ,simprocAttr,r3];exact fin _ _ (fun r e=>by rw[C3.same r (by rw[G1.same r e];exact e) fun x=>e (by rw[x];exact wn),G1.same r e]) fun _=>rfl
theorem JsB {W F:Pt->Prop}{S:St}{rt q:Pt}{tb:Tb}{id:Nat}{bv:V}{xs:List (Bool×Int)}(hw:WF S)(hT:Tab W F S rt tb)(hop:Jga tb)(h0:0<tb.nodes.length)(hq:∃t,S.row q= .cells t [ofL [116]])(hb:SlAt (fun _=>True) S bv 9 (xs.map nodX))(hx:xs.length<1000):
  Does (tabT tabD) 25 [.ptr rt 0, .sl q 0 1 1, .int .i64 (id:Nat),bv] S (JoG (.inr (clsX id xs)) S):=by
 refine Jy (aT Tryz.func25 rfl) rfl ?_;obtain⟨n0,hn0⟩:=nxE S;obtain⟨tq,hq⟩:=hq;simp only[CT,Tryz.f25,XY,simprocAttr];rw[Jb];simp only[XY,simprocAttr];rw[Jb];simp only[XY,simprocAttr,hn0];refine Js ?_;intro S1 hS1;have G1:Gr S S1:=by rw[hS1];exact Gr.new hw (Ja _)
 obtain⟨w,hpw⟩:=exE (up 0 n0);obtain⟨t1,r1⟩:∃t,S1.row w= .cells t [.ptr rt 0, .sl q 0 1 1, .snil, .int .i64 (-1)]:=⟨_,by rw[hS1,hpw];simp only[XZ,simprocAttr,hn0];rfl⟩
 have wn:S.row w= .none:=by rw[hpw];exact nx0 hw hn0 0
 rw[<-hpw];clear hS1;have W1:WkR S S1 w rt q .snil (-1) []:=⟨G1,wn,⟨t1,r1⟩,SlF.nil _ _ _,fun e=>by cases e⟩
 rw[Je,Jb];simp only[XY,simprocAttr];refine Jd (rowM hT hop h0 W1 (Jc hq) ⟨tq,hq⟩ (hb.imp fun r _ e=>⟨e,rfl⟩) hx) ?_;rintro _ S2 ⟨rfl,cv,W2⟩;obtain⟨t2,r2⟩:=W2.c;simp only[XZ,simprocAttr,r2];exact⟨Fz.ofGr W2.g,cv,rfl,W2.l⟩
theorem JpT {W F:Pt->Prop}{S:St}{rt q rp rc rq rb:Pt}{tb:Tb}{id o:Nat}{names:V}{a0:Int}{tp tc tq tr:Nat}{l:List V}(hnm:names.sc=true)(hw:WF S)(hT:Tab W F S rt tb)(ho:Kh tb (tb.nodes.length+1) id=(o,true))(hol:o<tb.nodes.length)(hno:YP tb)
  (hr:S.row rb= .cells tr (ndR 2 a0 [] [] (.slx rp 0 1 1 1))) (hp:S.row rp= .cells tp [.slx rc 0 1 7 1]) (hc:S.row rc= .cells tc (Q3 rq)) (hq:S.row rq= .cells tq (ofL Qf::l)) (hl:l.length=2):
  Does (tabT tabD) 25 [.ptr rt 0,names, .int .i64 (id:Nat), .sl rb 0 1 9] S (JoG (.inl (16,a0)) S):=by
 refine Jy (aT Tryz.func25 rfl) rfl ?_;have cn:=(One.of hnm).2;obtain⟨n0,hn0⟩:=nxE S;simp only[CT,Tryz.f25,XY,simprocAttr];rw[Jb];simp only[XY,simprocAttr];rw[Jb];simp only[XY,simprocAttr,hn0,hnm,cn];refine Js ?_;intro S1 hS1;have G1:Gr S S1:=by rw[hS1];exact Gr.new hw (Ja _)
 obtain⟨w,hpw⟩:=exE (up 0 n0);obtain⟨t1,r1⟩:∃t,S1.row w= .cells t [.ptr rt 0,names, .snil, .int .i64 (-1)]:=⟨_,by rw[hS1,hpw];simp only[XZ,simprocAttr,hn0];rfl⟩
 have wn:S.row w= .none:=by rw[hpw];exact nx0 hw hn0 0
 rw[<-hpw];clear hS1;have key:Does (tabT tabD) 56 [.ptr w 0,envE id, .sl rb 0 1 9] S1 fun v S'=>v= .int .i64 16/\Ch (fun r=>r=w) S1 S'/\∃t,S'.row w= .cells t [.ptr rt 0,names, .snil, .int .i64 a0]:=by
  refine Jy (aT Tryz.func56 rfl) rfl ?_;obtain⟨n1,hn1⟩:=nxE S1;simp only[CT,Tryz.f56,XY,simprocAttr];rw[Jb];simp only[XY,simprocAttr,hn1];refine Js ?_;intro S2 hS2;have G2:Gr S1 S2:=by rw[hS2];exact Gr.new G1.wf (Ja _)
  obtain⟨p4,hp4⟩:=exE (up 0 n1);obtain⟨t4,r4⟩:∃t,S2.row p4= .cells t [.int .i64 (id:Nat), .snil, .snil]:=⟨_,by rw[hS2,hp4];simp only[XZ,simprocAttr,hn1];rfl⟩
  rw[<-hp4];clear hS2;have r12:=G2.cells r1;have lb:Kf (.sl rb 0 1 9)=some (.int .i64 1, .no):=rfl;have i0:JJ 9 (.sl rb 0 1 9) (.int .i64 0)=some (.ptr rb 0, .no):=rfl;have lp:Kf (.slx rp 0 1 1 1)=some (.int .i64 1, .no):=rfl;have h01:(0:Int)<1:=by omega
  have G02:=G1.trans G2;have hd:ldn (S2.row rb) 0 9=some (.agg (ndR 2 a0 [] [] (.slx rp 0 1 1 1)), .no):=by rw[G02.cells hr];rfl
  rw[Je,Jb];simp only[XY,simprocAttr,lb];obtain⟨L,hL⟩:=loE fun j fr S'=>j=0/\fr 0= .ptr w 0/\fr 4= .ptr p4 0/\fr 12= .sl rb 0 1 9/\fr 13= .int .i64 1/\fr 14= .int .i64 0/\S'=S2;refine Jn L 0 (by omega) ((hL _ _ _).2 ⟨rfl,rfl,rfl,rfl,rfl,rfl,rfl⟩) ?_;intro j fr S3 hLj;obtain⟨rfl,f0,f4,f12,f13,f14,rfl⟩:=(hL _ _ _).1 hLj;obtain⟨n2,hn2⟩:=nxE S3;rw[Jb];simp only[XY,simprocAttr,f13,f14,h01];rw[Je];simp only[XY,simprocAttr];rw[Je];simp only[XY,simprocAttr];rw[Jb];simp only[XY,simprocAttr,f12,f14,i0,hd,hn2];refine Js ?_;intro S4 hS4;have G4:Gr S3 S4:=by rw[hS4];exact(Gr.refl G02.wf).nw hn2 (Ja _) (Ja _)
  obtain⟨p8,hp8⟩:=exE (up 0 n2);obtain⟨t8,r8⟩:∃t,S4.row p8= .cells t (ndR 2 a0 [] [] (.slx rp 0 1 1 1)):=⟨_,by rw[hS4,hp8];simp only[XZ,simprocAttr,hn2];rfl⟩
  have p8n:S3.row p8= .none:=by rw[hp8];exact nx0 G02.wf hn2 0
  have p8w:p8≠w:=fun e=>Jc r12 (by rw[<-e];exact p8n);rw[<-hp8];clear hS4;have G04:=G02.trans G4;have r14:=G4.cells r12;have r44:=G4.cells r4;rw[Jb];simp only[XY,simprocAttr];rw[Je,Jb];simp only[XY,simprocAttr,r8,f0,f4,r14,r44];refine Ji (P:=fun v _=>v= .tup [.int .i64 0, .int .i64 16]) (ofR (JD G04.wf _) ((hT.gr G04).keep fun r _ _=>rfl) ho hol hno (G04.cells hp) (G04.cells hc) (G04.cells hq) hl) ?_;rintro _ S5 G5 rfl;have r15:=G5.cells r14;have r85:=G5.cells r8;simp only[XY,simprocAttr];rw[Jb];simp only[XY,simprocAttr,f0,r15];rw[Jb];simp only[XY,simprocAttr,f0,r15];obtain⟨S6,hS6⟩:=exE (S5.wr w t1 fun u=>Row.cells u [.ptr rt 0,names, .snil, .int .i64 (-1)]);have G15:=(G2.trans G4).trans G5;have C6:Ch (fun r=>r=w) S1 S6:=by rw[hS6];exact(Ch.of (fun r=>r=w) G15).wr (Jc r15) (by rw[r15];rfl) (.inl rfl) (Ja _)
  have r16:S6.row w= .cells S5.t [.ptr rt 0,names, .snil, .int .i64 (-1)]:=by rw[hS6,Jk,if_pos rfl]
  have r86:S6.row p8= .cells t8 (ndR 2 a0 [] [] (.slx rp 0 1 1 1)):=by rw[hS6,Jk,if_neg p8w,r85]
  rw[<-hS6];clear hS6;have hm:(-1:Int)<0:=by omega
  rw[Je,Jb];simp only[XY,simprocAttr];rw[Je,Jb];simp only[XY,simprocAttr];rw[Je,Jb];simp only[XY,simprocAttr,f0,r16,hm];simp only[XZ,simprocAttr,f0,r16,r86];exact⟨C6.wr (Jc r16) (by rw[r16];rfl) (.inl rfl) (Ja _),_,rfl⟩
 rw[Je,Jb];simp only[XY,simprocAttr];refine Jd key ?_;rintro _ S2 ⟨rfl,C2,t2,r2⟩;simp only[XZ,simprocAttr,r2];refine⟨Fz.of ((Ch.of (fun r=>r=w) G1).trans C2 fun r w=> .inl w) fun r e=>by rw[e];exact wn, .snil,rfl,rfl⟩
theorem Jae {P:Pt->Prop}{st:St}{v:V}{es:List (List V)}(hw:WF st)(h:SlAt P st v 4 es)(hok:okC es)(hn:es.length<2^20):
  Does (tabT tabD) 52 [v] st fun v' st'=>Gr st st'/\SlF st st' v' 4 es:=by
 refine Does.gr tabM hw (Jy (aT Tryz.func52 rfl) rfl ?_);obtain⟨n,hn0⟩:=nxE st;have hold:=fun r (h:st.row r≠ .none)=>YJ hw hn0 h;rcases h.2 with⟨rfl,rfl⟩|⟨r,o,hp,hv,l,hl,h1,h2⟩
 ·have e1:eqV (.one .l) false .snil .snil=some (.bool true, .no):=rfl;simp only[CT,Tryz.f52,XZ,simprocAttr,e1];exact⟨fun _ _=>trivial,SlF.nil _ _ _⟩
 ·have e1:eqV (.one .l) false v .snil=some (.bool false, .no):=by rcases hv with rfl|⟨c,_,rfl⟩<;>rfl
  have h':SlAt P (st.new fun t=> .cells t []) v 4 es:=h.imp fun r p e=>⟨p,Ko hw _ e⟩
  have r0:=JG st fun t=> .cells t [];have ha:appV (st.new fun t=> .cells t []) 4 (.slx st.nx 0 0 4 0) v=if 0<es.length then some (.sl (st.new fun t=> .cells t []).nx 0 es.length 4, .new fun u=> .cells u es.flatten)else some (.slx st.nx 0 0 4 0, .no):=by
   by_cases h0:0<es.length
   ·rw[if_pos h0];exact Jao h' hok hn h0 r0
   ·rw[if_neg h0];have:es=[]:=List.length_eq_zero_iff.1 (by omega);subst this;exact jZ h'
  rw[hn0]at ha;by_cases h0:0<es.length
  ·simp only[h0]at ha;simp only[CT,Tryz.f52,XZ,simprocAttr,e1,hn0,JaN,ha];refine⟨fun r hr=>by simp only[hold r hr,if_false],⟨h.1, .inr ⟨up 1 n,(st.new fun t=> .cells t []).t,nx0 hw hn0 1,by simp only[XZ,simprocAttr,hn0], .inl rfl⟩⟩⟩
  ·simp only[h0]at ha;simp only[CT,Tryz.f52,XZ,simprocAttr,e1,hn0,JaN,ha];have:es=[]:=List.length_eq_zero_iff.1 (by omega);subst this;exact⟨fun r hr=>by simp only[hold r hr,if_false],⟨h.1, .inr ⟨up 0 n,st.t,nx0 hw hn0 0,by simp only[XZ,simprocAttr,hn0,List.flatten_nil], .inr rfl⟩⟩⟩
theorem Ji2 {P:Pt->Prop}{st:St}{v:V}{es:List (List V)}(hw:WF st)(h:SlAt P st v 2 es)(hok:okC es)(hn:es.length<2^20):
  Does (tabT tabD) 32 [v] st fun v' st'=>Gr st st'/\SlF st st' v' 2 es:=by
 refine Does.gr tabM hw (Jy (aT Tryz.func32 rfl) rfl ?_);obtain⟨n,hn0⟩:=nxE st;have hold:=fun r (h:st.row r≠ .none)=>YJ hw hn0 h;rcases h.2 with⟨rfl,rfl⟩|⟨r,o,hp,hv,l,hl,h1,h2⟩
 ·have e1:eqV (.one .l) false .snil .snil=some (.bool true, .no):=rfl;simp only[CT,Tryz.f32,XZ,simprocAttr,e1];exact⟨fun _ _=>trivial,SlF.nil _ _ _⟩
 ·have e1:eqV (.one .l) false v .snil=some (.bool false, .no):=by rcases hv with rfl|⟨c,_,rfl⟩<;>rfl
  have h':SlAt P (st.new fun t=> .cells t []) v 2 es:=h.imp fun r p e=>⟨p,Ko hw _ e⟩
  have r0:=JG st fun t=> .cells t [];have ha:appV (st.new fun t=> .cells t []) 2 (.slx st.nx 0 0 2 0) v=if 0<es.length then some (.sl (st.new fun t=> .cells t []).nx 0 es.length 2, .new fun u=> .cells u es.flatten)else some (.slx st.nx 0 0 2 0, .no):=by
   by_cases h0:0<es.length
   ·rw[if_pos h0];exact Jao h' hok hn h0 r0
   ·rw[if_neg h0];have:es=[]:=List.length_eq_zero_iff.1 (by omega);subst this;exact jZ h'
  rw[hn0]at ha;by_cases h0:0<es.length
  ·simp only[h0]at ha;simp only[CT,Tryz.f32,XZ,simprocAttr,e1,hn0,JaN,ha];refine⟨fun r hr=>by simp only[hold r hr,if_false],⟨h.1, .inr ⟨up 1 n,(st.new fun t=> .cells t []).t,nx0 hw hn0 1,by simp only[XZ,simprocAttr,hn0], .inl rfl⟩⟩⟩
  ·simp only[h0]at ha;simp only[CT,Tryz.f32,XZ,simprocAttr,e1,hn0,JaN,ha];have:es=[]:=List.length_eq_zero_iff.1 (by omega);subst this;exact⟨fun r hr=>by simp only[hold r hr,if_false],⟨h.1, .inr ⟨up 0 n,st.t,nx0 hw hn0 0,by simp only[XZ,simprocAttr,hn0,List.flatten_nil], .inr rfl⟩⟩⟩
theorem JoK (mm:Nat):∀(X:Ty),tsz X<mm->∀{P:Pt->Prop} {st:St} {e:List V},WF st->TyC P st e X->fitT X=true->Does (tabT tabD) 53 [.agg e] st fun v S=>Gr st S/\∃k nm a b,v= .agg [.int .i64 k,ofL nm,a,b]/\a.sc=true/\b.sc=true:=by
 induction mm with
 |zero=>intro X h;exact absurd h (Nat.not_lt_zero _)
 |succ mm ih=>
 intro X hX P st e hw hx hfit;obtain⟨k,n,ns,ks⟩:=X;obtain⟨hn8,hk8,hfk⟩:=qf hfit;obtain⟨nv,kv,es,rfl,x1,x2,x3,x4⟩:=hx.inv';have c1:=x1.cells;have c2:=x1.sc;have c3:=x2.cells;have c4:=x2.sc;refine Ju tabM (aT Tryz.func53 rfl) rfl hw fun K fin=> ?_;obtain⟨n0,hn0⟩:=nxE st;simp only[CT,Tryz.f53,XY,simprocAttr];rw[Jb];simp only[XY,simprocAttr,hn0,c1,c2,c3,c4];refine Js ?_;intro S1 hS1;have G1:Gr st S1:=by rw[hS1];exact(Gr.new hw (Ja _)).nn (Ja _)
 obtain⟨p1,hp1⟩:=exE (up 0 n0);obtain⟨p2,hp2⟩:=exE (up 1 n0);obtain⟨t1,r1⟩:∃t,S1.row p1= .cells t [.int .i64 k,ofL n,nv,kv]:=⟨_,by rw[hS1,hp1];simp only[XZ,simprocAttr,hn0];rfl⟩
 obtain⟨t2,r2⟩:∃t,S1.row p2= .cells t [.int .i64 0,ofL [], .snil, .snil]:=⟨_,by rw[hS1,hp2];simp only[XZ,simprocAttr,hn0];rfl⟩
 have p1n:st.row p1= .none:=by rw[hp1];exact nx0 hw hn0 0
 have p2n:st.row p2= .none:=by rw[hp2];exact nx0 hw hn0 1
 have p12:p1≠p2:=by rw[hp1,hp2];exact fun e=>by have:=congrArg Pt.num e;rw[Qt,Qt]at this;omega
 rw[<-hp1,<-hp2];clear hS1;have okn:okC (strs ns):=kf _;have okk:okC es:=fun a ha=>by
  obtain⟨i,hi,rfl⟩:=List.getElem_of_mem ha;exact(x4 i hi (by omega)).ok
 rw[Jb];simp only[XY,simprocAttr,r1];refine Ji (qr (Q:=fun _=>True) (JD G1.wf _) ((x1.gr G1).low _) okn (by rw[JW];omega) fun _ _=>trivial) ?_;rintro na S2 G2 hna;have r12:=G2.cells r1;simp only[XY,simprocAttr,r12];refine Ji (Jae (JD G2.wf _) (((x2.gr G1).gr G2).low _) okk (by omega)) ?_;rintro ka S3 G3 hka;have r13:=G3.cells r12;have sna:=hna.sc;have cna:=hna.cells;have ska:=hka.at.sc;have cka:=hka.at.cells;have G13:=G2.trans G3;simp only[XY,simprocAttr,r13,sna,cna,ska,cka];refine Js ?_;intro S4 hS4;have G4:Gr st S4:=by
  rw[hS4];refine Gr.wr (Gr.wr (G1.trans G13) p1n ?_ ?_ (Ja _)) p1n ?_ ?_ (Ja _)
  all_goals first
   |(simp only[XZ,simprocAttr,r13];done)
   |(simp only[XZ,simprocAttr,r13];rfl)
   |(intro e;simp only[XZ,simprocAttr,r13]at e;cases e)
 obtain⟨t4,r14⟩:∃t,S4.row p1= .cells t [.int .i64 k,ofL n,na,ka]:=⟨_,by rw[hS4];simp only[XZ,simprocAttr];rfl⟩
 have k4:∀r,r≠p1->S4.row r=S3.row r:=fun r e=>by rw[hS4];simp only[Jk,e,if_false]
 have r24:S4.row p2= .cells t2 [.int .i64 0,ofL [], .snil, .snil]:=(k4 p2 (Ne.symm p12)).trans (G13.cells r2);clear hS4;have early:∀r,S2.row r= .none->st.row r= .none:=fun r e=>Ch.fresh (Ch.of (fun _=>False) (G1.trans G2)) e;have kap:∀r,rowOf ka=some r->r≠p1/\r≠p2:=fun r hr=>by
  have h0:=(hka.row hr).1;exact⟨fun e=>by rw[e]at h0;exact Jc r12 h0,fun e=>by rw[e]at h0;exact Jc (G2.cells r2) h0⟩
 have h4:SlF st S4 ka 4 es:=(hka.early fun r e=>early r e).keep fun r hr=>k4 r fun e=>by
  have:=(hka.row hr).1;rw[e]at this;exact Jc r12 this
 have lka:=h4.at.len;rw[Je,Jb];simp only[XY,simprocAttr,r14,lka];obtain⟨L,hL⟩:=loE fun j fr S'=>∃(i:Nat) (ds:List (List V)),j+i=es.length/\ds.length=i/\fr 1= .ptr p1 0/\fr 2= .ptr p2 0/\fr 14=ka/\fr 15= .int .i64 (es.length:Nat)/\fr 16= .int .i64 i/\Gr st S'/\SlF st S' ka 4 (ds++es.drop i)/\(∃t,S'.row p1= .cells t [.int .i64 k,ofL n,na,ka])/\(∃t,S'.row p2= .cells t [.int .i64 0,ofL [], .snil, .snil]);refine Jn L es.length (by omega) ((hL _ _ _).2 ⟨0,[],by omega,rfl,rfl,rfl,rfl,rfl,by simp only[XZ,simprocAttr]<;>rfl,G4,by simpa using h4,⟨t4,r14⟩,⟨t2,r24⟩⟩) ?_;clear h4 r14 r24;intro j fr S5 hLj;obtain⟨i,ds,hj,hds,f1,f2,f14,f15,f16,G5,h5,⟨t5,r15⟩,⟨t25,r25⟩⟩:=(hL _ _ _).1 hLj;by_cases hi:i<es.length;rotate_left
 ·have hi':¬(i:Int)<es.length:=by omega
  rw[Jb];simp only[XY,simprocAttr,f15,f16,hi'];rw[Je];simp only[XY,simprocAttr];rw[Jb];simp only[XZ,simprocAttr,f1,f2,r15,r25,sna,cna,ska,cka];exact fin _ _ (fun r e=>by rw[Jk,if_neg fun c=>e (by rw[c];exact p2n),G5.same r e]) fun _=>⟨_,_,na,ka,rfl,sna,ska⟩
 have hi':(i:Int)<es.length:=by omega
 have hadd1:IntKind.i64.wrap ((i:Int)+1)=((i+1:Nat):Int):=by rw[Jo (by omega) (by omega)];rfl
 rw[List.drop_eq_getElem_cons hi]at h5;have hik:i<ks.length:=by omega
 have hty:=x4 i hi hik;have hsz:tsz ks[i]<mm:=by have:=Ym (k:=k) (n:=n) (ns:=ns) hik;omega
 have hft:=jL hfk i hik;obtain⟨T,hT⟩:=exE (ks[i]);rw[<-hT]at hty hsz hft;obtain⟨e,he⟩:∃e,e=es[i]:=⟨_,rfl⟩
 rw[<-he]at h5 hty;obtain⟨nv1,kv1,es1,rfl,y1,y2,_,_⟩:=hty.inv;have hlen:(ds++[.int .i64 T.kind,ofL T.name,nv1,kv1]::es.drop (i+1)).length=es.length:=by simp;omega
 have hds4:∀x∈ds,x.length=4:=fun x hx=>h5.1 x (List.mem_append_left _ hx);obtain⟨q,tq,q1,q2,q3⟩:∃r t,st.row r= .none/\S5.row r= .cells t (ds++[.int .i64 T.kind,ofL T.name,nv1,kv1]::es.drop (i+1)).flatten/\(ka= .sl r 0 es.length 4\/ka= .slx r 0 es.length 4 es.length):=by
  rcases h5.2 with⟨_,e⟩|⟨r,t,k1,k2,k3⟩
  ·have:=congrArg List.length e;rw[hlen]at this;have:es.length=0:=this;omega
  ·rw[hlen]at k3;exact⟨r,t,k1,k2,k3⟩
 have hfl:=JF h5.1;rw[hlen]at hfl;have hiz:i*4+4<=es.length*4:=by rw[<-Nat.succ_mul];exact Nat.mul_le_mul_right _ hi
 have ha:JJ 4 ka (.int .i64 (i:Nat))=some (.ptr q (i*4), .no):=by
  rcases q3 with e|e
  ·rw[e,YH,if_pos (by omega)];simp
  ·rw[e,kI,if_pos (by omega)];simp
 have hld:ldn (S5.row q) (i*4) 4=some (.agg [.int .i64 T.kind,ofL T.name,nv1,kv1], .no):=by
  rw[q2,ko,if_pos (by omega),<-hds,Joo hds4 rfl]
 have hkq:rowOf ka=some q:=by rcases q3 with e|e<;>(rw[e];rfl)
 obtain⟨qp1,qp2⟩:=kap q hkq;have d1:=y1.sc;have d2:=y1.cells;have d3:=y2.sc;have d4:=y2.cells;have w5:=G5.wf;obtain⟨n5,hn5⟩:=nxE S5;rw[Jb];simp only[XY,simprocAttr,f15,f16,hi'];rw[Je];simp only[XY,simprocAttr];rw[Je];simp only[XY,simprocAttr];rw[Jb];simp only[XY,simprocAttr,f14,f16,ha,hld,hn5,d1,d2,d3,d4];obtain⟨S6,hS6⟩:=exE ((S5.new fun t=>Row.cells t [V.int .i64 0,ofL [],V.snil,V.snil]).wr (up 0 n5) S5.t fun u=>Row.cells u [.int .i64 T.kind,ofL T.name,nv1,kv1]);have G6:Gr S5 S6:=by rw[hS6];exact(Gr.refl w5).nw hn5 (Ja _) (Ja _)
 obtain⟨p4,hp4⟩:=exE (up 0 n5);obtain⟨t6,r6⟩:∃t,S6.row p4= .cells t [.int .i64 T.kind,ofL T.name,nv1,kv1]:=⟨_,by rw[hS6,hp4];simp only[XZ,simprocAttr,hn5];rfl⟩
 rw[<-hS6,<-hp4];clear hS6;have r16:=G6.cells r15;have G56:=G5.trans G6;simp only[XY,simprocAttr,f1,f16,r16,r6];refine Ji (ih T hsz (JD G6.wf _) ((hty.gr G56).low _) hft) ?_;rintro _ S7 G7 ⟨k',nm',a',b',rfl,sa,sb⟩;have q7:S7.row q= .cells tq (ds++[.int .i64 T.kind,ofL T.name,nv1,kv1]::es.drop (i+1)).flatten:=G7.cells (G6.cells q2);have ca:=(One.of sa).2;have cb:=(One.of sb).2;have hle:i*4+4<=(ds++[.int .i64 T.kind,ofL T.name,nv1,kv1]::es.drop (i+1)).flatten.length:=by omega
 simp only[XM,simprocAttr,f1,f2,f14,f15,f16,ha,q7,hle,sa,sb,ca,cb,hadd1];have G57:=G56.trans G7;refine⟨es.length-(i+1),by omega,(hL _ _ _).2 ⟨i+1,ds++[[.int .i64 k',ofL nm',a',b']],by omega,by simp[hds],f1,f2,f14,f15,rfl,G57.wr q1 (Jc q7) (by rw[q7];rfl) (Ja _), ?_,⟨t5,by rw[Jk,if_neg (Ne.symm qp1)];exact G7.cells r16⟩,⟨t25,by rw[Jk,if_neg (Ne.symm qp2)];exact G7.cells (G6.cells r25)⟩⟩⟩;have e1:(ds++[[.int .i64 k',ofL nm',a',b']])++es.drop (i+1)=ds++[.int .i64 k',ofL nm',a',b']::es.drop (i+1):=by simp
 rw[e1];have hl2:(ds++[V.int .i64 k',ofL nm',a',b']::es.drop (i+1)).length=es.length:=by simp;omega
 refine⟨fun x hx=> ?_, .inr ⟨q,S7.t,q1, ?_,by rw[hl2];exact q3⟩⟩
 ·rcases List.mem_append.1 hx with hx|hx
  ·exact hds4 x hx
  ·rcases List.mem_cons.1 hx with rfl|hx
   ·rfl
   ·exact x2.1 x (List.mem_of_mem_drop hx)
 ·simp only[Jk,if_true];rw[<-hds,JjU hds4 rfl rfl]
theorem JoL {P:Pt->Prop}{st:St}{e1:List V}{s:Sch}(hw:WF st)(h:SchC P st e1 s)(hs:s.sigs=[])(hf:fitT s.main=true)(hft:∀p∈s.types,fitT p.2=true)(hl:s.types.length<=12):
  Does (tabT tabD) 22 [.agg e1] st fun v S=>Gr st S/\∃y0 y1 y2 y3 y4 y5,v= .agg [y0,y1,y2,y3,y4,y5]/\One y0/\One y1/\One y2/\One y3/\One y4/\One y5:=by
 refine Ju tabM (aT Tryz.func22 rfl) rfl hw fun K fin=> ?_;obtain⟨c,tv,sv,rfl,h1,h2,h3⟩:=h;rw[hs]at h3;obtain⟨nv,kv,es,rfl,x1,x2,x3,x4⟩:=h1.inv;have c1:=x1.cells;have c2:=x1.sc;have c3:=x2.cells;have c4:=x2.sc;have cv1:=h2.sc;have cv2:=h3.sc;have l3:Kf sv=some (.int .i64 0, .no):=h3.nil_len;obtain⟨n0,hn0⟩:=nxE st;simp only[CT,Tryz.f22,XY,simprocAttr];rw[Jb];simp only[XY,simprocAttr,hn0,c1,c2,c3,c4,cv1.1,cv1.2,cv2.1,cv2.2];refine Js ?_;intro S1 hS1;have G1:Gr st S1:=by rw[hS1];exact(Gr.new hw (Ja _)).nn (Ja _)
 obtain⟨p1,hp1⟩:=exE (up 0 n0);obtain⟨p2,hp2⟩:=exE (up 1 n0);obtain⟨t1,r1⟩:∃t,S1.row p1= .cells t [.int .i64 s.main.kind,ofL s.main.name,nv,kv,tv,sv]:=⟨_,by rw[hS1,hp1];simp only[XZ,simprocAttr,hn0];rfl⟩
 obtain⟨t2,r2⟩:∃t,S1.row p2= .cells t [.int .i64 0,ofL [], .snil, .snil, .snil, .snil]:=⟨_,by rw[hS1,hp2];simp only[XZ,simprocAttr,hn0];rfl⟩
 have p1n:st.row p1= .none:=by rw[hp1];exact nx0 hw hn0 0
 have p2n:st.row p2= .none:=by rw[hp2];exact nx0 hw hn0 1
 rw[<-hp1,<-hp2];clear hS1;rw[Jb];simp only[XY,simprocAttr,r1];refine Jd (JoK _ s.main (Nat.lt_succ_self _) G1.wf (h1.gr G1) hf) ?_;rintro _ S2 ⟨G2,k',nm',a',b',rfl,sa,sb⟩;have ca:=(One.of sa).2;have cb:=(One.of sb).2;have r12:=G2.cells r1;have r22:=G2.cells r2;have w2:=G2.wf;obtain⟨n2,hn2⟩:=nxE S2;simp only[XY,simprocAttr,hn2,sa,sb,ca,cb];refine Js ?_;intro S3 hS3;have G3:Gr S2 S3:=by rw[hS3];exact(Gr.refl w2).nw hn2 (Ja _) (Ja _)
 obtain⟨p3,hp3⟩:=exE (up 0 n2);obtain⟨t3,r3⟩:∃t,S3.row p3= .cells t [.int .i64 k',ofL nm',a',b', .snil, .snil]:=⟨_,by rw[hS3,hp3];simp only[XZ,simprocAttr,hn2];rfl⟩
 have p3n2:S2.row p3= .none:=by rw[hp3];exact nx0 w2 hn2 0
 have p3n:st.row p3= .none:=Ch.fresh (Ch.of (fun _=>False) (G1.trans G2)) p3n2;have p31:p3≠p1:=fun e=>Jc r12 (by rw[<-e];exact p3n2);have p32:p3≠p2:=fun e=>Jc r22 (by rw[<-e];exact p3n2);rw[<-hp3];clear hS3;have G03:=(G1.trans G2).trans G3;have r13:=G3.cells r12;have r23:=G3.cells r22;have lt:=h2.len;rw[Je,Jb];simp only[XY,simprocAttr,r13,lt];obtain⟨L,hL⟩:=loE fun j fr S=>∃(i:Nat) (ov:V) (xs:List (List V)),j+i=s.types.length/\fr 1= .ptr p1 0/\fr 2= .ptr p2 0/\fr 3= .ptr p3 0/\fr 16=tv/\fr 17= .int .i64 (s.types.length:Nat)/\fr 18= .int .i64 (i:Nat)/\Gr st S/\S.row p1= .cells t1 [.int .i64 s.main.kind,ofL s.main.name,nv,kv,tv,sv]/\S.row p2= .cells t2 [.int .i64 0,ofL [], .snil, .snil, .snil, .snil]/\(∃t,S.row p3= .cells t [.int .i64 k',ofL nm',a',b',ov, .snil])/\SlF st S ov 5 xs/\xs.length=i/\∀r,rowOf ov=some r->r≠p1/\r≠p2/\r≠p3;refine Jn L s.types.length (by omega) ((hL _ _ _).2 ⟨0, .snil,[],by omega,rfl,rfl,rfl,rfl,rfl,by simp only[XZ,simprocAttr]<;>rfl,G03,r13,r23,⟨t3,r3⟩,SlF.nil _ _ _,rfl,fun r e=>by cases e⟩) ?_;clear r13 r23 r3;intro j fr S4 hLj;obtain⟨i,ov,xs,hj,f1,f2,f3,f16,f17,f18,G4,r14,r24,⟨t4,r34⟩,hov,hxi,hne⟩:=(hL _ _ _).1 hLj;have sov:=hov.at.sc;have cov:=hov.at.cells;by_cases hi:i<s.types.length;rotate_left
 ·have hi':¬(i:Int)<s.types.length:=by omega
  rw[Jb];simp only[XY,simprocAttr,f17,f18,hi'];rw[Je];simp only[XY,simprocAttr];rw[Je,Jb];simp only[XY,simprocAttr,f1,r14,l3];refine YY (by omega) ?_;rw[Jb];simp only[XY,simprocAttr];rw[Je];simp only[XY,simprocAttr];rw[Jb];simp only[XZ,simprocAttr,f2,f3,r24,r34,sa,sb,ca,cb,sov,cov];exact fin _ _ (fun r e=>by rw[Jk,if_neg fun c=>e (by rw[c];exact p2n),G4.same r e]) fun _=>⟨_,_,_,_,_,_,rfl,One.of rfl,One.of rfl,One.of sa,One.of sb,One.of sov,One.of rfl⟩
 have hi':(i:Int)<s.types.length:=by omega
 have hadd1:IntKind.i64.wrap ((i:Int)+1)=((i+1:Nat):Int):=by rw[Jo (by omega) (by omega)];rfl
 obtain⟨q,o,e,a1,a2,a3,a4,⟨ce,he,hte⟩,he5,_⟩:=(h2.imp (D:=NmC P S4) (Q:=P) (fun _ _ x=>x.imp fun r p e=>⟨p,G4.same r e⟩) fun r p e=>⟨p,G4.same r e⟩).elem hi;have hfi:=hft _ (List.getElem_mem hi);obtain⟨X,hX⟩:=exE (s.types[i]);rw[<-hX]at hte hfi he;obtain⟨nv1,kv1,es1,rfl,y1,y2,_,_⟩:=hte.inv;subst he;have d1:=y1.sc;have d2:=y1.cells;have d3:=y2.sc;have d4:=y2.cells;have w4:=G4.wf;obtain⟨n4,hn4⟩:=nxE S4;rw[Jb];simp only[XY,simprocAttr,f17,f18,hi'];rw[Je];simp only[XY,simprocAttr];rw[Je];simp only[XY,simprocAttr];rw[Jb];simp only[XY,simprocAttr,f16,f18,a1,a4,hn4,d1,d2,d3,d4];obtain⟨S5,hS5⟩:=exE ((S4.new fun t=>Row.cells t [ofL [],V.int .i64 0,ofL [],V.snil,V.snil]).wr (up 0 n4) S4.t fun u=>Row.cells u [ofL X.1, .int .i64 X.2.kind,ofL X.2.name,nv1,kv1]);have G5:Gr S4 S5:=by rw[hS5];exact(Gr.refl w4).nw hn4 (Ja _) (Ja _)
 obtain⟨p5,hp5⟩:=exE (up 0 n4);obtain⟨t5,r5⟩:∃t,S5.row p5= .cells t [ofL X.1, .int .i64 X.2.kind,ofL X.2.name,nv1,kv1]:=⟨_,by rw[hS5,hp5];simp only[XZ,simprocAttr,hn4];rfl⟩
 rw[<-hS5,<-hp5];clear hS5;have r35:=G5.cells r34;simp only[XY,simprocAttr,f3,r35,r5];refine Ji (JoK _ X.2 (Nat.lt_succ_self _) (JD G5.wf _) ((hte.gr G5).low _) hfi) ?_;rintro _ S6 G6 ⟨k2,nm2,va,vb,rfl,sva,svb⟩;have cva:=(One.of sva).2;have cvb:=(One.of svb).2;have G46:=G5.trans G6;have r36:=G46.cells r34;have w6:=G46.wf;obtain⟨n6,hn6⟩:=nxE S6;have o3:=fun k=>nes (Jz w6 hn6 (Jc r36) k);simp only[XY,simprocAttr,f3,r36,hn6,o3,sva,svb,cva,cvb];obtain⟨E,hE⟩:∃E:List V,E=[ofL X.1, .int .i64 k2,ofL nm2,va,vb]:=⟨_,rfl⟩
 have hE5:E.length=5:=by rw[hE];rfl
 have hEs:Km E=true:=by rw[hE];simp only[jY,Jan,sva,svb,Jgs,Jgt,Bool.and_self]
 rw[<-hE];obtain⟨A2,hA2⟩:=exE (S6.new fun t=>Row.cells t E);have ga2:Gr S6 A2:=by rw[hA2];exact Gr.new w6 (Ja _)
 have hone:SlAt (fun r=>r=up 0 n6) A2 (.slx (up 0 n6) 0 1 5 1) 5 [E]:=by
  have:=Qd (st:=S6) (z:=5) (e:=E) hE5
  rwa [hn6,<-hA2]at this
 rw[<-hA2];clear hA2;have G4A:=(G4.trans G46).trans ga2;refine Qw (S0:=st) G4A (((hov.gr G46)).gr ga2) hone (fun e he=>by rw[List.mem_singleton.1 he];exact hEs) (by simp) (by simp) (by simp;omega) ?_;intro A3 ov3 g3 h3' rv3 kp3;have r3A:A3.row p3= .cells t4 [.int .i64 k',ofL nm',a',b',ov, .snil]:=(kp3 p3 (Jc (ga2.cells r36)) fun e=>(hne p3 e).2.2 rfl).trans (ga2.cells r36);have r1A:A3.row p1=_:=(kp3 p1 (Jc (ga2.cells (G46.cells r14))) fun e=>(hne p1 e).1 rfl).trans (ga2.cells (G46.cells r14));have r2A:A3.row p2=_:=(kp3 p2 (Jc (ga2.cells (G46.cells r24))) fun e=>(hne p2 e).2.1 rfl).trans (ga2.cells (G46.cells r24));have s3:=h3'.at.sc;have q3:=h3'.at.cells;simp only[XZ,simprocAttr,f1,f2,f3,f16,f17,f18,r3A,s3,q3,hadd1];have nnx:∀r,A2.row r≠ .none->r≠A2.nx:=fun r e c=>e (by rw[c];exact Kj ga2.wf);have new3:∀r,rowOf ov3=some r->r≠p1/\r≠p2/\r≠p3:=fun r e=>by
  rw[rv3]at e;injection e with e;rw[<-e];exact⟨fun c=>nnx p1 (Jc (ga2.cells (G46.cells r14))) c.symm,fun c=>nnx p2 (Jc (ga2.cells (G46.cells r24))) c.symm,fun c=>nnx p3 (Jc (ga2.cells r36)) c.symm⟩
 exact⟨s.types.length-(i+1),by omega,(hL _ _ _).2 ⟨i+1,ov3,xs++[E],by omega,f1,f2,f3,f16,f17,rfl,g3.wr p3n (Jc r3A) (by rw[r3A];rfl) (Ja _),by rw[Jk,if_neg (Ne.symm p31)];exact r1A,by rw[Jk,if_neg (Ne.symm p32)];exact r2A,⟨_,by rw[Jk,if_pos rfl]⟩,h3'.keep fun r hr=>by rw[Jk,if_neg (new3 r hr).2.2],by simp[hxi],new3⟩⟩
def zty :V:= .agg [.int .i64 0,ofL [], .snil, .snil]
theorem mayC :∀(m:Nat) (ty:Ty),tsz ty<m->∀(P:Pt->Prop) (st:St) (kr rm:Pt) (l:List (Str×Ty)) (e:List V) (deep met tk:Nat),WF st->JcT P st rm l->TyC P st e ty->(∀r,P r->r≠kr)->rm≠kr->st.row kr= .cells tk [.map rm, .int .i64 met]->deep<=13->met<=400->
  Does (tabT tabD) 76 [.ptr kr 0, .agg e, .int .i64 deep] st fun v st'=>Ch (fun r=>r=kr) st st'/\(∃t,st'.row kr= .cells t [.map rm, .int .i64 ((mayS (hasN l) ty deep met).2:Nat)])/\v= .int .i64 (mayS (hasN l) ty deep met).1
 |0,_,h=>absurd h (by omega)
 | m+1, .mk k nm ns ks,hm=>by
   intro P st kr rm l e deep met tk hw hM hx hP hrm hkr hdeep hmet;refine QS tabM (aT Tryz.func76 rfl) rfl hw fun K fin=> ?_;obtain⟨n,hn0⟩:=nxE st;have hold:=fun r (h:st.row r≠ .none)=>YJ hw hn0 h;obtain⟨nv,kv,es,rfl,x1,x2,x3,x4⟩:=hx.inv';have l1:=x1.len;have l2:=x2.len;rw[JW]at l1;rw[x3]at l2;have hS:=Jap (hasN l) k nm ns ks deep met;obtain⟨zv,hz,hz2⟩:=hM.look zty nm;have hz':∃c,zv= .agg c/\c.length=4/\Km c=true:=by
    cases hd:defN l nm with
    |none=>rw[hd]at hz2;exact⟨_,hz2,rfl,rfl⟩
    |some t=>rw[hd]at hz2;obtain⟨c,a,b⟩:=hz2;exact⟨c,a,b.four,b.ok⟩
   obtain⟨zc,rfl,zc4,zok⟩:=hz';have zc4':(4:Nat)<=4:=Nat.le_refl 4;have hmetw:IntKind.i64.wrap ((met:Int)+1)=((met+1:Nat):Int):=by rw[Jo (by omega) (by omega)];rfl
   have okr:=fun k=>nes (Jz hw hn0 (Jc hkr) k);have hrm0:st.row rm≠ .none:=by obtain⟨_,h,_⟩:=hM;exact h.ne
   have orm:=fun k=>nes (Jz hw hn0 hrm0 k);have hrk:=nes hrm;have hlk:∀S:St,S.row rm=st.row rm->QX S (.one .s) (.agg [.int .i64 0,ofL [], .snil, .snil]) true (.map rm) (ofL nm)=some (.tup [.agg zc, .bool (hasN l nm)], .no):=fun S hS=>hz true S hS;have hsp:JI [V.int .i64 0,ofL [], .snil, .snil] 0 zc=zc:=Q1 (by rw[zc4];rfl);have hsp2:JI [.map rm, .int .i64 (met:Int)] 1 [.int .i64 ((met+1:Nat):Int)]=[.map rm, .int .i64 ((met+1:Nat):Int)]:=rfl;have g0:Gr st (st.new fun t=> .cells t [.int .i64 k,ofL nm,nv,kv]):=Gr.new hw (Ja _);obtain⟨S1,hS1⟩:∃S1,S1=(((st.new fun t=>Row.cells t [V.int IntKind.i64 k,ofL nm,nv,kv]).wr kr tk fun u=>Row.cells u [V.map rm,V.int IntKind.i64 ((met+1:Nat):Int)]).new fun t=>Row.cells t [V.int IntKind.i64 0,ofL [],V.snil,V.snil]).wr (up 1 n) ((st.new fun t=>Row.cells t [V.int IntKind.i64 k,ofL nm,nv,kv]).wr kr tk fun u=>Row.cells u [V.map rm,V.int IntKind.i64 ((met+1:Nat):Int)]).t fun u=>Row.cells u zc:=⟨_,rfl⟩
   have c1:Ch (fun r=>r=kr) st S1:=by
    rw[hS1];exact((Ch.of (fun r=>r=kr) g0).wr (Jc (g0.cells hkr)) (by rw[g0.cells hkr];rfl) (.inl rfl) (Ja _)).nw (p:=up 1 n) (by simp only[YX,YI,hn0,Yn,Nat.zero_add]) (Ja _) (Ja _)
   have r1k:S1.row kr= .cells (st.t+1) [.map rm, .int .i64 ((met+1:Nat):Int)]:=by rw[hS1];simp only[XZ,simprocAttr,hn0,okr];rfl
   have r1b:S1.row (up 0 n)= .cells st.t [.int .i64 k,ofL nm,nv,kv]:=by rw[hS1];simp only[XZ,simprocAttr,hn0,okr]
   have hx1:TyC P S1 [.int .i64 k,ofL nm,nv,kv] (.mk k nm ns ks):=hx.imp fun r p e=>⟨p,c1.same r e (hP r p)⟩
   have done:∀(S:St) (e:Int),Ch (fun r=>r=kr) st S->(∃t,S.row kr= .cells t [.map rm, .int .i64 ((met+1:Nat):Int)])->mayS (hasN l) (.mk k nm ns ks) deep met=(e,met+1)->K (.int .i64 e) S:=fun S e h1 h2 h3=>by
    refine fin _ _ (fun r a b=>h1.same r a b) fun _=> ?_;rw[h3];exact⟨h2,rfl⟩
   simp only[CT,Tryz.f76,XY,simprocAttr];rw[Jb];simp only[XY,simprocAttr,hn0,x1.cells,x2.cells,x1.sc,x2.sc];rw[Jb];simp only[XY,simprocAttr,hn0,okr,hkr,hmetw];rw[Jb];simp only[XN,simprocAttr,hn0,okr,hkr,hlk,orm,hrk,zc4,zok,hsp,hsp2];simp only[<-hS1,YX,YI,hn0,Yn,Nat.reduceAdd,Nat.zero_add];refine QY (fun fr S=>S1=S/\fr 0= .ptr kr 0/\fr 2= .int .i64 deep/\fr 4= .ptr (up 0 n) 0/\fr 8= .bool (hasN l nm)/\fr 9= .bool (decide (k=7\/k=8))) ?_ ?_
   ·by_cases c7:k=7
    ·simp only[XZ,simprocAttr,r1b,c7];simp
    ·by_cases c8:k=8
     ·simp only[XZ,simprocAttr,r1b,c7,c8];simp
     ·simp only[XZ,simprocAttr,r1b,c7,c8];simp
   rintro fr _ ⟨rfl,f0,f2,f4,f8,f9⟩;by_cases d1:400<met+1
   ·have d1':(400:Int)<((met+1:Nat):Int):=by omega
    simp only[XZ,simprocAttr,f0,r1k,d1'];exact done _ _ c1 ⟨_,r1k⟩ (by rw[hS,if_pos d1])
   have d1':¬(400:Int)<((met+1:Nat):Int):=by omega
   rw[if_neg d1]at hS;by_cases d2:12<deep
   ·have d2':(12:Int)<(deep:Int):=by omega
    simp only[XZ,simprocAttr,f0,f2,r1k,d1',d2'];exact done _ _ c1 ⟨_,r1k⟩ (by rw[hS,if_pos d2])
   have d2':¬(12:Int)<(deep:Int):=by omega
   rw[if_neg d2]at hS;by_cases d3:k<1\/9<k
   ·rw[if_pos d3]at hS;by_cases d3a:k<1
    ·simp only[XZ,simprocAttr,f0,f2,f4,r1k,r1b,d1',d2',d3a];exact done _ _ c1 ⟨_,r1k⟩ hS
    ·have d3b:9<k:=by omega
     simp only[XZ,simprocAttr,f0,f2,f4,r1k,r1b,d1',d2',d3a,d3b];exact done _ _ c1 ⟨_,r1k⟩ hS
   have d3a:¬k<1:=by omega
   have d3b:¬9<k:=by omega
   rw[if_neg d3]at hS;obtain⟨J,hJ⟩:=opE fun fr S=>((¬(ks.length≠KX (.mk k nm ns ks)\/(nm≠[]/\k≠9)\/(0<ns.length/\¬(k=7\/k=8)))/\¬(k=9/\hasN l nm=false))/\Gr S1 S/\fr 0= .ptr kr 0/\fr 2= .int .i64 deep/\fr 4= .ptr (up 0 n) 0)
   refine JM J ?_ ?_
   ·simp only[XY,simprocAttr];rw[Jb];simp only[XY,simprocAttr,f0,f2,f4,r1k,r1b,d1',d2',d3a,d3b];rw[Jb];simp only[XY,simprocAttr,f0,f2,f4,r1k,r1b,d1',d2',d3a,d3b];rw[Jb];simp only[XY,simprocAttr,f0,f2,f4,r1k,r1b,d1',d2',d3a,d3b];obtain⟨B,hB⟩:∃B:Prop,B=(ks.length≠KX (.mk k nm ns ks)\/(nm≠[]/\k≠9)\/(0<ns.length/\¬(k=7\/k=8))):=⟨_,rfl⟩
    obtain⟨I,hI⟩:=opE fun fr S=>(Gr S1 S/\fr 0= .ptr kr 0/\fr 2= .int .i64 deep/\fr 4= .ptr (up 0 n) 0/\fr 8= .bool (hasN l nm)/\∃b:Bool,fr 57= .bool b/\(b=true<->B))
    refine QY I ?_ ?_
    ·simp only[XZ,simprocAttr,f0,f2,f4,r1k,r1b,l2];refine Ji (Jsp (JD c1.wf _) (hx1.low _)) ?_;rintro _ S2 g2 rfl;have b2:=g2.cells r1b;by_cases e1:(ks.length:Int)=(KX (.mk k nm ns ks):Nat)
     ·by_cases e2:nm=[]
      ·by_cases e4:(0:Int)<ns.length
       ·simp only[XZ,simprocAttr,f0,f2,f4,f8,f9,b2,l1,e1,e2,e4];refine(hI _ _).2 ⟨g2,f0,f2,f4,f8, ?b1,by simp only[XZ,simprocAttr]<;>rfl, ?_⟩;rw[hB];subst e2;simp;omega
       ·simp only[XZ,simprocAttr,f0,f2,f4,f8,f9,b2,l1,e1,e2,e4];refine(hI _ _).2 ⟨g2,f0,f2,f4,f8, ?b2,by simp only[XZ,simprocAttr]<;>rfl, ?_⟩;rw[hB];subst e2;simp;omega
      ·by_cases e3:k=9
       ·by_cases e4:(0:Int)<ns.length
        ·simp only[XZ,simprocAttr,f0,f2,f4,f8,f9,b2,l1,e1,e2,e3,e4];refine(hI _ _).2 ⟨g2,f0,f2,f4,f8, ?b3,by simp only[XZ,simprocAttr]<;>rfl, ?_⟩;rw[hB];simp;omega
        ·simp only[XZ,simprocAttr,f0,f2,f4,f8,f9,b2,l1,e1,e2,e3,e4];refine(hI _ _).2 ⟨g2,f0,f2,f4,f8, ?b4,by simp only[XZ,simprocAttr]<;>rfl, ?_⟩;rw[hB];simp;omega
       ·simp only[XZ,simprocAttr,f0,f2,f4,f8,f9,b2,l1,e1,e2,e3];refine(hI _ _).2 ⟨g2,f0,f2,f4,f8, ?b5,by simp only[XZ,simprocAttr]<;>rfl, ?_⟩;rw[hB];simp[e2,e3]
     ·simp only[XZ,simprocAttr,f0,f2,f4,f8,f9,b2,l1,e1];refine(hI _ _).2 ⟨g2,f0,f2,f4,f8, ?b6,by simp only[XZ,simprocAttr]<;>rfl, ?_⟩;rw[hB];simp;omega
    intro fr S2 hIf;obtain⟨g2,f0,f2,f4,f8,b,f57,hb⟩:=(hI _ _).1 hIf;rw[hB]at hb;have b2:=g2.cells r1b;have cS:Ch (fun r=>r=kr) st S2:=c1.gr g2
    cases b with
    | true=>
      simp only[XZ,simprocAttr,f57];exact done _ _ cS ⟨_,g2.cells r1k⟩ (by rw[hS,if_pos (hb.1 rfl)])
    | false=>
      have hb':¬(ks.length≠KX (.mk k nm ns ks)\/(nm≠[]/\k≠9)\/(0<ns.length/\¬(k=7\/k=8))):=fun h=>by cases hb.2 h
      rw[if_neg hb']at hS;by_cases e9:k=9
      ·have e9':(k=9)=True:=eq_true e9
       cases hh:hasN l nm with
       | false=>
         rw[hh]at f8;simp only[XZ,simprocAttr,f57,f4,f8,b2,e9'];exact done _ _ cS ⟨_,g2.cells r1k⟩ (by rw[hS,if_pos ⟨e9,hh⟩])
       | true=>
         rw[hh]at f8;simp only[XZ,simprocAttr,f57,f0,f2,f4,f8,b2,e9'];exact(hJ _ _).2 ⟨⟨hb',fun h=>by rw[hh]at h;cases h.2⟩,g2,f0,f2,f4⟩
      ·have e9':(k=9)=False:=eq_false e9;simp only[XZ,simprocAttr,f57,f0,f2,f4,f8,b2,e9'];exact(hJ _ _).2 ⟨⟨hb',fun h=>e9 h.1⟩,g2,f0,f2,f4⟩
   ·intro fr S2 hJf;obtain⟨⟨hb1,hb2⟩,g2,f0,f2,f4⟩:=(hJ _ _).1 hJf;rw[if_neg hb1,if_neg hb2]at hS;have b2:=g2.cells r1b;have cS:Ch (fun r=>r=kr) st S2:=c1.gr g2;simp only[XZ,simprocAttr,f4,b2];refine Jd (JpN g2.wf (hx1.gr g2)) ?_;rintro _ S3 ⟨g3,rfl⟩;by_cases ef:KW (.mk k nm ns ks)=0
    ·have ef':(KW (.mk k nm ns ks)=0)=True:=eq_true ef;simp only[XZ,simprocAttr,ef',f0,f2,f4,g3.cells b2,l2];rw[if_neg (by simpa using ef)]at hS;have G3:=cS.gr g3;have r3k:=g3.cells (g2.cells r1k);obtain⟨L,hL⟩:=loE fun j fr S=>∃i mi ti,j+i=ks.length/\fr 0= .ptr kr 0/\fr 2= .int .i64 deep/\fr 98=kv/\fr 99= .int .i64 ks.length/\fr 100= .int .i64 (i:Nat)/\Ch (fun r=>r=kr) st S/\S.row kr= .cells ti [.map rm, .int .i64 (mi:Nat)]/\mi<=400/\Jq (hasN l) ks (deep+1) (met+1)=Jq (hasN l) (ks.drop i) (deep+1) mi;have hns:ns.length<=8:=by
      have h:(if 8<ns.length then(3:Int)else if Kx none ns≠0 then Kx none ns else if k=8/\ns=[]then 12 else 0)=0:=ef;by_cases e:8<ns.length
      ·rw[if_pos e]at h;cases h
      ·omega
     have hks:ks.length<1000000:=by
      have e1:ks.length=KX (.mk k nm ns ks):=Classical.byContradiction fun e=>hb1 (.inl e);have e2:KX (.mk k nm ns ks)<=8:=by
       show(if k=4\/k=5\/k=6 then 1 else if k=7\/k=8 then ns.length else 0)<=8
       split
       ·omega
       ·split<;>omega
      omega
     refine Jn L ks.length hks ((hL _ _ _).2 ⟨0,met+1,_,by omega,f0,f2,rfl,rfl,by simp only[XZ,simprocAttr]<;>rfl,G3,r3k,by omega,rfl⟩) ?_;intro j fr S hLj;obtain⟨i,mi,ti,hj,f0,f2,f98,f99,f100,hC,rk,hmi,hrec⟩:=(hL _ _ _).1 hLj;have wS:=hC.wf;obtain⟨nS,hnS⟩:=nxE S;by_cases hi:i<ks.length
     ·have hi':(i:Int)<ks.length:=by omega
      have hie:i<es.length:=by omega
      have hSr:∀r,P r->st.row r≠ .none->S.row r=st.row r:=fun r p e=>hC.same r e (hP r p);obtain⟨q,qo,a1,a2,a3,a4,a5⟩:=(x2.imp fun r p e=>⟨p,hSr r p e⟩:SlAt P S kv 4 es).elem hie;have oq:=fun k=>nes (Jz wS hnS a3 k);have hx4:=x4 i hie hi;obtain⟨E,hE⟩:∃E,E=es[i]:=⟨_,rfl⟩
      obtain⟨T,hT⟩:∃T,T=ks[i]:=⟨_,rfl⟩
      rw[<-hE]at a4 hx4;rw[<-hT]at hx4;have hsz:tsz T<m:=by rw[hT];have:=Ym (k:=k) (n:=nm) (ns:=ns) hi;omega
      have e4:=hx4.four;have eok:=hx4.ok;have espl:JI [.int .i64 0,ofL [], .snil, .snil] 0 E=E:=Q1 (by rw[e4];rfl);have etk:E.take 4=E:=by rw[<-e4,List.take_length]
      have edl:4<=E.length:=by omega
      have hdw:IntKind.i64.wrap ((deep:Int)+1)=((deep+1:Nat):Int):=by rw[Jo (by omega) (by omega)];rfl
      have hadd1:IntKind.i64.wrap ((i:Int)+1)=((i+1:Nat):Int):=by rw[Jo (by omega) (by omega)];rfl
      simp only[XM,simprocAttr,f0,f2,f98,f99,f100,hi',a1,a4,hnS,oq,e4,eok,espl,etk,hdw];have gS:Gr S ((S.new fun t=> .cells t [.int .i64 0,ofL [], .snil, .snil]).wr (up 0 nS) S.t fun u=> .cells u E):=(Gr.refl wS).nw hnS (Ja _) (Ja _);refine Jd (mayC m T hsz P _ kr rm l E (deep+1) mi ti gS.wf (hM.imp (by rw[gS.same rm (by rw[hC.same rm hrm0 hrm];exact hrm0),hC.same rm hrm0 hrm]) fun r p e=>⟨p,by rw[gS.same r (by rw[hSr r p e];exact e),hSr r p e]⟩) ((hx4.imp fun r p e=>⟨p,hSr r p e⟩).gr gS) hP hrm (gS.cells rk) (by omega) hmi) ?_;rintro _ S4 ⟨c4,⟨t4,r4⟩,rfl⟩;rw[List.drop_eq_getElem_cons hi,JT,<-hT]at hrec;have hmet2:=K7 (hasN l) T (deep+1) mi hmi;have cS4:Ch (fun r=>r=kr) st S4:=(hC.gr gS).trans c4 fun r w=> .inl w;by_cases he:(mayS (hasN l) T (deep+1) mi).1=0
      ·rw[if_neg (by simpa using he)]at hrec;have he':((mayS (hasN l) T (deep+1) mi).1=0)=True:=eq_true he;simp only[XZ,simprocAttr,he',f0,f2,f98,f99,f100,hadd1];exact⟨ks.length-(i+1),by omega,(hL _ _ _).2 ⟨i+1,_,t4,by omega,f0,f2,f98,f99,rfl,cS4,r4,hmet2.2 he,hrec⟩⟩
      ·rw[if_pos (by simpa using he)]at hrec;have he':((mayS (hasN l) T (deep+1) mi).1=0)=False:=eq_false he;simp only[XZ,simprocAttr,he'];refine fin _ _ (fun r a b=>cS4.same r a b) fun _=> ?_;rw[hS,hrec];exact⟨⟨t4,r4⟩,rfl⟩
     ·have hi':¬(i:Int)<ks.length:=by omega
      have hie:i=ks.length:=by omega
      rw[hie,List.drop_length,KR]at hrec;simp only[XZ,simprocAttr,f0,f2,f98,f99,f100,hi'];refine fin _ _ (fun r a b=>hC.same r a b) fun _=> ?_;rw[hS,hrec];exact⟨⟨ti,rk⟩,rfl⟩
    ·have ef':(KW (.mk k nm ns ks)=0)=False:=eq_false ef;simp only[XZ,simprocAttr,ef'];exact done _ _ (cS.gr g3) ⟨_,g3.cells (g2.cells r1k)⟩ (by rw[hS,if_pos ef])
structure Ks (P:Pt->Prop) (st:St) (kr rm:Pt) (l:List (Str×Ty)) (met:Nat):Prop where
 map:JcT P st rm l
 cell:∃t,st.row kr= .cells t [.map rm, .int .i64 met]
 sep:∀r,P r->r≠kr
 ne:rm≠kr
theorem Ks.mapne {P:Pt->Prop}{st:St}{kr rm:Pt}{l:List (Str×Ty)}{met:Nat}(h:Ks P st kr rm l met):st.row rm≠ .none:=by
 obtain⟨_,h,_⟩:=h.map;exact h.ne
theorem Ks.krne {P:Pt->Prop}{st:St}{kr rm:Pt}{l:List (Str×Ty)}{met:Nat}(h:Ks P st kr rm l met):st.row kr≠ .none:=by
 obtain⟨_,h⟩:=h.cell;exact Jc h
theorem Ks.ch {P:Pt->Prop}{st st':St}{kr rm:Pt}{l:List (Str×Ty)}{met met':Nat}(h:Ks P st kr rm l met)(c:Ch (fun r=>r=kr) st st')(k:∃t,st'.row kr= .cells t [.map rm, .int .i64 met']):Ks P st' kr rm l met':=
 ⟨h.map.imp (c.same rm h.mapne h.ne) fun r p e=>⟨p,c.same r e (h.sep r p)⟩,k,h.sep,h.ne⟩
theorem Ks.gr {P:Pt->Prop}{st st':St}{kr rm:Pt}{l:List (Str×Ty)}{met:Nat}(h:Ks P st kr rm l met)(g:Gr st st'):Ks P st' kr rm l met:=
 h.ch (Ch.of _ g) (by obtain⟨t,e⟩:=h.cell;exact⟨t,g.cells e⟩)
theorem mayD {P:Pt->Prop}{st:St}{kr rm:Pt}{l:List (Str×Ty)}{met:Nat}{e:List V}{ty:Ty}{deep:Nat}(hw:WF st)(hL:Ks P st kr rm l met)(hx:TyC P st e ty)(hd:deep<=13)(hmet:met<=400):
  Does (tabT tabD) 76 [.ptr kr 0, .agg e, .int .i64 deep] st fun v st'=>Ch (fun r=>r=kr) st st'/\Ks P st' kr rm l (mayS (hasN l) ty deep met).2/\v= .int .i64 (mayS (hasN l) ty deep met).1:=by
 obtain⟨t,ht⟩:=hL.cell;exact(mayC _ ty (Nat.lt_succ_self _) P st kr rm l e deep met t hw hL.map hx hL.sep hL.ne ht hd hmet).mono fun v st' ⟨a,b,c⟩=>⟨a,hL.ch a b,c⟩
theorem allC {P:Pt->Prop}{st:St}{kr rm:Pt}{l:List (Str×Ty)}{met:Nat}{v:V}{ts:List Ty}(hw:WF st)(hL:Ks P st kr rm l met)(hx:LstAt (TyC P st) P st v 4 ts)(hlen:ts.length<1000000)(hmet:met<=400):
  Does (tabT tabD) 105 [.ptr kr 0,v] st fun v st'=>Ch (fun r=>r=kr) st st'/\Ks P st' kr rm l (Jq (hasN l) ts 1 met).2/\v= .int .i64 (Jq (hasN l) ts 1 met).1:=by
 refine QS tabM (aT Tryz.func105 rfl) rfl hw fun K fin=> ?_;have l1:=hx.len;simp only[CT,Tryz.f105,XZ,simprocAttr,l1];obtain⟨L,hLp⟩:=loE fun j fr S=>∃i mi,j+i=ts.length/\fr 0= .ptr kr 0/\fr 8=v/\fr 9= .int .i64 ts.length/\fr 10= .int .i64 (i:Nat)/\Ch (fun r=>r=kr) st S/\Ks P S kr rm l mi/\mi<=400/\Jq (hasN l) ts 1 met=Jq (hasN l) (ts.drop i) 1 mi;refine Jn L ts.length hlen ((hLp _ _ _).2 ⟨0,met,by omega,rfl,rfl,rfl,by simp only[XZ,simprocAttr]<;>rfl,Ch.refl _ hw,hL,hmet,rfl⟩) ?_;intro j fr S hLj;obtain⟨i,mi,hj,f0,f8,f9,f10,hC,hLi,hmi,hrec⟩:=(hLp _ _ _).1 hLj;have wS:=hC.wf;obtain⟨nS,hnS⟩:=nxE S;by_cases hi:i<ts.length
 ·have hi':(i:Int)<ts.length:=by omega
  have hk:∀r,P r->st.row r≠ .none->P r/\S.row r=st.row r:=fun r p e=>⟨p,hC.same r e (hL.sep r p)⟩
  obtain⟨q,qo,E,a1,a2,a3,a4,hx4,e4,a5⟩:=(hx.imp (fun e x h=>h.imp hk) hk:LstAt (TyC P S) P S v 4 ts).elem hi;have oq:=fun k=>nes (Jz wS hnS a3 k);have eok:=hx4.ok;have espl:JI [.int .i64 0,ofL [], .snil, .snil] 0 E=E:=Q1 (by rw[e4];rfl);have etk:E.take 4=E:=by rw[<-e4,List.take_length]
  have hadd1:IntKind.i64.wrap ((i:Int)+1)=((i+1:Nat):Int):=by rw[Jo (by omega) (by omega)];rfl
  simp only[XM,simprocAttr,f0,f8,f9,f10,hi',a1,a4,hnS,oq,e4,eok,espl,etk];have gS:Gr S ((S.new fun t=> .cells t [.int .i64 0,ofL [], .snil, .snil]).wr (up 0 nS) S.t fun u=> .cells u E):=(Gr.refl wS).nw hnS (Ja _) (Ja _);refine Jd (mayD (deep:=1) gS.wf (hLi.gr gS) (hx4.gr gS) (by omega) hmi) ?_;rintro _ S4 ⟨c4,L4,rfl⟩;rw[List.drop_eq_getElem_cons hi,JT]at hrec;have hmet2:=K7 (hasN l) ts[i] 1 mi hmi;have cS4:Ch (fun r=>r=kr) st S4:=(hC.gr gS).trans c4 fun r w=> .inl w;by_cases he:(mayS (hasN l) ts[i] 1 mi).1=0
  ·rw[if_neg (by simpa using he)]at hrec;have he':((mayS (hasN l) ts[i] 1 mi).1=0)=True:=eq_true he;simp only[XZ,simprocAttr,he',f0,f8,f9,f10,hadd1];exact⟨ts.length-(i+1),by omega,(hLp _ _ _).2 ⟨i+1,_,by omega,f0,f8,f9,rfl,cS4,L4,hmet2.2 he,hrec⟩⟩
  ·rw[if_pos (by simpa using he)]at hrec;have he':((mayS (hasN l) ts[i] 1 mi).1=0)=False:=eq_false he;simp only[XZ,simprocAttr,he'];refine fin _ _ (fun r a b=>cS4.same r a b) fun _=> ?_;rw[hrec];exact⟨L4,rfl⟩
 ·have hi':¬(i:Int)<ts.length:=by omega
  have hie:i=ts.length:=by omega
  rw[hie,List.drop_length,KR]at hrec;simp only[XZ,simprocAttr,f0,f8,f9,f10,hi'];refine fin _ _ (fun r a b=>hC.same r a b) fun _=> ?_;rw[hrec];exact⟨hLi,rfl⟩
theorem JjV {P:Pt->Prop}{st:St}{v:V}{ts:List Ty}{g:Nat}{fa fb:List V}(p:Ty->Bool)(hw:WF st)(h:LstAt (TyC P st) P st v 4 ts)(hl:ts.length<1000000)
  (hc:∀i (hi:i<ts.length) (S:St) (e:List V),Gr st S->TyC P S e ts[i]->Does (tabT tabD) g (fa++[.agg e]++fb) S fun v S'=>Gr S S'/\v= .bool (p ts[i])):
  Does (tabT tabD) 107 [v, .fn g fa fb] st fun v' st'=>Gr st st'/\v'= .int .i64 (match j9 p ts 0 with|some j=>(j:Int)|none=> -1):=by
 refine Ju tabM (aT Tryz.func107 rfl) rfl hw fun K fin=> ?_;have l1:=h.len;simp only[CT,Tryz.f107,XZ,simprocAttr,l1];obtain⟨L,hL⟩:=loE fun j fr S=>∃(i:Nat),Gr st S/\j+i=ts.length/\fr 0=v/\fr 1= .fn g fa fb/\fr 7= .int .i64 ts.length/\fr 8= .int .i64 i/\j9 p ts 0=j9 p (ts.drop i) i;refine Jn L ts.length hl ((hL _ _ _).2 ⟨0,Gr.refl hw,by omega,rfl,rfl,rfl,by simp only[XZ,simprocAttr]<;>rfl,rfl⟩) ?_;intro j fr S hLj;obtain⟨i,hg,hj,f0,f1,f7,f8,hrec⟩:=(hL _ _ _).1 hLj;by_cases hi:i<ts.length
 ·have hi':(i:Int)<ts.length:=by omega
  obtain⟨q,qo,E,a1,a2,a3,a4,hx4,e4,a5⟩:=(h.imp (fun e x h=>h.gr hg) (fun r p e=>⟨p,hg.same r e⟩):LstAt (TyC P S) P S v 4 ts).elem hi;have hadd1:IntKind.i64.wrap ((i:Int)+1)=((i+1:Nat):Int):=by rw[Jo (by omega) (by omega)];rfl
  simp only[XZ,simprocAttr,f0,f1,f7,f8,hi',a1,a4];refine Jd (by simpa using hc i hi S E hg hx4) ?_;rintro _ S2 ⟨g2,rfl⟩;rw[List.drop_eq_getElem_cons hi,j9]at hrec
  cases hp:p ts[i]with
  | true=>
    rw[if_pos hp]at hrec;simp only[XZ,simprocAttr,f0,f1,f7,f8];refine fin _ _ (fun r e=>(hg.trans g2).same r e) fun _=> ?_;rw[hrec]
  | false=>
    rw[if_neg (by rw[hp];simp)]at hrec;simp only[XZ,simprocAttr,f0,f1,f7,f8,hadd1];exact⟨ts.length-(i+1),by omega,(hL _ _ _).2 ⟨i+1,hg.trans g2,by omega,f0,f1,f7,rfl,hrec⟩⟩
 ·have hi':¬(i:Int)<ts.length:=by omega
  have hie:i=ts.length:=by omega
  rw[hie,List.drop_length,j9]at hrec;simp only[XZ,simprocAttr,f0,f1,f7,f8,hi'];refine fin _ _ (fun r e=>hg.same r e) fun _=> ?_;rw[hrec]
theorem YT {P:Pt->Prop}{st:St}{v:V}{ts:List Ty}{g:Nat}{fa fb:List V}(p:Ty->Bool)(hw:WF st)(h:LstAt (TyC P st) P st v 4 ts)(hl:ts.length<1000000)
  (hc:∀i (hi:i<ts.length) (S:St) (e:List V),Gr st S->TyC P S e ts[i]->Does (tabT tabD) g (fa++[.agg e]++fb) S fun v S'=>Gr S S'/\v= .bool (p ts[i])):
  Does (tabT tabD) 79 [v, .fn g fa fb] st fun v' st'=>Gr st st'/\v'= .bool (ts.any p):=by
 refine Ju tabM (aT Tryz.func79 rfl) rfl hw fun K fin=> ?_;simp only[CT,Tryz.f79,XZ,simprocAttr];refine Jd (JjV p hw h hl hc) ?_;rintro _ S2 ⟨g2,rfl⟩;have ha:=Jel p ts 0
 cases hf:j9 p ts 0 with
 | none=>
   rw[hf]at ha;simp only[XZ,simprocAttr];refine fin _ _ (fun r e=>g2.same r e) fun _=> ?_;rw[<-ha];rfl
 | some j=>
   rw[hf]at ha;have h0:(0:Int)<=(j:Int):=by omega
   simp only[XZ,simprocAttr,h0];refine fin _ _ (fun r e=>g2.same r e) fun _=> ?_;rw[<-ha];rfl
theorem JqN :∀(m:Nat) (ty:Ty),tsz ty<m->∀(P:Pt->Prop) (st:St) (kr rm:Pt) (l:List (Str×Ty)) (met:Nat) (e:List V),WF st->Ks P st kr rm l met->TyC P st e ty->l.length<1000000->cntT ty<1000000->
  Does (tabT tabD) 81 [.ptr kr 0, .agg e] st fun v st'=>Gr st st'/\v= .bool (qN l ty)
 |0,_,h=>absurd h (by omega)
 | m+1, .mk k nm ns ks,hm=>by
   intro P st kr rm l met e hw hL hx hl hsz;refine Ju tabM (aT Tryz.func81 rfl) rfl hw fun K fin=> ?_;obtain⟨n,hn0⟩:=nxE st;obtain⟨nv,kv,es,rfl,x1,x2,x3,x4⟩:=hx.inv';have l2:=x2.len;rw[x3]at l2;have hS:=Jia l k nm ns ks;have g0:Gr st (st.new fun t=> .cells t [.int .i64 k,ofL nm,nv,kv]):=Gr.new hw (Ja _);have ok0:=fun k=>nes (Jz hw hn0 hL.krne k);have orm:=fun k=>nes (Jz hw hn0 hL.mapne k);have hlen:ks.length<1000000:=by have h1:=JbL ks;rw[Yq]at hsz;omega
   have cl1:(ks.length=1)->((ks.length:Int)=1)=True:=fun h=>eq_true (by omega);have cl2:¬(ks.length=1)->((ks.length:Int)=1)=False:=fun h=>eq_false (by omega);have hx2:LstAt (TyC P st) P st kv 4 ks:=⟨es,x2,x3,x4⟩
   obtain⟨B,hB⟩:∃B:Bool,B=(if k=6/\ks.length=1 then decide ((KO l l.length (ks.headD Qu)).kind=6)else false):=⟨_,rfl⟩
   rw[<-hB]at hS;obtain⟨I,hI⟩:=opE fun fr S=>(Gr st S/\fr 0= .ptr kr 0/\fr 3= .ptr (up 0 n) 0/\S.row (up 0 n)= .cells st.t [.int .i64 k,ofL nm,nv,kv]/\B=false)
   simp only[CT,Tryz.f81,XY,simprocAttr];rw[Jb];simp only[XY,simprocAttr,hn0,x1.cells,x2.cells,x1.sc,x2.sc];have r0:(st.new fun t=> .cells t [.int .i64 k,ofL nm,nv,kv]).row (up 0 n)= .cells st.t [.int .i64 k,ofL nm,nv,kv]:=by simp only[XZ,simprocAttr,hn0]
   refine JM I ?_ ?_
   ·by_cases k6:k=6
    ·have k6':(k=6)=True:=eq_true k6;by_cases c1:ks.length=1
     ·rw[if_pos ⟨k6,c1⟩]at hB;have hi0:0<ks.length:=by omega
      obtain⟨x,hx0⟩:∃x,ks=[x]:=List.length_eq_one_iff.1 c1;obtain⟨q,qo,E,a1,a2,a3,a4,hxE,e4,a5⟩:=hx2.elem hi0;have a1:JJ 4 kv (.int .i64 0)=some (.ptr q qo, .no):=a1;have hxE:TyC P st E x:=by subst hx0;exact hxE
      have hhead:ks.headD Qu=x:=by rw[hx0];rfl
      rw[hhead]at hB;have oq:=fun k=>nes (Jz hw hn0 a3 k);have eok:=hxE.ok;have espl:JI [.int .i64 0,ofL [], .snil, .snil] 0 E=E:=Q1 (by rw[e4];rfl);obtain⟨tk,ck⟩:=hL.cell;obtain⟨em,hmm,hml,_⟩:=hL.map;obtain⟨tm,hmm⟩:=hmm;have hml':((em.map fun p=>(p.1,V.agg p.2)).map fun p=>(ofL p.1,p.2)).length=l.length:=by simp[hml]
      have hrng:∀S:St,S.row rm=st.row rm->Jkd S (.map rm)=some (.ptr S.nx 0, .new fun t=> .mit t (some rm) l.length 0):=fun S hS=>by rw[Jpn (hS.trans hmm),hml']
      simp only[XM,simprocAttr,hn0,l2,k6',cl1 c1,a1,oq,a4,e4,eok,espl,ok0,ck,Jpm,Jrh,hrng,orm];obtain⟨L,hLp⟩:=loE fun j fr S=>∃(i t1 t2:Nat) (c:List V),j+i=l.length/\Gr st S/\fr 0= .ptr kr 0/\fr 3= .ptr (up 0 n) 0/\fr 5= .ptr (up 1 n) 0/\fr 23= .ptr (up 2 n) 0/\S.row (up 0 n)= .cells st.t [.int .i64 k,ofL nm,nv,kv]/\S.row (up 1 n)= .cells t1 c/\TyC (fun r=>P r/\st.row r≠ .none) S c (KO l i x)/\S.row (up 2 n)= .mit t2 (some rm) l.length i;have gS:Gr st ((((st.new fun t=> .cells t [.int .i64 k,ofL nm,nv,kv]).new fun t=> .cells t [.int .i64 0,ofL [], .snil, .snil]).wr (up 1 n) (st.new fun t=> .cells t [.int .i64 k,ofL nm,nv,kv]).t fun u=> .cells u E).new fun t=> .mit t (some rm) l.length 0):=(g0.nw (by simp only[YI,hn0,Yn,Nat.zero_add]) (Ja _) (Ja _)).nn fun u=>⟨rfl,fun e=>by cases e⟩
      refine Jn L l.length hl ((hLp _ _ _).2 ⟨0,_,_,E,by omega,gS,rfl,rfl,rfl,rfl,by simp only[XZ,simprocAttr,hn0],by simp only[XZ,simprocAttr,hn0];rfl,(hxE.imp fun r p e=>⟨⟨p,e⟩,rfl⟩:TyC (fun r=>P r/\st.row r≠ .none) st E x).gr gS,by simp only[XZ,simprocAttr,hn0];rfl⟩) ?_;intro j fr S hLj;obtain⟨i,t1,t2,c,hj,hg,f0,f3,f5,f23,r0,r1,hc,r2⟩:=(hLp _ _ _).1 hLj;have hmS:S.row rm= .mob tm ((em.map fun p=>(p.1,V.agg p.2)).map fun p=>(ofL p.1,p.2)):=(hg.same rm hL.mapne).trans hmm;have ckS:=hg.cells ck;have c4:=hc.four;obtain⟨T,hT⟩:∃T,T=KO l i x:=⟨_,rfl⟩
      rw[<-hT]at hc;have hlast:=kL l i x;rw[<-hT]at hlast;obtain⟨k',n',ns',ks'⟩:=T;have hlast:KO l (i+1) x=if k'=9 then(defN l n').getD Qu else .mk k' n' ns' ks':=hlast;obtain⟨nv',kv',es',rfl,y1,y2,y3,y4⟩:=hc.inv';have hq0:=nx0 hw hn0;have rne2:=JcP 2 1 n;by_cases hi:i<l.length
      ·have hnx:=JjA (st:=S) (q:=up 2 n) (r:=rm) (n:=i) (t:=t2) (es:=((em.map fun p=>(p.1,V.agg p.2)).map fun p=>(ofL p.1,p.2))) (by rw[hml'];exact r2) hmS (by rw[hml'];exact hi);rw[hml']at hnx;have g2:Gr st (S.wr (up 2 n) t2 fun u=> .mit u (some rm) l.length (i+1)):=hg.wr (hq0 2) (by rw[r2];exact fun e=>by cases e) (by rw[r2];rfl) fun u=>⟨rfl,fun e=>by cases e⟩
       have o2m:=nes (Jz hw hn0 hL.mapne 2);have o2k:=nes (Jz hw hn0 hL.krne 2);by_cases k9:k'=9
       ·have k9':(k'=9)=True:=eq_true k9;obtain⟨zv,hz,hz2⟩:=hL.map.look (.agg [.int .i64 0,ofL [], .snil, .snil]) n';have hz':∃c',zv= .agg c'/\TyC P st c' ((defN l n').getD Qu):=by
         cases hd:defN l n' with
         |none=>rw[hd]at hz2;exact⟨_,hz2,JnF P st⟩
         |some t=>rw[hd]at hz2;obtain⟨c',a,b⟩:=hz2;exact⟨c',a,b⟩
        obtain⟨c',rfl,hc'⟩:=hz';have hlk:∀S':St,S'.row rm=S.row rm->QX S' (.one .s) (.agg [.int .i64 0,ofL [], .snil, .snil]) false (.map rm) (ofL n')=some (.agg c', .no):=fun S' hS'=>by
         have:=hz false S' (hS'.trans (hg.same rm hL.mapne));simpa using this
        have c'4:=hc'.four;have c'ok:=hc'.ok;have csp:JI [.int .i64 k',ofL n',nv',kv'] 0 c'=c':=Q1 (by rw[c'4];rfl);simp only[XM,simprocAttr,f0,f3,f5,f23,JbK,Jdk,hnx,r1,k9',ckS,hlk,o2m,o2k,c'4,c'ok,csp];have r1':(S.wr (up 2 n) t2 fun u=> .mit u (some rm) l.length (i+1)).row (up 1 n)= .cells t1 [.int .i64 k',ofL n',nv',kv']:=by rw[Jk,if_neg (by rw[JcP];decide)];exact r1
        have g3:Gr st ((S.wr (up 2 n) t2 fun u=> .mit u (some rm) l.length (i+1)).wr (up 1 n) t1 fun u=> .cells u c'):=g2.wr (hq0 1) (Jc r1') (by rw[r1'];rfl) (Ja _);refine⟨l.length-(i+1),by omega,(hLp _ _ _).2 ⟨i+1,_,_,c',by omega,g3,f0,f3,f5,f23,by simp only[XZ,simprocAttr];exact r0,by simp only[XZ,simprocAttr]<;>rfl, ?_,by simp only[XZ,simprocAttr]<;>rfl⟩⟩;rw[hlast,if_pos k9];exact(hc'.imp fun r p e=>⟨⟨p,e⟩,rfl⟩:TyC (fun r=>P r/\st.row r≠ .none) st c' _).gr g3
       ·have k9':(k'=9)=False:=eq_false k9;simp only[XZ,simprocAttr,f0,f3,f5,f23,JbK,Jdk,hnx,r1,k9'];refine⟨l.length-(i+1),by omega,(hLp _ _ _).2 ⟨i+1,t1,_,[.int .i64 k',ofL n',nv',kv'],by omega,g2,f0,f3,f5,f23,by simp only[XZ,simprocAttr];exact r0,by simp only[XZ,simprocAttr];exact r1, ?_,by simp only[XZ,simprocAttr]<;>rfl⟩⟩;rw[hlast,if_neg k9];exact hc.imp fun r p e=>⟨p,Jl _ _ _ (Jz hw hn0 p.2 2)⟩
      ·have hie:i=l.length:=by omega
       have hnx:=JjB (st:=S) (q:=up 2 n) (r:=rm) (n:=i) (t:=t2) (es:=((em.map fun p=>(p.1,V.agg p.2)).map fun p=>(ofL p.1,p.2))) (by rw[hml'];exact r2) hmS (by rw[hml'];exact hi);rw[<-hie,<-hT]at hB;have hB:B=decide (k'=6):=hB;by_cases k6x:k'=6
       ·have k6x':(k'=6)=True:=eq_true k6x;simp only[XZ,simprocAttr,f0,f3,f5,f23,JbK,Jdk,hnx,r1,k6x'];refine fin _ _ (fun r e=>hg.same r e) fun _=> ?_;rw[hS,hB,decide_eq_true k6x];rfl
       ·have k6x':(k'=6)=False:=eq_false k6x;simp only[XZ,simprocAttr,f0,f3,f5,f23,JbK,Jdk,hnx,r1,k6x'];exact(hI _ _).2 ⟨hg,f0,f3,r0,by rw[hB];exact decide_eq_false k6x⟩
     ·rw[if_neg (fun h=>c1 h.2)]at hB;simp only[XZ,simprocAttr,hn0,l2,k6',cl2 c1];exact(hI _ _).2 ⟨g0,rfl,rfl,r0,hB⟩
    ·have k6':(k=6)=False:=eq_false k6;rw[if_neg (fun h=>k6 h.1)]at hB;simp only[XZ,simprocAttr,hn0,l2,k6'];exact(hI _ _).2 ⟨g0,rfl,rfl,r0,hB⟩
   ·intro fr S hIf;obtain⟨hg,f0,f3,r0,hBf⟩:=(hI _ _).1 hIf;simp only[XZ,simprocAttr,f0,f3,r0];refine Jd (YT (fa:=[.ptr kr 0]) (fb:=[]) (qN l) hg.wf (hx2.imp (fun e x h=>h.gr hg) fun r p e=>⟨p,hg.same r e⟩) hlen fun i hi S' E' g' hE'=> ?_) ?_
    ·have h1:=jf hi;have h2:=Yq k nm ns ks;exact JqN m ks[i] (by have:=Ym (k:=k) (n:=nm) (ns:=ns) hi;omega) P S' kr rm l met E' g'.wf (hL.gr (hg.trans g')) hE' hl (by omega)
    ·rintro _ S2 ⟨g2,rfl⟩;simp only[XZ,simprocAttr];refine fin _ _ (fun r e=>(hg.trans g2).same r e) fun _=> ?_;rw[hS,hBf,j8];rfl
end Go.Proofs.YtgmmjcgkklgeeaaGreat
