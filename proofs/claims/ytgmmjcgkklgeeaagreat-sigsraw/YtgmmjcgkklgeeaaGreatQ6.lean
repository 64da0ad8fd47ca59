/- Sets of the two texts, by any schema of no functions. The document's check of the two t -/
import Derived.Test.YtgmmjcgkklgeeaaGreatQ5
set_option maxHeartbeats 8000000
set_option linter.unusedVariables false
set_option linter.unusedSimpArgs false
set_option linter.unusedSectionVars false
set_option maxRecDepth 100000
namespace Go.Proofs.YtgmmjcgkklgeeaaGreat
open Eva Go.RowKit
theorem PR.fz {S S':St}{c:Bool}{lv:V}(h:PR S c lv)(g:Fz S S'):PR S' c lv:=by
 obtain⟨rl,rm,rb,rp,rc,rq,e,⟨t0,h0⟩,⟨t1,h1⟩,⟨t2,h2⟩,⟨t3,h3⟩,⟨t4,h4⟩,t5,l,h5,hl⟩:=h.ex;have k:∀{q:Pt} {t:Nat} {l:List V},S.row q= .cells t l->S'.row q= .cells t l:=fun{q t l} e=>by rw[g.same q (Jc e),e]
 exact⟨⟨rl,rm,rb,rp,rc,rq,e,⟨t0,k h0⟩,⟨t1,k h1⟩,⟨t2,k h2⟩,⟨t3,k h3⟩,⟨t4,k h4⟩,t5,l,k h5,hl⟩,fun S2 g2=>h.cp S2 (g.trans g2)⟩
theorem Yy.opAll {s:Sch}{tb:Tb}(h:Yy s tb):Jga tb:=fun i hi=>by
 obtain⟨j,nd,h1,h2,_⟩:=h.opens hi;exact⟨j,h1,(List.getElem?_eq_some_iff.1 h2).1⟩
theorem Jlx {nodes:List Nd}{X:Ty}{i:Nat}(h:Ki nodes X=some i):i<nodes.length:=by
 obtain⟨k,n,ns,ks⟩:=X;rw[Ki]at h
 cases e:JS nodes ks with
 |none=>rw[e]at h;cases h
 | some ids=>
   rw[e]at h;obtain⟨_,b⟩:=Jar h;exact(List.getElem?_eq_some_iff.1 b).1
def PTb (tb:Tb)(S0 S:St)(tv:V):Prop:=∃rt W,tv= .ptr rt 0/\TabX S W rt tb
def xsR :Bool->List (Bool×Int)
 |false=>[(false,0)]
 |true=>[(false,0),(true,1)]
theorem Jly (c:Bool):esR c=(xsR c).map nodX:=by cases c<;>rfl
def rR (c:Bool)(m:Nat):(Int×Str×Int)⊕List Pr:=if c then .inl (16,[116],31)else .inr [([],m)]
def bR (c:Bool)(m:Nat)(x:Pr):BdR:=if x.1=[]then .inr (clsX m (xsR c))else .inl (16,31)
def gR (c:Bool)(m:Nat)(x:Pr):Prop:=x.2=m/\(x.1=[]\/(c=true/\x.1=[116]))
theorem runR (c:Bool)(m:Nat):∃j k,RunS (gR c m) (bR c m) j k 0 [([],m)] (rR c m)/\j<1000000/\k<500000:=by
 cases c with
 | false=>
   have h:=RunS.step (G:=gR false m) (B:=bR false m) (i:=0) (D:=[([],m)]) (cl:=[]) (R:=rR false m) (by simp) ⟨rfl, .inl rfl⟩ rfl (.done (by simp[dedS]));exact⟨_,_,h,by decide,by decide⟩
 | true=>
   have hd:dedS [(([]:Str),m)] [([116],m)]=[([],m),([116],m)]:=by simp[dedS]
   have h:=RunS.step (G:=gR true m) (B:=bR true m) (i:=0) (D:=[([],m)]) (cl:=[([116],m)]) (R:=rR true m) (by simp) ⟨rfl, .inl rfl⟩ rfl (by
    rw[hd];exact RunS.err (i:=1) (D:=[([],m),([116],m)]) (e:=16) (a:=31) (by simp) (by decide) ⟨rfl, .inr ⟨rfl,rfl⟩⟩ rfl)
   exact⟨_,_,h,by simp,by simp⟩
theorem JqO {c:Bool}{st:St}{e1:List V}{s:Sch}{lv:V}{tb:Tb}{e:Int}(hw:WF st)(h:SchC (fun r=>st.row r≠ .none) st e1 s)(hs:s.sigs=[])(hP:PR st c lv)(hnew:newS s=(some tb,e))(hno:YP tb):
  Does (tabT tabD) 9 [.agg e1,lv] st fun v S'=>Gr st S'/\ChkQ (PTb tb) st S' (rR c tb.main) v:=by
 obtain⟨_,hof⟩:=JjF hnew;obtain⟨hl12,_⟩:=jJ hof.chk;have hop:=Yy.opAll hof;have hm:=Jlx hof.main;have h0:0<tb.nodes.length:=by omega
 have hfm:fitT s.main=true:=(hof.able_of hof.main).fit;have hft:∀p∈s.types,fitT p.2=true:=fun p hp=>(hof.able p hp).fit;obtain⟨js,c0,hR,hjs,hc0⟩:=runR c tb.main;have hsch:=h;obtain⟨cc,tv,sv,rfl,h1,h2,h3⟩:=h;obtain⟨nv,kv,es,rfl,x1,x2,x3,x4⟩:=h1.inv;obtain⟨rl,rm,rb,rp,rc,rq,rfl,⟨t0,hrl⟩,⟨t1,hrm⟩,⟨t2,hrb⟩,⟨t3,hrp⟩,⟨t4,hrc⟩,t5,l,hrq,hl⟩:=hP.ex;have mvS:∀{S':St},Fz st S'->SchC (fun r=>S'.row r≠ .none) S' ([.int .i64 s.main.kind,ofL s.main.name,nv,kv]++[tv,sv]) s:=fun g=>hsch.imp fun r p _=>⟨by rw[g.same r p];exact p,g.same r p⟩
 have kc:∀{S':St} {q:Pt} {t:Nat} {l:List V},Fz st S'->st.row q= .cells t l->S'.row q= .cells t l:=fun{S' q t l} g e=>by rw[g.same q (Jc e),e]
 refine JrE (ts:=[([], .sl rm 0 (esR c).length 9),([116], .sl rb 0 1 9)]) (P:=PTb tb) (m0:=tb.main) (G:=gR c tb.main) (B:=bR c tb.main) (R:=rR c tb.main) hw ⟨One.of rfl,One.of rfl,One.of x1.sc,One.of x2.sc,One.of h2.sc.1,One.of h3.sc.1⟩ (One.of rfl) ?_ ?_ (by simp) (by simp) ?_ ?_ ?_ ?_ ?_ ?_ ?_ ?_ hR hc0 hjs ?_
 ·refine⟨fun e he=> ?_, .inr ⟨rl,0,Jc hrl, .inl rfl,_, .inl ⟨t0,hrl⟩,by simp,by simp[tmE]⟩⟩;simp only[List.map_cons,List.map_nil,List.mem_cons,List.not_mem_nil,or_false]at he;rcases he with rfl|rfl<;>rfl
 ·intro i hi;rcases(by simp at hi;omega:i=0\/i=1)with rfl|rfl<;>rfl
 ·intro x hx;simp only[List.mem_cons,List.not_mem_nil,or_false]at hx;rcases hx with rfl|rfl<;>exact One.of rfl
 ·rintro S0 A B tb' ⟨rt,W,e,hT⟩ g;obtain⟨_,F,hT⟩:=hT;exact⟨rt,W,e,g.wf,F,hT.keep fun r _ e=>g.same r e⟩
 ·rintro S0 A B tb' ⟨rt,W,e,hT⟩ hwB k;exact⟨rt,W,e,hT.smc hwB k⟩
 ·rintro S0 A tb' ⟨rt,W,rfl,_⟩;exact One.of rfl
 ·intro S' g;refine(newC g.wf (mvS g)).mono fun v S'' ⟨g2,hn⟩=>⟨g2, ?_⟩
  unfold NewX at hn;rw[hnew]at hn;obtain⟨rt,W,rfl,hT,_⟩:=hn;exact⟨.ptr rt 0,rfl,rt,W,rfl,hT⟩
 ·intro S' g;exact JoL g.wf (mvS g) hs hfm hft hl12
 ·intro S' g;exact hP.cp S' g
 ·rintro S0 S' tb' ⟨rt,W,rfl,hwf,F,hT⟩;exact(Jss hT).mono fun v S'' ⟨e,h⟩=>⟨by rw[<-h];exact Gr.refl hwf,e⟩
 ·rintro⟨nm,id⟩ ⟨hid,hnm⟩;have hid:id=tb.main:=hid;subst hid;rcases hnm with hnm|⟨rfl,hnm⟩
  ·have hnm:nm=[]:=hnm;subst hnm;refine⟨.sl rm 0 (esR c).length 9,rfl,One.of rfl, ?_⟩;rintro S0 SN S' tb' q g ⟨rt,W,rfl,hwf,F,hT⟩ gN _ _ ⟨tq,hq⟩;have hT':Tab W F S' rt tb:=hT.keep fun r _ e=>gN.same r e;have hsl:SlAt (fun _=>True) S' (.sl rm 0 (esR c).length 9) 9 ((xsR c).map nodX):=by
    rw[<-Jly];refine⟨fun e he=> ?_, .inr ⟨rm,0,trivial, .inl rfl,_, .inl ⟨t1,kc g hrm⟩, ?_, ?_⟩⟩
    ·rw[Jly]at he;obtain⟨x,_,rfl⟩:=List.mem_map.1 he;unfold nodX
     cases x.1<;>rfl
    ·cases c<;>simp[esR]
    ·cases c<;>simp[esR]
   have:=JsB (id:=tb.main) gN.wf hT' hop h0 ⟨tq,hq⟩ hsl (by cases c<;>simp[xsR]);exact this
  ·have hnm:nm=[116]:=hnm;subst hnm;refine⟨.sl rb 0 1 9,rfl,One.of rfl, ?_⟩;rintro S0 SN S' tb' q g ⟨rt,W,rfl,hwf,F,hT⟩ gN _ _ ⟨tq,hq⟩;have hT':Tab W F S' rt tb:=hT.keep fun r _ e=>gN.same r e;obtain⟨o,ho,hol⟩:=hop tb.main hm;have:=JpT (q:=q) (names:= .sl q 0 1 1) rfl gN.wf hT' ho hol hno (kc g hrb) (kc g hrp) (kc g hrc) (kc g hrq) hl;exact this
theorem JsD {st:St}{e1:List V}{s:Sch}{lv:V}{er:Int}(hw:WF st)(h:SchC (fun r=>st.row r≠ .none) st e1 s)(hlv:One lv)(hnew:newS s=(none,er)):
  Does (tabT tabD) 9 [.agg e1,lv] st fun v S'=>Gr st S'/\v= .tup [.pnil, .agg [.int .i64 er,ofL [], .int .i64 0]]:=by
 refine Ju tabM (aT Tryz.func9 rfl) rfl hw fun K fin=> ?_;have hne:=Jcj hnew;have hsch:=h;obtain⟨cc,tv,sv,rfl,h1,h2,h3⟩:=h;obtain⟨nv,kv,es,rfl,x1,x2,x3,x4⟩:=h1.inv;have c1:=x1.cells;have c2:=x1.sc;have c3:=x2.cells;have c4:=x2.sc;have cv1:=h2.sc;have cv2:=h3.sc;obtain⟨n0,hn0⟩:=nxE st;simp only[CT,Tryz.f9,XY,simprocAttr];rw[Jb];simp only[XY,simprocAttr,hn0,c1,c2,c3,c4,cv1.1,cv1.2,cv2.1,cv2.2];refine Js ?_;intro S1 hS1;have G1:Gr st S1:=by rw[hS1];exact(Gr.new hw (Ja _)).nn (Ja _)
 obtain⟨p2,hp2⟩:=exE (up 0 n0);obtain⟨p5,hp5⟩:=exE (up 1 n0);obtain⟨t2,r2⟩:∃t,S1.row p2= .cells t [.int .i64 s.main.kind,ofL s.main.name,nv,kv,tv,sv]:=⟨_,by rw[hS1,hp2];simp only[XZ,simprocAttr,hn0];rfl⟩
 obtain⟨t5,r5⟩:∃t,S1.row p5= .cells t [.int .i64 0,ofL [], .int .i64 0]:=⟨_,by rw[hS1,hp5];simp only[XZ,simprocAttr,hn0];rfl⟩
 have p5n:st.row p5= .none:=by rw[hp5];exact nx0 hw hn0 1
 rw[<-hp2,<-hp5];clear hS1;have hs1:SchC (fun r=>S1.row r≠ .none) S1 ([.int .i64 s.main.kind,ofL s.main.name,nv,kv]++[tv,sv]) s:=hsch.imp fun r p _=>⟨by rw[G1.same r p];exact p,G1.same r p⟩
 rw[Jb];simp only[XY,simprocAttr,r2];refine Jd (newC G1.wf hs1) ?_;rintro v S2 ⟨G2,hn⟩;unfold NewX at hn;rw[hnew]at hn;have hn:v= .tup [.pnil, .int .i64 er]:=hn;subst hn;have r52:=G2.cells r5;simp only[XY,simprocAttr];rw[Je,Jb];simp only[XY,simprocAttr,hne];rw[Jb];simp only[XY,simprocAttr,r52];rw[kC];simp only[XZ,simprocAttr];exact fin _ _ (fun r e=>by rw[Jk,if_neg fun x=>e (by rw[x];exact p5n),(G1.trans G2).same r e]) fun _=>rfl
theorem RD.zf {S1 S S':St}{s:Sch}{tb:Tb}{ru:Pt}(h:RD S1 S s tb ru)(z:Fz S S'):RD {S1 with low:=S'.low} S' s tb ru:=(h.low S'.low).fz z.gr
theorem JoP {S:St}{rl:Pt}{a b:V}{t:Nat}{f:Bool}(hr:S.row rl= .cells t [ofL [],a,ofL [116],b]):
  Does (tabT tabD) 27 [.sl rl 0 2 2,ofL (if f then[]else[116])] S fun v S'=>v=(if f then a else b)/\S=S':=by
 refine Jy (aT Tryz.func27 rfl) rfl ?_;have l2:Kf (.sl rl 0 2 2)=some (.int .i64 2, .no):=rfl;have i0:JJ 2 (.sl rl 0 2 2) (.int .i64 0)=some (.ptr rl 0, .no):=rfl;have i1:JJ 2 (.sl rl 0 2 2) (.int .i64 1)=some (.ptr rl 2, .no):=rfl;have h02:(0:Int)<2:=by omega
 have h12:(1:Int)<2:=by omega
 have d0:ld1 (S.row rl) 0=some (ofL [], .no):=by rw[hr];rfl
 have d1:ld1 (S.row rl) 1=some (a, .no):=by rw[hr];rfl
 have d2:ld1 (S.row rl) 2=some (ofL [116], .no):=by rw[hr];rfl
 have d3:ld1 (S.row rl) 3=some (b, .no):=by rw[hr];rfl
 have hadd1:IntKind.i64.wrap ((0:Int)+1)=1:=by decide
 have hne:¬(([]:Str)=[116]):=by decide
 simp only[CT,Tryz.f27,XY,simprocAttr];rw[Jb];simp only[XY,simprocAttr];rw[Je,Jb];simp only[XY,simprocAttr]
 cases f with
 | true=>
   refine YY (by omega) ?_;simp only[XZ,simprocAttr,l2,i0,h02,d0,d1]
 | false=>
   obtain⟨L,hL⟩:=loE fun j fr S'=>S'=S/\fr 0= .sl rl 0 2 2/\fr 1=ofL [116]/\((j=1/\fr 5= .int .i64 0)\/(j=0/\fr 5= .int .i64 1));refine Jn L 1 (by omega) ((hL _ _ _).2 ⟨rfl,rfl,rfl, .inl ⟨rfl,rfl⟩⟩) ?_;intro j fr S' hLj;obtain⟨rfl,f0,f1,hj⟩:=(hL _ _ _).1 hLj;rcases hj with⟨rfl,f5⟩|⟨rfl,f5⟩
   ·simp only[XZ,simprocAttr,f0,f1,f5,l2,i0,h02,d0,hne,hadd1];exact⟨0,by omega,(hL _ _ _).2 ⟨rfl,f0,f1, .inr ⟨rfl,rfl⟩⟩⟩
   ·simp only[XZ,simprocAttr,f0,f1,f5,l2,i1,h12,d2,d3]
theorem _root_.Eva.SlF.al {S0 S:St}{v:V}{z:Nat}{es:List (List V)}(h:SlF S0 S v z es):SlAt (fun r=>S.row r≠ .none) S v z es:=by
 refine⟨h.1, ?_⟩;rcases h.2 with h2|⟨r,t,h2,h3,h4⟩
 ·exact .inl h2
 ·refine .inr ⟨r,0,Jc h3, ?_,es.flatten, .inl ⟨t,h3⟩,by rw[JF h.1];omega,by rw[List.drop_zero,<-JF h.1,List.take_length]⟩;rcases h4 with h4|h4
  ·exact .inl h4
  ·exact .inr ⟨_,Nat.le_refl _,h4⟩
def JsE (tb:Tb)(lv:V)(st S:St)(c:Bool)(v:V):Prop:=match c with
 |true=>v= .tup [.pnil, .agg [.int .i64 16,ofL [116], .int .i64 31]]
 |false=>∃pr ru pv lt rest,v= .tup [.ptr pr 0, .agg [.int .i64 0,ofL [], .int .i64 0]]/\(∃t,S.row pr= .cells t [.ptr ru 0,pv,lv])/\SlF st S pv 2 [clE ([],tb.main)]/\(∃t,S.row ru= .cells t (lt::rest))/\Kf lt=some (.int .i64 (tb.nodes.length:Nat), .no)
def prsN (c:Bool)(m:Nat):List Pr:=if c then[([],m),([116],m)]else[([],m)]
theorem JqP {c:Bool}{st:St}{e1:List V}{s:Sch}{lv:V}{tb:Tb}{e:Int}(hw:WF st)(h:SchC (fun r=>st.row r≠ .none) st e1 s)(hs:s.sigs=[])(hP:PR st c lv)(hnew:newS s=(some tb,e))(hno:YP tb):
  Does (tabT tabD) 10 [.agg e1,lv] st fun v S'=>Gr st S'/\JsE tb lv st S' c v:=by
 refine Ju tabM (aT Tryz.func10 rfl) rfl hw fun K fin=> ?_;obtain⟨_,hof⟩:=JjF hnew;have hop:=Yy.opAll hof;have hm:=Jlx hof.main;have hsch:=h;obtain⟨cc,tv,sv,rfl,h1,h2,h3⟩:=h;obtain⟨nv,kv,es,rfl,x1,x2,x3,x4⟩:=h1.inv;have c1:=x1.cells;have c2:=x1.sc;have c3:=x2.cells;have c4:=x2.sc;have cv1:=h2.sc;have cv2:=h3.sc;have hP0:=hP;obtain⟨rl,rm,rb,rp,rc,rq,rfl,⟨t0,hrl⟩,⟨t1,hrm⟩,⟨t2,hrb⟩,⟨t3,hrp⟩,⟨t4,hrc⟩,t5,l,hrq,hl⟩:=hP0.ex;obtain⟨n0,hn0⟩:=nxE st;have ll:Kf (.sl rl 0 2 2)=some (.int .i64 2, .no):=rfl;have i1:JJ 2 (.sl rl 0 2 2) (.int .i64 1)=some (.ptr rl 2, .no):=rfl;have h01:(0:Int)<1:=by omega
 have h11:¬(1:Int)<1:=by omega
 have h12:(1:Int)<2:=by omega
 have h22:¬(2:Int)<2:=by omega
 have hadd0:IntKind.i64.wrap ((0:Int)+1)=1:=by decide
 have hadd1:IntKind.i64.wrap ((1:Int)+1)=2:=by decide
 have hne:¬(([]:Str)=[116]):=by decide
 simp only[CT,Tryz.f10,XY,simprocAttr];rw[Jb];simp only[XY,simprocAttr,hn0,c1,c2,c3,c4,cv1.1,cv1.2,cv2.1,cv2.2];refine Js ?_;intro Sa hSa;have Ga:Gr st Sa:=by rw[hSa];exact(Gr.new hw (Ja _)).nn (Ja _)
 obtain⟨p2,hp2⟩:=exE (up 0 n0);obtain⟨p5,hp5⟩:=exE (up 1 n0);obtain⟨t2',r2⟩:∃t,Sa.row p2= .cells t [.int .i64 s.main.kind,ofL s.main.name,nv,kv,tv,sv]:=⟨_,by rw[hSa,hp2];simp only[XZ,simprocAttr,hn0];rfl⟩
 obtain⟨t5',r5⟩:∃t,Sa.row p5= .cells t [.int .i64 0,ofL [], .int .i64 0]:=⟨_,by rw[hSa,hp5];simp only[XZ,simprocAttr,hn0];rfl⟩
 have p5n:st.row p5= .none:=by rw[hp5];exact nx0 hw hn0 1
 rw[<-hp2,<-hp5];clear hSa;have hs1:SchC (fun r=>Sa.row r≠ .none) Sa ([.int .i64 s.main.kind,ofL s.main.name,nv,kv]++[tv,sv]) s:=hsch.imp fun r p _=>⟨by rw[Ga.same r p];exact p,Ga.same r p⟩
 rw[Jb];simp only[XY,simprocAttr,r2];refine Jd (Ji1 Ga.wf hs1 hs) ?_;rintro v S0 ⟨Gb,hn⟩;unfold JaR at hn;rw[hnew]at hn;obtain⟨S1,ru,lv',tv',dv',nv',kv',sv',tyv',O',tr',ids',GaS,rfl,N,hids,hty⟩:=hn;have hD:RD S1 S0 s tb ru:=⟨⟨lv',tv',dv',nv',kv',sv',tyv',O',tr',ids',N,hids,hty⟩,hof⟩
 obtain⟨tru,hru⟩:=N.rt.cell;have ruA:Sa.row ru= .none:=Classical.byContradiction fun c=>c ((GaS.same ru c).symm.trans N.rt.ru0);have hlt:Kf lv'=some (.int .i64 (tb.nodes.length:Nat), .no):=by
  obtain⟨es',l1,l2,_⟩:=N.rt.l;have:=l1.at.len
  rwa [l2]at this
 have Gs:=Ga.trans Gb;have r50:=Gb.cells r5;have w0:=Gs.wf;have k0:∀{q:Pt} {t:Nat} {l:List V},st.row q= .cells t l->S0.row q= .cells t l:=fun h=>Gs.cells h;clear N;simp only[XY,simprocAttr];rw[Je,Jb];simp only[XY,simprocAttr];rw[Jb];simp only[XY,simprocAttr];rw[Je,Jb];simp only[XY,simprocAttr];have hrl0:=k0 hrl;have dl2:ld1 (S0.row rl) 2=some (ofL [116], .no):=by rw[hrl0];rfl
 obtain⟨n1,hn1⟩:=nxE S0;obtain⟨L,hL⟩:=loE fun j fr S'=>fr 1= .sl rl 0 2 2/\fr 5= .ptr p5 0/\fr 6= .ptr ru 0/\((j=1/\fr 9= .int .i64 1/\fr 8= .snil/\S'=S0)\/(j=0/\fr 9= .int .i64 2/\Fz S0 S'/\∃nn,fr 8=nn/\SlF S0 S' nn 1 [[ofL [116]]]));refine Jn L 1 (by omega) ((hL _ _ _).2 ⟨rfl,rfl,rfl, .inl ⟨rfl,rfl,rfl,rfl⟩⟩) ?_;intro j fr S2 hLj;obtain⟨f1,f5,f6,hj⟩:=(hL _ _ _).1 hLj;rcases hj with⟨rfl,f9,f8,rfl⟩|⟨rfl,f9,Z2,nn,f8,hnn⟩
 ·rw[Je,Jb];simp only[XY,simprocAttr,f1,f9,ll,h12];rw[Je];simp only[XY,simprocAttr,f1,f8,f9,i1,dl2,hn1];obtain⟨A3,hA3⟩:=exE (S2.new fun t=>Row.cells t [ofL [116]]);have ga3:Gr S2 A3:=by rw[hA3];exact Gr.new w0 (Ja _)
  have hone:SlAt (fun r=>r=up 0 n1) A3 (.slx (up 0 n1) 0 1 1 1) 1 [[ofL [116]]]:=by
   have:=Qd (st:=S2) (z:=1) (e:=[ofL [116]]) rfl
   rwa [hn1,<-hA3]at this
  rw[<-hA3];clear hA3;refine Qw (S0:=S2) ga3 (SlF.nil _ _ _) hone (fun e he=>by rw[List.mem_singleton.1 he];rfl) (by simp) (by simp) (by simp) ?_;intro A4 nn g4 h4 _ _;simp only[XZ,simprocAttr,f1,f9,hadd1];exact⟨0,by omega,(hL _ _ _).2 ⟨f1,f5,f6, .inr ⟨rfl,rfl,Fz.ofGr g4,nn,rfl,by simpa using h4⟩⟩⟩
 rw[Je,Jb];simp only[XY,simprocAttr,f1,f9,ll,h22];clear hL hLj L f9;have z2:=One.of hnn.at.sc;have hru2:S2.row ru=_:=(Z2.same ru (Jc hru)).trans hru;obtain⟨n2,hn2⟩:=nxE S2;have oru:=fun k=>nes (Jz Z2.wf hn2 (Jc hru2) k);rw[Jb];simp only[XY,simprocAttr,f1,f6,hru2,hn2,oru];refine Js ?_;intro S3 hS3;have G3:Gr S2 S3:=by rw[hS3];exact(Gr.new Z2.wf (Ja _)).nn (Ja _)
 obtain⟨q1,hq1⟩:=exE (up 0 n2);obtain⟨pr,hpr⟩:=exE (up 1 n2);obtain⟨u1,rq1⟩:∃t,S3.row q1= .cells t (clE ([],tb.main)):=⟨_,by rw[hS3,hq1];simp only[XZ,simprocAttr,hn2];rfl⟩
 obtain⟨u2,rpr⟩:∃t,S3.row pr= .cells t [.ptr ru 0, .slx q1 0 1 2 1, .sl rl 0 2 2]:=⟨_,by rw[hS3,hpr,hq1];simp only[XZ,simprocAttr,hn2];rfl⟩
 have q1n:S2.row q1= .none:=by rw[hq1];exact nx0 Z2.wf hn2 0
 have prn:S2.row pr= .none:=by rw[hpr];exact nx0 Z2.wf hn2 1
 have hqp:q1≠pr:=fun e=>by
  rw[e,rpr]at rq1;injection rq1 with _ h;exact absurd (congrArg List.length h) (by simp[clE])
 rw[<-hpr];clear hS3 oru;have f0n:∀{q:Pt},S2.row q= .none->S0.row q= .none:=fun{q} hq=>Classical.byContradiction fun c=>c ((Z2.same q c).symm.trans hq);have q10:=f0n q1n;have pr0:=f0n prn;have Z3:=Z2.more G3;have hnn3:=hnn.gr G3;have hD3:=hD.zf Z3;have hru3:=G3.cells hru2;obtain⟨o,ho,hol⟩:=hop tb.main hm;have hsl:∀{S':St},Fz S0 S'->SlAt (fun r=>S'.row r≠ .none) S' (.sl rm 0 (esR c).length 9) 9 ((xsR c).map nodX):=fun{S'} z=>by
  rw[<-Jly];refine⟨fun e he=> ?_, .inr ⟨rm,0, ?_, .inl rfl,_, .inl ⟨t1,(z.same rm (Jc (k0 hrm))).trans (k0 hrm)⟩, ?_, ?_⟩⟩
  ·rw[Jly]at he;obtain⟨x,_,rfl⟩:=List.mem_map.1 he;unfold nodX
   cases x.1<;>rfl
  ·show S'.row rm≠ .none;rw[z.same rm (Jc (k0 hrm))];exact Jc (k0 hrm)
  ·cases c<;>simp[esR]
  ·cases c<;>simp[esR]
 have lq:Kf (.slx q1 0 1 2 1)=some (.int .i64 1, .no):=rfl;have iq0:JJ 2 (.slx q1 0 1 2 1) (.int .i64 0)=some (.ptr q1 0, .no):=rfl;rw[Je,Jb];simp only[XY,simprocAttr];obtain⟨L,hL⟩:=loE fun j fr S'=>fr 1= .sl rl 0 2 2/\fr 5= .ptr p5 0/\fr 6= .ptr ru 0/\fr 8=nn/\fr 10= .ptr pr 0/\((j=1/\fr 11= .int .i64 0/\S'=S3)\/(j=0/\fr 11= .int .i64 1/\Fz S0 S'/\SlF S0 S' nn 1 [[ofL [116]]]/\∃t pv,S'.row pr= .cells t [.ptr ru 0,pv, .sl rl 0 2 2]/\SlF S0 S' pv 2 ((prsN c tb.main).map clE)));refine Jn L 1 (by omega) ((hL _ _ _).2 ⟨f1,f5,f6,f8,rfl, .inl ⟨rfl,rfl,rfl⟩⟩) ?_;clear f1 f5 f6 f8;intro j fr S4 hLj;obtain⟨f1,f5,f6,f8,f10,hj⟩:=(hL _ _ _).1 hLj;rcases hj with⟨rfl,f11,rfl⟩|⟨rfl,f11,Z4,hnn4,tp,pv,rpr4,hpv⟩
 ·have dq:ldn (S4.row q1) 0 2=some (.agg [ofL [], .int .i64 (tb.main:Nat)], .no):=by rw[rq1];rfl
  obtain⟨n4,hn4⟩:=nxE S4;have hw4:=Z3.wf;rw[Je,Jb];simp only[XY,simprocAttr,f10,f11,rpr,lq,h01];rw[Je];simp only[XY,simprocAttr];rw[Jb];simp only[XY,simprocAttr,f10,f11,rpr,lq,iq0,dq,hn4];refine Js ?_;intro S5 hS5;have G5:Gr S4 S5:=by rw[hS5];exact(Gr.refl hw4).nw hn4 (Ja _) (Ja _)
  obtain⟨p12,hp12⟩:=exE (up 0 n4);obtain⟨t12,r12⟩:∃t,S5.row p12= .cells t [ofL [], .int .i64 (tb.main:Nat)]:=⟨_,by rw[hS5,hp12];simp only[XZ,simprocAttr,hn4];rfl⟩
  rw[<-hp12];clear hS5;have Z5:=Z3.more G5;have hrl5:=(Z5.same rl (Jc hrl0)).trans hrl0;have hrl5:S5.row rl= .cells _ _:=hrl5;rw[Jb];simp only[XY,simprocAttr,f1,f6,f8,r12];refine Ji (P:=fun v _=>v= .sl rm 0 (esR c).length 9) ((JoP (S:={S5 with low:=S5.t}) (f:=true) hrl5).mono fun v S' ⟨a,b⟩=>⟨b▸Gr.refl (JD Z5.wf _),a⟩) ?_;rintro _ S6 G6 rfl;have Z6:=Z5.more G6;simp only[XY,simprocAttr];refine Ji (P:=fun v S'=>∃cv,v= .tup [cv, .int .i64 0, .int .i64 0]/\SlF S6 S' cv 2 ((clsX tb.main (xsR c)).map clE)) (JrI (JD Z6.wf _) z2 (((hnn3.gr G5).gr G6).al.imp fun r e a=>⟨e,rfl⟩) (hsl (Z6.low _)) (by cases c<;>simp[xsR])) ?_;rintro _ S7 G7 ⟨cv,rfl,hcv⟩;have hcv:SlF S6 S7 cv 2 ((clsX tb.main (xsR c)).map clE):=hcv;have G57:=G6.trans G7;have G47:=G5.trans G57;have Z7:=Z3.more G47;have rpr7:=G47.cells rpr;have rq17:=G47.cells rq1;have hnn7:=hnn3.gr G47;have r127:=G57.cells r12;have lcv:=hcv.at.len;simp only[XY,simprocAttr];rw[Je,Jb];simp only[XY,simprocAttr];rw[Jb];simp only[XY,simprocAttr]
  cases c with
  | false=>
    have lcv:Kf cv=some (.int .i64 0, .no):=lcv;have h00:¬(0:Int)<0:=by omega
    refine YY (by omega) ?_;simp only[XZ,simprocAttr,lcv,h00,f1,f5,f6,f8,f10,f11,hadd0];exact⟨0,by omega,(hL _ _ _).2 ⟨f1,f5,f6,f8,f10, .inr ⟨rfl,rfl,Z7,hnn7,u2,_,rpr7,⟨fun e he=>by rw[List.mem_singleton.1 he];rfl, .inr ⟨q1,u1,q10,by rw[rq17];rfl, .inr rfl⟩⟩⟩⟩⟩
  | true=>
    have lcv:Kf cv=some (.int .i64 1, .no):=lcv;obtain⟨rv,qv,b1,_,_,b4,_⟩:=hcv.al.elem (i:=0) (by simp[clsX,xsR]);have b1:JJ 2 cv (.int .i64 0)=some (.ptr rv qv, .no):=b1;have b4:ldn (S7.row rv) qv 2=some (.agg [ofL [116], .int .i64 (tb.main:Nat)], .no):=b4;have dq7:ldn (S7.row q1) 0 2=some (.agg [ofL [], .int .i64 (tb.main:Nat)], .no):=by rw[rq17];rfl
    obtain⟨L4,hL4⟩:=loE fun j fr S'=>fr 1= .sl rl 0 2 2/\fr 5= .ptr p5 0/\fr 6= .ptr ru 0/\fr 8=nn/\fr 10= .ptr pr 0/\fr 11= .int .i64 0/\fr 13=cv/\((j=1/\fr 16= .int .i64 0/\S'=S7)\/(j=0/\fr 16= .int .i64 1/\Fz S0 S'/\SlF S0 S' nn 1 [[ofL [116]]]/\∃t pv,S'.row pr= .cells t [.ptr ru 0,pv, .sl rl 0 2 2]/\SlF S0 S' pv 2 ((prsN true tb.main).map clE)));refine Jn L4 1 (by omega) ((hL4 _ _ _).2 ⟨f1,f5,f6,f8,f10,f11,rfl, .inl ⟨rfl,rfl,rfl⟩⟩) ?_;clear f1 f5 f6 f8 f10 f11;intro j fr S8 hLj;obtain⟨f1,f5,f6,f8,f10,f11,f13,hj⟩:=(hL4 _ _ _).1 hLj;rcases hj with⟨rfl,f16,rfl⟩|⟨rfl,f16,Z8,hnn8,h8⟩
    ·rw[Je,Jb];simp only[XY,simprocAttr,f13,f16,lcv,h01];rw[Je];simp only[XY,simprocAttr];rw[Jb];simp only[XY,simprocAttr];rw[Je,Jb];simp only[XY,simprocAttr];obtain⟨L6,hL6⟩:=loE fun j fr S'=>S'=S8/\fr 1= .sl rl 0 2 2/\fr 5= .ptr p5 0/\fr 6= .ptr ru 0/\fr 8=nn/\fr 10= .ptr pr 0/\fr 11= .int .i64 0/\fr 13=cv/\fr 16= .int .i64 0/\fr 17= .bool false/\((j=1/\fr 18= .int .i64 0)\/(j=0/\fr 18= .int .i64 1));refine Jn L6 1 (by omega) ((hL6 _ _ _).2 ⟨rfl,f1,f5,f6,f8,f10,f11,f13,f16,rfl, .inl ⟨rfl,rfl⟩⟩) ?_;clear f1 f5 f6 f8 f10 f11 f13 f16;intro j fr S9 hLj;obtain⟨rfl,f1,f5,f6,f8,f10,f11,f13,f16,f17,hj⟩:=(hL6 _ _ _).1 hLj;rcases hj with⟨rfl,f18⟩|⟨rfl,f18⟩
     ·simp only[XZ,simprocAttr,f1,f5,f6,f8,f10,f11,f13,f16,f17,f18,rpr7,lq,h01,iq0,dq7,b1,b4,hne,hadd0];refine⟨Jj _, ?_⟩;simp only[bne_self_eq_false,Bool.false_eq_true,if_false];simp only[XZ,simprocAttr,f1,f5,f6,f8,f10,f11,f13,f16,f17,f18,hadd0];exact⟨0,by omega,(hL6 _ _ _).2 ⟨rfl,f1,f5,f6,f8,f10,f11,f13,f16,rfl, .inr ⟨rfl,rfl⟩⟩⟩
     have w9:=Z7.wf;obtain⟨n9,hn9⟩:=nxE S9;have opr:=fun k=>nes (Jz w9 hn9 (Jc rpr7) k);rw[Je,Jb];simp only[XY,simprocAttr,f10,f18,rpr7,lq,h11];rw[Jb];simp only[XY,simprocAttr,f17];simp only[XY,simprocAttr,f10,f13,f16,rpr7,b1,b4,hn9,opr];obtain⟨A3,hA3⟩:=exE (S9.new fun t=>Row.cells t [ofL [116], .int .i64 (tb.main:Nat)]);have ga3:Gr S9 A3:=by rw[hA3];exact Gr.new w9 (Ja _)
     have hone:SlAt (fun r=>r=up 0 n9) A3 (.slx (up 0 n9) 0 1 2 1) 2 [clE ([116],tb.main)]:=by
      have:=Qd (st:=S9) (z:=2) (e:=clE ([116],tb.main)) rfl
      rwa [hn9,show(S9.new fun t=>Row.cells t (clE ([116],tb.main)))=A3 from hA3.symm]at this
     rw[<-hA3];clear hA3;have rpr3:=ga3.cells rpr7;have hq3:SlF S0 A3 (.slx q1 0 1 2 1) 2 [clE ([],tb.main)]:=⟨fun e he=>by rw[List.mem_singleton.1 he];rfl, .inr ⟨q1,u1,q10,by rw[ga3.cells rq17];rfl, .inr rfl⟩⟩
     refine Qw (S0:={S0 with low:=A3.low}) (Z7.more ga3).gr hq3 hone (fun e he=>by rw[List.mem_singleton.1 he];rfl) (by simp) (by simp) (by simp) ?_;intro A4 pv g4 h4 rv4 kp4;have h4:SlF S0 A4 pv 2 [clE ([],tb.main),clE ([116],tb.main)]:=h4;have nr:∀r,rowOf nn=some r->S2.row r≠ .none:=fun r e=>hnn.some e;have rpr4:A4.row pr= .cells u2 [.ptr ru 0, .slx q1 0 1 2 1, .sl rl 0 2 2]:=(kp4 pr (Jc rpr3) (fun e=>hqp (by injection e))).trans rpr3;have al3:∀r,rowOf nn=some r->A3.row r≠ .none:=fun r e=>((hnn7.gr ga3)).some e;have hnn4:SlF S0 A4 nn 1 [[ofL [116]]]:=(hnn7.gr ga3).keep fun r e=>kp4 r (al3 r e) fun c=>nr r e (by rw[show r=q1 by injection c with c;exact c.symm];exact q1n);have sc4:=h4.at.sc;have cl4:=h4.at.cells;have pvr:∀r,rowOf pv=some r->r≠pr:=fun r e c=>by
      rw[rv4]at e;injection e with e;rw[<-c,<-e,Kj ga3.wf]at rpr3
      cases rpr3
     have C5:Ch (fun r=>r=pr) A4 (A4.wr pr u2 fun u=>Row.cells u [.ptr ru 0,pv, .sl rl 0 2 2]):=(Ch.refl (fun r=>r=pr) g4.wf).wr (Jc rpr4) (by rw[rpr4];rfl) (.inl rfl) (Ja _);have Z5:Fz S0 (A4.wr pr u2 fun u=>Row.cells u [.ptr ru 0,pv, .sl rl 0 2 2]):=(Fz.back g4).ch C5 fun r e=>by rw[e];exact pr0
     simp only[XZ,simprocAttr,f1,f5,f6,f8,f10,f11,f13,f16,rpr4,sc4,cl4,hadd0];exact⟨0,by omega,(hL4 _ _ _).2 ⟨f1,f5,f6,f8,f10,f11,f13, .inr ⟨rfl,rfl,Z5,hnn4.keep fun r e=>by rw[Jk,if_neg fun c=>nr r e (by rw[c];exact prn)],A4.t,pv,by rw[Jk,if_pos rfl],h4.keep fun r e=>by rw[Jk,if_neg (pvr r e)]⟩⟩⟩
    ·simp only[XZ,simprocAttr,f1,f5,f6,f8,f10,f11,f13,f16,lcv,h11,hadd0];exact⟨0,by omega,(hL _ _ _).2 ⟨f1,f5,f6,f8,f10, .inr ⟨rfl,rfl,Z8,hnn8,h8⟩⟩⟩
 ·have hpa:=hpv.al;have lpv:=hpa.len;have r54:S4.row p5= .cells t5' [.int .i64 0,ofL [], .int .i64 0]:=(Z4.same p5 (Jc r50)).trans r50;have hru4:=(Z4.same ru (Jc hru)).trans hru;have p5pr:pr≠p5:=fun e=>Jc r50 (by rw[<-e];exact pr0);have p5ru:ru≠p5:=fun e=>Jc r5 (by rw[<-e];exact ruA)
  cases c with
  | false=>
    have lpv:Kf pv=some (.int .i64 1, .no):=lpv;simp only[XZ,simprocAttr,f5,f10,f11,rpr4,lpv,h11,r54];rw[kC];simp only[XZ,simprocAttr,f5];have hpv:SlF S0 S4 pv 2 [clE ([],tb.main)]:=hpv;refine fin _ _ (fun r e=> ?_) fun _=>⟨pr,ru,pv,lv',_,rfl,⟨tp,by rw[Jk,if_neg p5pr];exact rpr4⟩,(hpv.early fun r e=>Classical.byContradiction fun c=>c ((Gs.same r c).symm.trans e)).keep fun r hr=>by rw[Jk,if_neg fun x=>Jc r50 (by rw[<-x];exact(hpv.row hr).1)],⟨tru,by rw[Jk,if_neg p5ru];exact hru4⟩,hlt⟩
    rw[Jk,if_neg fun x=>e (by rw[x];exact p5n),Z4.same r (by rw[Gs.same r e];exact e),Gs.same r e]
  | true=>
    have lpv:Kf pv=some (.int .i64 2, .no):=lpv;obtain⟨rv,qv,b1,_,_,b4,_⟩:=hpa.elem (i:=1) (by simp[prsN]);have b1:JJ 2 pv (.int .i64 1)=some (.ptr rv qv, .no):=b1;have b4:ldn (S4.row rv) qv 2=some (.agg [ofL [116], .int .i64 (tb.main:Nat)], .no):=b4;obtain⟨n4,hn4⟩:=nxE S4;rw[Je,Jb];simp only[XY,simprocAttr,f10,f11,rpr4,lpv,h12];rw[Je];simp only[XY,simprocAttr];rw[Jb];simp only[XY,simprocAttr,f10,f11,rpr4,lpv,b1,b4,hn4];refine Js ?_;intro S5 hS5;have G5:Gr S4 S5:=by rw[hS5];exact(Gr.refl Z4.wf).nw hn4 (Ja _) (Ja _)
    obtain⟨p12,hp12⟩:=exE (up 0 n4);obtain⟨t12,r12⟩:∃t,S5.row p12= .cells t [ofL [116], .int .i64 (tb.main:Nat)]:=⟨_,by rw[hS5,hp12];simp only[XZ,simprocAttr,hn4];rfl⟩
    rw[<-hp12];clear hS5;have Z5:=Z4.more G5;have hrl5:S5.row rl= .cells _ _:=(Z5.same rl (Jc hrl0)).trans hrl0;rw[Jb];simp only[XY,simprocAttr,f1,f6,f8,r12];refine Ji (P:=fun v _=>v= .sl rb 0 1 9) ((JoP (S:={S5 with low:=S5.t}) (f:=false) hrl5).mono fun v S' ⟨a,b⟩=>⟨b▸Gr.refl (JD Z5.wf _),a⟩) ?_;rintro _ S6 G6 rfl;have Z6:=Z5.more G6;have k6:∀{q:Pt} {t:Nat} {l:List V},st.row q= .cells t l->S6.row q= .cells t l:=fun h=>(Z6.same _ (Jc (k0 h))).trans (k0 h);simp only[XY,simprocAttr];refine Ji (P:=fun v S'=>v= .tup [.snil, .int .i64 31, .int .i64 16]) (JoJ (hD.zf (Z6.low _)) (JD Z6.wf _) z2 ho hol hno (k6 hrb) (k6 hrp) (k6 hrc) (k6 hrq) hl) ?_;rintro _ S7 G7 rfl;have Z7:=Z6.more G7;have r127:=(G6.trans G7).cells r12;have r57:S7.row p5= .cells t5' [.int .i64 0,ofL [], .int .i64 0]:=(Z7.same p5 (Jc r50)).trans r50;simp only[XY,simprocAttr];simp only[XZ,simprocAttr,f5,r127,r57];rw[kC];simp only[XZ,simprocAttr,f5];refine fin _ _ (fun r e=> ?_) fun _=>rfl;rw[Jk,if_neg fun x=>e (by rw[x];exact p5n),Z7.same r (by rw[Gs.same r e];exact e),Gs.same r e]
theorem JsF {st:St}{e1:List V}{s:Sch}{lv:V}{er:Int}(hw:WF st)(h:SchC (fun r=>st.row r≠ .none) st e1 s)(hs:s.sigs=[])(hlv:One lv)(hnew:newS s=(none,er)):
  Does (tabT tabD) 10 [.agg e1,lv] st fun v S'=>Gr st S'/\v= .tup [.pnil, .agg [.int .i64 er,ofL [], .int .i64 0]]:=by
 refine Ju tabM (aT Tryz.func10 rfl) rfl hw fun K fin=> ?_;have hne:=Jcj hnew;have hsch:=h;obtain⟨cc,tv,sv,rfl,h1,h2,h3⟩:=h;obtain⟨nv,kv,es,rfl,x1,x2,x3,x4⟩:=h1.inv;have c1:=x1.cells;have c2:=x1.sc;have c3:=x2.cells;have c4:=x2.sc;have cv1:=h2.sc;have cv2:=h3.sc;obtain⟨n0,hn0⟩:=nxE st;simp only[CT,Tryz.f10,XY,simprocAttr];rw[Jb];simp only[XY,simprocAttr,hn0,c1,c2,c3,c4,cv1.1,cv1.2,cv2.1,cv2.2];refine Js ?_;intro Sa hSa;have Ga:Gr st Sa:=by rw[hSa];exact(Gr.new hw (Ja _)).nn (Ja _)
 obtain⟨p2,hp2⟩:=exE (up 0 n0);obtain⟨p5,hp5⟩:=exE (up 1 n0);obtain⟨t2',r2⟩:∃t,Sa.row p2= .cells t [.int .i64 s.main.kind,ofL s.main.name,nv,kv,tv,sv]:=⟨_,by rw[hSa,hp2];simp only[XZ,simprocAttr,hn0];rfl⟩
 obtain⟨t5',r5⟩:∃t,Sa.row p5= .cells t [.int .i64 0,ofL [], .int .i64 0]:=⟨_,by rw[hSa,hp5];simp only[XZ,simprocAttr,hn0];rfl⟩
 have p5n:st.row p5= .none:=by rw[hp5];exact nx0 hw hn0 1
 rw[<-hp2,<-hp5];clear hSa;have hs1:SchC (fun r=>Sa.row r≠ .none) Sa ([.int .i64 s.main.kind,ofL s.main.name,nv,kv]++[tv,sv]) s:=hsch.imp fun r p _=>⟨by rw[Ga.same r p];exact p,Ga.same r p⟩
 rw[Jb];simp only[XY,simprocAttr,r2];refine Jd (Ji1 Ga.wf hs1 hs) ?_;rintro v S0 ⟨Gb,hn⟩;unfold JaR at hn;rw[hnew]at hn;have hn:v= .tup [.pnil, .int .i64 er]:=hn;subst hn;have r50:=Gb.cells r5;simp only[XY,simprocAttr];rw[Je,Jb];simp only[XY,simprocAttr,hne];rw[Jb];simp only[XY,simprocAttr,r50];rw[kC];simp only[XZ,simprocAttr];exact fin _ _ (fun r e=>by rw[Jk,if_neg fun x=>e (by rw[x];exact p5n),(Ga.trans Gb).same r e]) fun _=>rfl
theorem JoQ {S:St}{e a:Int}{nm:Str}(hw:WF S):Does (tabT tabD) 11 [.pnil, .agg [.int .i64 e,ofL nm, .int .i64 a], .pnil, .agg [.int .i64 e,ofL nm, .int .i64 a]] S fun v S'=>Gr S S'/\v= .bool true:=by
 refine Ju tabM (aT Tryz.func11 rfl) rfl hw fun K fin=> ?_;obtain⟨n0,hn0⟩:=nxE S;simp only[CT,Tryz.f11,XY,simprocAttr];rw[Jb];simp only[XY,simprocAttr,hn0];refine Js ?_;intro S1 hS1;have G1:Gr S S1:=by rw[hS1];exact(Gr.new hw (Ja _)).nn (Ja _)
 obtain⟨p5,hp5⟩:=exE (up 0 n0);obtain⟨p7,hp7⟩:=exE (up 1 n0);obtain⟨t5,r5⟩:∃t,S1.row p5= .cells t [.int .i64 e,ofL nm, .int .i64 a]:=⟨_,by rw[hS1,hp5];simp only[XZ,simprocAttr,hn0];rfl⟩
 obtain⟨t7,r7⟩:∃t,S1.row p7= .cells t [.int .i64 e,ofL nm, .int .i64 a]:=⟨_,by rw[hS1,hp7];simp only[XZ,simprocAttr,hn0];rfl⟩
 rw[<-hp5,<-hp7];clear hS1;have ee:eqV (.one .p) false .pnil .pnil=some (.bool true, .no):=rfl;simp only[XZ,simprocAttr,r5,r7,ee];exact fin _ _ (fun r e=>G1.same r e) fun _=>rfl
theorem elC {P:Pt->Prop}{S:St}{v:V}{m:Nat}(h:SlAt P S v 2 [clE ([],m)]):∃r q,JJ 2 v (.int .i64 0)=some (.ptr r q, .no)/\ld1 (S.row r) q=some (ofL [], .no)/\ld1 (S.row r) (q+1)=some (.int .i64 (m:Nat), .no):=by
 obtain⟨r,q,a1,_,_,_,a5⟩:=h.elem (i:=0) (by simp);exact⟨r,q,a1,a5 0 (by simp[clE]),a5 1 (by simp[clE])⟩
theorem JrN {S:St}{r:Pt}{t:Nat}{y0 y1 y2 y3 y4 y5 tv tb pv:V}{es:List (List V)}(hw:WF S)(hr:S.row r= .cells t [y0,y1,y2,y3,y4,y5,tv,tb,pv])(hp:SlAt (fun _=>True) S pv 2 es)(hok:okC es)(hn:es.length<1000):Does (tabT tabD) 13 [.ptr r 0] S fun v S'=>Gr S S'/\SlF S S' v 2 es:=by
 refine Ju tabM (aT Tryz.func13 rfl) rfl hw fun K fin=> ?_;simp only[CT,Tryz.f13,XZ,simprocAttr,hr];refine Jd (Ji2 hw hp hok (by omega)) ?_;rintro v S' ⟨g,h⟩;simp only[XZ,simprocAttr];exact fin _ _ (fun r e=>g.same r e) fun _=>h
theorem JrO {S:St}{r:Pt}{t:Nat}{y0 y1 y2 y3 y4 y5 tv tb pv:V}(hr:S.row r= .cells t [y0,y1,y2,y3,y4,y5,tv,tb,pv]):Does (tabT tabD) 28 [.ptr r 0] S fun v S'=>v=tb/\S=S':=by
 refine Jy (aT Tryz.func28 rfl) rfl ?_;simp only[CT,Tryz.f28,XZ,simprocAttr,hr]
theorem JpW {S:St}{r:Pt}{t:Nat}{y0 y1 y2 y3 y4 y5 tv tb pv:V}{k:Int}(hr:S.row r= .cells t [y0,y1,y2,y3,y4,y5,tv,tb,pv])(hp:Kf pv=some (.int .i64 k, .no)):Does (tabT tabD) 14 [.ptr r 0] S fun v S'=>v= .int .i64 k/\S=S':=by
 refine Jy (aT Tryz.func14 rfl) rfl ?_;simp only[CT,Tryz.f14,XZ,simprocAttr,hr,hp]
theorem JrP {st st2 S:St}{r pr ru:Pt}{t tp tu:Nat}{y0 y1 y2 y3 y4 y5 tv pv qv lv lt:V}{rest:List V}{rt:Pt}{W F:Pt->Prop}{tb:Tb}{m:Nat}(hw:WF S)(hr:S.row r= .cells t [y0,y1,y2,y3,y4,y5,tv, .ptr rt 0,pv])(hp:SlF st S pv 2 [clE ([],m)])(hT:Tab W F S rt tb)
  (hq:S.row pr= .cells tp [.ptr ru 0,qv,lv]) (hqv:SlF st2 S qv 2 [clE ([],m)]) (hu:S.row ru= .cells tu (lt::rest)) (hlt:Kf lt=some (.int .i64 (tb.nodes.length:Nat), .no)):
  Does (tabT tabD) 11 [.ptr r 0, .agg [.int .i64 0,ofL [], .int .i64 0], .ptr pr 0, .agg [.int .i64 0,ofL [], .int .i64 0]] S fun v S'=>Gr S S'/\v= .bool true:=by
 refine Ju tabM (aT Tryz.func11 rfl) rfl hw fun K fin=> ?_;obtain⟨n0,hn0⟩:=nxE S;simp only[CT,Tryz.f11,XY,simprocAttr];rw[Jb];simp only[XY,simprocAttr,hn0];refine Js ?_;intro S1 hS1;have G1:Gr S S1:=by rw[hS1];exact(Gr.new hw (Ja _)).nn (Ja _)
 obtain⟨p5,hp5⟩:=exE (up 0 n0);obtain⟨p7,hp7⟩:=exE (up 1 n0);obtain⟨t5,r5⟩:∃t,S1.row p5= .cells t [.int .i64 0,ofL [], .int .i64 0]:=⟨_,by rw[hS1,hp5];simp only[XZ,simprocAttr,hn0];rfl⟩
 obtain⟨t7,r7⟩:∃t,S1.row p7= .cells t [.int .i64 0,ofL [], .int .i64 0]:=⟨_,by rw[hS1,hp7];simp only[XZ,simprocAttr,hn0];rfl⟩
 rw[<-hp5,<-hp7];clear hS1;have ef:eqV (.one .p) false (.ptr r 0) .pnil=some (.bool false, .no):=rfl;have eg:eqV (.one .p) false (.ptr pr 0) .pnil=some (.bool false, .no):=rfl;rw[Je,Jb];simp only[XY,simprocAttr,r5,r7,ef,eg];rw[Je,Jb];simp only[XY,simprocAttr,ef];rw[Jb];simp only[XY,simprocAttr];have hp1:=(hp.gr G1).at.imp (Q:=fun _=>True) fun r _ _=>⟨trivial,rfl⟩
 refine Jd (JrN G1.wf (G1.cells hr) hp1 (fun e he=>by rw[List.mem_singleton.1 he];rfl) (by simp)) ?_;rintro v S2 ⟨G2,hv⟩;have G02:=G1.trans G2;have lv1:Kf v=some (.int .i64 1, .no):=hv.at.len;have lq1:Kf qv=some (.int .i64 1, .no):=hqv.at.len;have lp1:Kf pv=some (.int .i64 1, .no):=hp.at.len;have hq2:=G02.cells hq;have hu2:=G02.cells hu;simp only[XY,simprocAttr];rw[Je,Jb];simp only[XY,simprocAttr,lv1,hq2,lq1];refine Ji (P:=fun v _=>v= .int .i64 1) ((JpW (S:={S2 with low:=S2.t}) (G02.cells hr) lp1).mono fun v S' ⟨a,b⟩=>⟨b▸Gr.refl (JD G02.wf _),a⟩) ?_;rintro _ S3 G3 rfl;have G03:=G02.trans G3;simp only[XY,simprocAttr,lv1];refine Ji (P:=fun v _=>v= .ptr rt 0) ((JrO (S:={S3 with low:=S3.t}) (G03.cells hr)).mono fun v S' ⟨a,b⟩=>⟨b▸Gr.refl (JD G03.wf _),a⟩) ?_;rintro _ S4 G4 rfl;have G04:=G03.trans G4;simp only[XY,simprocAttr];refine Ji (P:=fun v _=>v= .int .i64 (tb.nodes.length:Nat)) ((lenC (st:={S4 with low:=S4.t}) ((hT.gr G04).keep fun r _ _=>rfl)).mono fun v S' ⟨a,b⟩=>⟨b▸Gr.refl (JD G04.wf _),a⟩) ?_;rintro _ S5 G5 rfl;have G05:=G04.trans G5;have hq5:=G05.cells hq;have hu5:=G05.cells hu;have hv5:=(hv.gr (G3.trans (G4.trans G5))).at;obtain⟨ra,qa,a1,a2,a3⟩:=elC hv5;obtain⟨rb,qb,b1,b2,b3⟩:=elC ((hqv.gr G05).at);have h01:(0:Int)<1:=by omega
 have h11:¬(1:Int)<1:=by omega
 have hadd0:IntKind.i64.wrap ((0:Int)+1)=1:=by decide
 simp only[XY,simprocAttr,hq5,hu5,hlt,Jj];rw[Je,Jb];simp only[XY,simprocAttr];obtain⟨L,hL⟩:=loE fun j fr S'=>S'=S5/\fr 2= .ptr pr 0/\fr 9=v/\((j=1/\fr 10= .int .i64 0)\/(j=0/\fr 10= .int .i64 1));refine Jn L 1 (by omega) ((hL _ _ _).2 ⟨rfl,rfl,rfl, .inl ⟨rfl,rfl⟩⟩) ?_;intro j fr S6 hLj;obtain⟨rfl,f2,f9,hj⟩:=(hL _ _ _).1 hLj;rcases hj with⟨rfl,f10⟩|⟨rfl,f10⟩
 ·simp only[XZ,simprocAttr,f2,f9,f10,lv1,hq5,h01,a1,a2,a3,b1,b2,b3,hadd0];exact⟨0,by omega,(hL _ _ _).2 ⟨rfl,f2,f9, .inr ⟨rfl,rfl⟩⟩⟩
 ·simp only[XZ,simprocAttr,f2,f9,f10,lv1,h11];exact fin _ _ (fun r e=>G05.same r e) fun _=>rfl
theorem JeU (a n:Int)(st:St)(h0:0<n)(h1:n<4611686018427387904):Does (tabT tabD) 34 [.int .i64 a, .int .i64 n] st fun v st'=>v= .int .i64 (a%n)/\st=st':=by
 refine Jy (aT Tryz.func34 rfl) rfl ?_;have hn:n≠0:=by omega
 have e1:=Int.emod_nonneg a hn;have e2:=Int.emod_lt_of_pos a h0;rcases Jsh a h0 with⟨h3,h4⟩|⟨h3,h4⟩
 ·simp only[CT,Tryz.f34,XZ,simprocAttr,hn,h3];rw[h4]
 ·have hw:IntKind.i64.wrap (a.tmod n+n)=a%n:=by rw[h4,Jo (by omega) (by omega)]
  simp only[CT,Tryz.f34,XZ,simprocAttr,hn,h3,hw]
theorem JqQ (z:Int)(st:St)(hw:WF st):Does (tabT tabD) 36 [.int .i64 z] st fun v st'=>Gr st st'/\v=ofL (JcU z):=by
 refine Jy (aT Tryz.func36 rfl) rfl ?_;obtain⟨q,hq⟩:∃q,st.nx=q:=⟨_,rfl⟩
 simp only[CT,Tryz.f36,XZ,simprocAttr,hq];refine Jd (JeU z 7 _ (by decide) (by decide)) ?_;rintro _ _ ⟨rfl,rfl⟩;have e1:=Int.emod_nonneg z (show(7:Int)≠0 by decide);have e2:=Int.emod_lt_of_pos z (show(0:Int)<7 by decide);obtain⟨m,hm⟩:∃m:Nat,z%7=m:=⟨(z%7).toNat,by omega⟩
 have hs:JcU z=nms7.getD m []:=by unfold JcU;rw[hm];rfl
 rw[hm]at e1 e2⊢;rw[hs];clear hs hm;have hg:∀l,Gr st (st.new fun u=> .cells u l):=fun l=>Gr.new hw (Ja _);have hr:(st.new fun u=>Row.cells u [ofL [97],ofL [98],ofL [99],ofL [110,97,109,101],ofL [110],ofL [73,110,116],ofL [116,121,112,101]]).row q= .cells st.t [ofL [97],ofL [98],ofL [99],ofL [110,97,109,101],ofL [110],ofL [73,110,116],ofL [116,121,112,101]]:=by rw[<-hq];exact JG _ _
 have c:m=0\/m=1\/m=2\/m=3\/m=4\/m=5\/m=6:=by omega
 rcases c with rfl|rfl|rfl|rfl|rfl|rfl|rfl
 all_goals simp only[XZ,simprocAttr,hr]
 all_goals first|exact⟨⟨by decide,by decide⟩,hg _,rfl⟩|exact⟨hg _,rfl⟩
theorem wrap64 (z:Int):In64 (IntKind.i64.wrap z):=by
 have h1:=Int.emod_nonneg z (show(18446744073709551616:Int)≠0 by decide);have h2:=Int.emod_lt_of_pos z (show(0:Int)<18446744073709551616 by decide);have e:IntKind.i64.wrap z=if(9223372036854775808:Int)<=z%18446744073709551616 then z%18446744073709551616-18446744073709551616 else z%18446744073709551616:=by
  simp[IntKind.wrap,IntKind.bits,IntKind.signed]
 unfold In64;rw[e]
 split<;>omega
theorem kidC {P:Pt->Prop}{st:St}{e:List V}{r:Rw}(hw:WF st)(h:RwC P st e r)(i:Nat)(hi:i<1000):Does (tabT tabD) 35 [.agg e, .int .i64 i] st fun v st'=>Gr st st'/\∃e',v= .agg e'/\RwC P st' e' (kidS r i):=by
 refine Jy (aT Tryz.func35 rfl) rfl ?_;obtain⟨nv,kv,es,rfl,hk,hn,hz,h1,h2,h3,⟨hl1,hl2⟩,h4⟩:=h.inv;obtain⟨n0,hn0⟩:=nxE st;have c1:=h1.cells;have s1:=h1.sc;have c2:=h2.cells;have s2:=h2.sc;have len2:=h2.len;simp only[CT,Tryz.f35,XY,simprocAttr];rw[Jb];simp only[XY,simprocAttr,hn0,c1,s1,c2,s2];have rel:∀f g:Nat->Row,Gr st ((st.new f).new g)->True:=fun _ _ _=>trivial;have gg:Gr st ((st.new fun t=> .cells t [.int .i64 r.kind, .int .i64 r.n,nv,kv]).new fun t=> .cells t [.int .i64 0, .int .i64 0, .snil, .snil]):=((Gr.refl hw).nn (Ja _)).nn (Ja _);by_cases h0:r.kids.length=0
 ·rw[h3,h0]at len2;rw[Je,Jb];simp only[XZ,simprocAttr,hn0,len2,Int.natCast_zero];have gw:=gg.wr (p:=up 1 n0) (f:=fun u=> .cells u [.int .i64 (IntKind.i64.wrap (r.n+i)), .int .i64 r.kind, .snil, .snil]) (nx0 hw hn0 1) (by simp only[XZ,simprocAttr,hn0]) (by simp only[XZ,simprocAttr,hn0];rfl) (Ja _);refine⟨gw,_,rfl, ?_⟩;rw[kidS,if_pos h0];exact .mk (es:=[]) (wrap64 _) hk (fun z hz=>absurd hz (by simp)) (SlAt.nil _ _ _) (SlAt.nil _ _ _) rfl ⟨by decide,by decide⟩ fun i h=>absurd h (by simp)
 ·have h0':(es.length:Int)≠0:=by omega
  rw[Je,Jb];simp only[XY,simprocAttr,hn0,len2,h0'];have hj:i%es.length<es.length:=Nat.mod_lt _ (by omega);have hmod:(i:Int).tmod (es.length:Int)=((i%es.length:Nat):Int):=rfl;obtain⟨q,o,a1,a2,a3,a4,a5⟩:=h2.elem hj;have hkid:=h4 _ hj (by omega);obtain⟨nv',kv',es',he,hk',hn',hz',b1,b2,b3,b4,b5⟩:=hkid.inv;rw[he]at a4;have c3:=b1.cells;have s3:=b1.sc;have c4:=b2.cells;have s4:=b2.sc;have oq:=fun k=>nes (Jz hw hn0 a3 k);simp only[XZ,simprocAttr,hn0,len2,h0',hmod,a1,a4,c3,s3,c4,s4,oq];have gw:=gg.wr (p:=up 1 n0) (f:=fun u=> .cells u [.int .i64 r.kids[i%es.length].kind, .int .i64 r.kids[i%es.length].n,nv',kv']) (nx0 hw hn0 1) (by simp only[XZ,simprocAttr,hn0]) (by simp only[XZ,simprocAttr,hn0];rfl) (Ja _);refine⟨gw,_,rfl, ?_⟩;have e:∀j,j=i%r.kids.length->∀hj':j<r.kids.length,kidS r i=r.kids[j]:=by
   rintro j rfl hj';rw[kidS,if_neg h0];simp only[List.getD_eq_getElem?_getD,List.getElem?_eq_getElem hj',Option.getD_some]
  rw[e (i%es.length) (by rw[h3]) (by omega)];have:=hkid.gr gw;rw[he]at this;exact this
theorem fewC {P:Pt->Prop}{st0:St}{e:List V}{r:Rw}(h:RwC P st0 e r):∀(st:St),Gr st0 st->∀most:Int,-4611686018427387904<most->most<4611686018427387904->Does (tabT tabD) 15 [.agg e, .int .i64 most] st fun v st'=>Gr st st'/\∃m,v= .int .i64 m/\0<=m/\(m<=most\/m=0):=by
 induction h with
 | @mk rk rn zs ks nv kv es hk hn hz h1 h2 h3 hl h4 ih=>
 intro st g0 most hm1 hm2;have hw:=g0.wf;refine Jy (aT Tryz.func15 rfl) rfl ?_;obtain⟨n0,hn0⟩:=nxE st;have c1:=h1.cells;have s1:=h1.sc;have c2:=h2.cells;have s2:=h2.sc;have len1:=h1.len;have len2:=h2.len;rw[Qe]at len1;simp only[CT,Tryz.f15,XY,simprocAttr];rw[Jb];simp only[XY,simprocAttr,hn0,c1,s1,c2,s2];have gb:Gr st (st.new fun t=> .cells t [.int .i64 rk, .int .i64 rn,nv,kv]):=Gr.new hw (Ja _);by_cases h0:most<=0
 ·rw[Je,Jb];simp only[XZ,simprocAttr,h0];exact⟨gb,0,rfl,by omega, .inr rfl⟩
 by_cases ha:(10:Int)<es.length
 ·rw[Je,Jb];simp only[XZ,simprocAttr,h0,hn0,len2,ha];exact⟨gb,0,rfl,by omega, .inr rfl⟩
 by_cases hb:(20:Int)<zs.length
 ·rw[Je,Jb];simp only[XZ,simprocAttr,h0,hn0,len2,len1,ha,hb];exact⟨gb,0,rfl,by omega, .inr rfl⟩
 rw[Je,Jb];simp only[XY,simprocAttr,h0,hn0,len2,len1,ha,hb];have hsub:IntKind.i64.wrap (most-1)=most-1:=Jo (by omega) (by omega);rw[Jb];simp only[XY,simprocAttr,hsub];obtain⟨J,hJ⟩:=opE fun fr S=>(Gr st S/\∃m,fr 1= .int .i64 m/\0<=m/\m<=most)
 refine JM J ?_ ?_
 ·rw[Jb];simp only[XY,simprocAttr];obtain⟨L,hL⟩:=loE fun j fr S=>∃(i:Nat) (m t:Int),j+i=es.length/\Gr st S/\fr 1= .int .i64 m/\0<=m/\m<=most/\fr 2= .ptr (up 0 n0) 0/\fr 5= .int .i64 i/\S.row (up 0 n0)= .cells st.t [.int .i64 rk, .int .i64 rn,nv,kv];refine Jn L es.length (by omega) ((hL _ _ _).2 ⟨0,most-1,0,by omega,gb,rfl,by omega,by omega,rfl,by simp only[XZ,simprocAttr]<;>rfl,by rw[<-hn0];exact JG _ _⟩) ?_;intro j fr S hLj;obtain⟨i,m,_,hj,hg,f1,hm3,hm4,f2,f5,rb⟩:=(hL _ _ _).1 hLj;by_cases hi:i<es.length
  ·have hi':(i:Int)<es.length:=by omega
   by_cases hm0:0<m
   ·obtain⟨q,o,a1,a2,a3,a4,a5⟩:=(h2.gr (g0.trans hg)).elem hi;have hadd1:IntKind.i64.wrap ((i:Int)+1)=((i+1:Nat):Int):=by rw[Jo (by omega) (by omega)];rfl
    simp only[XZ,simprocAttr,f1,f2,f5,rb,len2,hi',hm0,a1,a4];refine Jd (ih i hi (by omega) S (g0.trans hg) m (by omega) (by omega)) ?_;rintro _ S' ⟨g',m',rfl,b1,b2⟩;simp only[XZ,simprocAttr,f1,f2,f5,hadd1];exact⟨es.length-(i+1),by omega,(hL _ _ _).2 ⟨i+1,m',0,by omega,hg.trans g',rfl,b1,by omega,f2,rfl,g'.cells rb⟩⟩
   ·simp only[XZ,simprocAttr,f1,f2,f5,rb,len2,hi',hm0];exact(hJ _ _).2 ⟨hg,m,f1,hm3,hm4⟩
  ·have hi':¬(i:Int)<es.length:=by omega
   simp only[XZ,simprocAttr,f1,f2,f5,rb,len2,hi'];exact(hJ _ _).2 ⟨hg,m,f1,hm3,hm4⟩
 intro fr S hJf;obtain⟨hg,m,f1,hm3,hm4⟩:=(hJ _ _).1 hJf;simp only[XZ,simprocAttr,f1];exact⟨hg,m,rfl,hm3, .inl hm4⟩
theorem Jlz {α β:Type}{R:α->β->Prop}{x:α}{y:β}(hxy:R x y):∀(k:Nat) {es:List α} {ks:List β},es.length=ks.length->(∀i (h:i<es.length) (h':i<ks.length),R es[i] ks[i])->∀i (h:i<(es.take k++x::es.drop k).length) (h':i<(ks.take k++y::ks.drop k).length),R (es.take k++x::es.drop k)[i] (ks.take k++y::ks.drop k)[i]
 | 0,es,ks,hl,h,i,h1,h2=>by
   simp only[List.take_zero,List.nil_append,List.drop_zero]
   cases i with
   |zero=>exact hxy
   |succ i=>exact h i (by simpa using h1) (by simpa using h2)
 | k+1,[],[],hl,h,i,h1,h2=>by
   cases i with
   |zero=>exact hxy
   |succ i=>simp at h1
 | k+1,e::es,c::ks,hl,h,i,h1,h2=>by
   cases i with
   |zero=>exact h 0 (by simp) (by simp)
   |succ i=>exact Jlz hxy k (by simpa using hl) (fun j a b=>h (j+1) (by simpa using a) (by simpa using b)) i (by simpa using h1) (by simpa using h2)
theorem kW {fr:Fr}{p:List Nat×List Nat}{l:List (List Nat×List Nat)}(h1:JZ fr [p]=true)(h2:JZ fr l=true):JZ fr (p::l)=true:=by
 simp only[JZ,List.all_cons,List.all_nil,Bool.and_true]at h1 h2⊢;rw[h1,Bool.true_and];exact h2
theorem putC {P:Pt->Prop}{st:St}{t x:Ty}{te xe:List V}(n:Str)(hw:WF st)(ht:TyC P st te t)(hx:TyC P st xe x)(hlen:t.names.length<=8)(hk:t.kids.length=t.names.length)(hP:∀r,st.row r= .none->P r):
  Does (tabT tabD) 37 [.agg te,ofL n, .agg xe] st fun v st'=>Gr st st'/\∃e',v= .agg e'/\TyC P st' e' (putS t n x):=by
 refine Jy (aT Tryz.func37 rfl) rfl ?_;obtain⟨n0,hn0⟩:=nxE st;have htt:=ht;have hxx:=hx
 cases ht with
 | @mk tk tn ns ks nv kv es h1 h2 h3 h4=>
 cases hx with
 | @mk xk xn xns xks xnv xkv xes x1 x2 x3 x4=>
 simp only[Ty.names,Ty.kids]at hlen hk;have c1:=h1.cells;have s1:=h1.sc;have c2:=h2.cells;have s2:=h2.sc;have c3:=x1.cells;have s3:=x1.sc;have c4:=x2.cells;have s4:=x2.sc;have len1:=h1.len;rw[JW]at len1;obtain⟨b1,hb1⟩:=exE (up 0 n0);obtain⟨b2,hb2⟩:=exE (up 1 n0);obtain⟨b3,hb3⟩:=exE (up 2 n0);obtain⟨I,hI⟩:=opE fun fr S=>(fr 1=ofL n/\fr 3= .ptr b1 0/\fr 5= .ptr b2 0/\fr 6= .ptr b3 0/\Gr st S/\(∃t,S.row b1= .cells t [.int .i64 tk,ofL tn,nv,kv])/\(∃t,S.row b2= .cells t [.int .i64 xk,ofL xn,xnv,xkv])/\(∃t,S.row b3= .cells t [.int .i64 0,ofL [], .snil, .snil]))
 have u01:up 0 n0≠up 1 n0:=by simp only[XZ,simprocAttr]
 have u02:up 0 n0≠up 2 n0:=by simp only[XZ,simprocAttr]
 have u12:up 1 n0≠up 2 n0:=by simp only[XZ,simprocAttr]
 simp only[CT,Tryz.f37,XY,simprocAttr];refine QY I ?_ ?_
 ·simp only[XZ,simprocAttr,hn0,c1,s1,c2,s2,c3,s3,c4,s4];refine(hI _ _).2 ⟨rfl,by simp only[XZ,simprocAttr,hb1],by simp only[XZ,simprocAttr,hb2],by simp only[XZ,simprocAttr,hb3],(((Gr.refl hw).nn (Ja _)).nn (Ja _)).nn (Ja _),⟨_,by rw[hb1];simp only[XZ,simprocAttr,hn0];rfl⟩,⟨_,by rw[hb2];simp only[XZ,simprocAttr,hn0];rfl⟩,⟨_,by rw[hb3];simp only[XZ,simprocAttr,hn0];rfl⟩⟩
 intro fr S1 hIf;obtain⟨f1,f3,f5,f6,g1,⟨t1,r1⟩,⟨t2,r2⟩,⟨t3,r3⟩⟩:=(hI _ _).1 hIf;obtain⟨k,hkp⟩:∃k,k=JV n ns:=⟨_,rfl⟩
 have hkl:k<=ns.length:=by rw[hkp];exact Jaq _ _
 have l1:(strs ns).length=ns.length:=JW _;have elem:∀i (h:i<ns.length),∃q o,JJ 1 nv (.int .i64 i)=some (.ptr q o, .no)/\ld1 (S1.row q) o=some (ofL ns[i], .no):=fun i h=>by
  obtain⟨q,o,a1,a2,a3,a4,a5⟩:=(h1.gr g1).elem (i:=i) (by omega);refine⟨q,o,a1, ?_⟩;have e:(strs ns)[i]=[ofL ns[i]]:=by simp[strs]
  have:=a5 0 (by rw[e];simp);simp only[e]at this;exact this
 rw[Jb];simp only[XY,simprocAttr];obtain⟨J,hJ⟩:=opE fun fr S=>(S1=S/\fr 1=ofL n/\fr 3= .ptr b1 0/\fr 5= .ptr b2 0/\fr 6= .ptr b3 0/\fr 7= .int .i64 k)
 refine JM J ?_ ?_
 ·simp only[XY,simprocAttr];obtain⟨L,hL⟩:=loE fun j fr S=>∃i:Nat,j+i=k/\S1=S/\fr 1=ofL n/\fr 3= .ptr b1 0/\fr 5= .ptr b2 0/\fr 6= .ptr b3 0/\fr 7= .int .i64 i;refine Jn L k (by omega) ((hL _ _ _).2 ⟨0,by omega,rfl,f1,f3,f5,f6,by simp only[XZ,simprocAttr]<;>rfl⟩) ?_;clear f1 f3 f5 f6;intro j fr S hLj;obtain⟨i,hj,rfl,f1,f3,f5,f6,f7⟩:=(hL _ _ _).1 hLj;by_cases hi:i<ns.length
  ·have hi':(i:Int)<ns.length:=by omega
   obtain⟨q,o,a1,a2⟩:=elem i hi;by_cases hik:i<k
   ·have hlt:Op.bytesLess ns[i] n=true:=Jcf n ns i hi (by omega);have hadd1:IntKind.i64.wrap ((i:Int)+1)=((i+1:Nat):Int):=by rw[Jo (by omega) (by omega)];rfl
    simp only[XZ,simprocAttr,f1,f3,f5,f6,f7,r1,len1,hi',a1,a2,hlt,hadd1];exact⟨k-(i+1),by omega,(hL _ _ _).2 ⟨i+1,by omega,rfl,f1,f3,f5,f6,rfl⟩⟩
   ·have hik:i=k:=by omega
    subst hik;have hlt:Op.bytesLess ns[i] n=false:=by
     have:=JfN n ns (by omega);simp only[<-hkp]at this;exact this
    simp only[XZ,simprocAttr,f1,f3,f5,f6,f7,r1,len1,hi',a1,a2,hlt];exact(hJ _ _).2 ⟨rfl,f1,f3,f5,f6,f7⟩
  ·have hi':¬(i:Int)<ns.length:=by omega
   have hik:i=k:=by omega
   subst hik;simp only[XZ,simprocAttr,f1,f3,f5,f6,f7,r1,len1,hi'];exact(hJ _ _).2 ⟨rfl,f1,f3,f5,f6,f7⟩
 clear f1 f3 f5 f6;intro fr S hJf;obtain⟨rfl,f1,f3,f5,f6,f7⟩:=(hJ _ _).1 hJf;have n3:st.row b3= .none:=by rw[hb3];exact nx0 hw hn0 2
 have n1:st.row b1= .none:=by rw[hb1];exact nx0 hw hn0 0
 by_cases hsame:ns[k]? =some n
 ·have hi:k<ns.length:=by
   rcases Nat.lt_or_ge k ns.length with h|h
   ·exact h
   ·rw[List.getElem?_eq_none h]at hsame;cases hsame
  have hi':(k:Int)<ns.length:=by omega
  obtain⟨q,o,a1,a2⟩:=elem k hi;have hnk:ns[k]=n:=by rw[List.getElem?_eq_getElem hi]at hsame;injection hsame
  rw[hnk]at a2;rw[Je,Jb];simp only[XZ,simprocAttr,f1,f3,f5,f6,f7,r1,r3,len1,hi',a1,a2,c1,s1,c2,s2];have gw:=g1.wr (f:=fun u=> .cells u [.int .i64 tk,ofL tn,nv,kv]) n3 (Jc r3) (by rw[r3]) (Ja _);refine⟨gw,_,rfl, ?_⟩;have e:putS (.mk tk tn ns ks) n (.mk xk xn xns xks)= .mk tk tn ns ks:=by
   rw[putS];show(if ns[JV n ns]? =some n then _ else _)=_;rw[<-hkp,if_pos hsame]
  rw[e];exact htt.gr gw
 ·skip
  obtain⟨M,hM⟩:=opE fun fr S=>(S1=S/\fr 1=ofL n/\fr 3= .ptr b1 0/\fr 5= .ptr b2 0/\fr 6= .ptr b3 0/\fr 7= .int .i64 k)
  refine JM M ?_ ?_
  ·by_cases hi:k<ns.length
   ·have hi':(k:Int)<ns.length:=by omega
    obtain⟨q,o,a1,a2⟩:=elem k hi;have hne:(ns[k]=n)=False:=eq_false fun e=>hsame (by rw[List.getElem?_eq_getElem hi];exact congrArg some e);simp only[XZ,simprocAttr,f1,f3,f5,f6,f7,r1,len1,hi',a1,a2,YQ,hne];exact(hM _ _).2 ⟨rfl,f1,f3,f5,f6,f7⟩
   ·have hi':¬(k:Int)<ns.length:=by omega
    simp only[XZ,simprocAttr,f1,f3,f5,f6,f7,r1,len1,hi'];exact(hM _ _).2 ⟨rfl,f1,f3,f5,f6,f7⟩
  clear f1 f3 f5 f6 f7;intro fr S hMf;obtain⟨rfl,f1,f3,f5,f6,f7⟩:=(hM _ _).1 hMf;have w1:=g1.wf;have hkl':k<=(strs ns).length:=by omega
  have hkl2:k<=es.length:=by omega
  obtain⟨va,hva,sa,_⟩:=JnJ (h1.gr g1) (k:=k) hkl';obtain⟨vb,hvb,sb,_⟩:=JnK (h1.gr g1) (k:=k) hkl';obtain⟨vc,hvc,sc,_⟩:=JnJ (h2.gr g1) (k:=k) hkl2;obtain⟨vd,hvd,sd,_⟩:=JnK (h2.gr g1) (k:=k) hkl2;have hva':∀S',jb S' 1 nv none (some (.int .i64 (k:Int))) none=some (va, .no):=fun _=>hva;have hvb':∀S',jb S' 1 nv (some (.int .i64 (k:Int))) none none=some (vb, .no):=fun _=>hvb;have hvc':∀S',jb S' 4 kv none (some (.int .i64 (k:Int))) none=some (vc, .no):=fun _=>hvc;have hvd':∀S',jb S' 4 kv (some (.int .i64 (k:Int))) none none=some (vd, .no):=fun _=>hvd;obtain⟨m1,hm1⟩:=nxE S1;have ob1:=fun j=>nes (Jz w1 hm1 (Jc r1) j);have ob2:=fun j=>nes (Jz w1 hm1 (Jc r2) j);have ob3:=fun j=>nes (Jz w1 hm1 (Jc r3) j);have okt:∀(z:Nat) (l:List (List V)) (q:Nat),okC l->okC (l.take q):=fun _ l q h e he=>h e (List.mem_of_mem_take he);have okd:∀(z:Nat) (l:List (List V)) (q:Nat),okC l->okC (l.drop q):=fun _ l q h e he=>h e (List.mem_of_mem_drop he);have gn:∀S:St,WF S->∀l,Gr S (S.new fun t=> .cells t l):=fun S w l=>Gr.new w (Ja _);have hes:okC es:=fun e he=>by
   obtain⟨i,hi,rfl⟩:=List.getElem_of_mem he;exact(h4 i hi (by omega)).ok
  rw[Jb];simp only[XY,simprocAttr,f3,f7,r1,hm1,ob1,hva'];have ga:=gn S1 w1 [];have hq0:SlF S1 (S1.new fun t=> .cells t []) (.slx (up 0 m1) 0 0 1 0) 1 []:=⟨by simp, .inr ⟨up 0 m1,S1.t,nx0 w1 hm1 0,by simp only[XZ,simprocAttr,hm1];rfl, .inr rfl⟩⟩
  refine Jgy (S0:=S1) ga hq0 (sa.gr ga) (okt 1 _ _ (kf ns)) (by rw[List.length_take];omega) (by rw[List.length_take];simp;omega) ?_;intro S2 v2 g2 h2' _;rw[List.nil_append]at h2';simp only[XY,simprocAttr];have b1at:S2.row b1= .cells t1 [.int .i64 tk,ofL tn,nv,kv]:=g2.cells r1;obtain⟨m2,hm2⟩:=nxE S2;have w2:=g2.wf;have ob1:=fun j=>nes (Jz w2 hm2 (Jc b1at) j);rw[Jb];simp only[XY,simprocAttr,f3,f7,b1at,hm2,ob1,hvc'];have gb:=gn S2 w2 [];have hq1:SlF S1 (S2.new fun t=> .cells t []) (.slx (up 0 m2) 0 0 4 0) 4 []:=⟨by simp, .inr ⟨up 0 m2,S2.t,by rw[<-hm2];exact g2.fresh,by simp only[XZ,simprocAttr,hm2];rfl, .inr rfl⟩⟩
  refine jh (S0:=S1) (g2.trans gb) hq1 ((sc.gr g2).gr gb) (okt 4 _ _ hes) (by rw[List.length_take];omega) (by rw[List.length_take];simp;omega) ?_;intro S3 v3 g3 h3' row3 keep3;rw[List.nil_append]at h3';have v2ex:∀{r},rowOf v2=some r->S2.row r≠ .none:=fun hr=>h2'.some hr;have h23x:∀r,rowOf v3=some r->S2.row r= .none:=fun r hr=>by
   rcases row3 with e|e
   ·rw[e]at hr;injection hr with hr;rw[<-hr];exact nx0 w2 hm2 0
   ·rw[e]at hr;injection hr with hr;rw[<-hr];have:=nx0 w2 hm2 1;simpa only[XZ,simprocAttr,hm2]using this
  have h23:SlF S1 S3 v2 1 ((strs ns).take k):=(h2'.gr gb).keep fun r hr=>keep3 r ((h2'.gr gb).some hr) (fun e=>by
   injection e with e;exact Jz w2 hm2 (v2ex hr) 0 e.symm)
  have x32:∀r,rowOf v3=some r->rowOf v2≠some r:=fun r a b=>v2ex b (h23x r a);simp only[XY,simprocAttr];have b1at:=g3.cells r1;have b2at:=g3.cells r2;rw[Jb];simp only[XY,simprocAttr,f1,f3,f5,f7,b1at,b2at,hvb',hvd',c3,s3,c4,s4];have w3:=g3.wf;have gc:=gn S3 w3 [ofL n];have ba:S1.row b1≠ .none:=Jc r1;have bb:S1.row b2≠ .none:=Jc r2;refine Qw (S0:=S1) (g3.trans gc) (h23.gr gc) (Qd rfl) (fun e he=>by rw[List.mem_singleton.1 he];rfl) (by simp) (by simp) (by rw[List.length_take];simp;omega) ?_;intro S4 v4 g4 h4' row4 keep4;have v4n:∀r,rowOf v4=some r->S3.row r= .none:=fun r hr=>by
   rw[row4]at hr;injection hr with hr;rw[<-hr];exact Ch.fresh (Ch.of (fun _=>False) gc) (Kj gc.wf)
  have h34:SlF S1 S4 v3 4 (es.take k):=(h3'.gr gc).keep fun r hr=>keep4 r ((h3'.gr gc).some hr) fun e=>x32 r hr e;have b1at:=g4.cells r1;simp only[XY,simprocAttr,f1,f3,f5,f7,b1at,hvb'];refine jh (S0:=S1) g4 h4' (sb.gr g4) (okd 1 _ _ (kf ns)) (by rw[List.length_drop];omega) (by rw[List.length_drop,List.length_append,List.length_take];simp;omega) ?_;intro S5 v5 g5 h5' row5 keep5;have h35:SlF S1 S5 v3 4 (es.take k):=h34.keep fun r hr=>keep5 r (h34.some hr) fun e=>h3'.some hr (v4n r e);have b2at:=g5.cells r2;simp only[XY,simprocAttr,f1,f3,f5,f7,b2at,c3,s3,c4,s4];have w5:=g5.wf;have gd:=gn S5 w5 [.int .i64 xk,ofL xn,xnv,xkv];have hxok:Km [V.int .i64 xk,ofL xn,xnv,xkv]=true:=hxx.ok;refine Qw (S0:=S1) (g5.trans gd) (h35.gr gd) (Qd rfl) (fun e he=>by rw[List.mem_singleton.1 he];exact hxok) (by simp) (by simp) (by rw[List.length_take];simp;omega) ?_;intro S6 v6 g6 h6' row6 keep6;have v6n:∀r,rowOf v6=some r->S5.row r= .none:=fun r hr=>by
   rw[row6]at hr;injection hr with hr;rw[<-hr];exact Ch.fresh (Ch.of (fun _=>False) gd) (Kj gd.wf)
  have x53:∀r,rowOf v5=some r->rowOf v3≠some r:=fun r a b=>by
   rcases row5 with e|e
   ·rw[e]at a;exact h3'.some b (v4n r a)
   ·rw[e]at a;injection a with a;rw[<-a]at b;exact h34.some b (Kj g4.wf)
  have h56:SlF S1 S6 v5 1 ((strs ns).take k++[[ofL n]]++(strs ns).drop k):=(h5'.gr gd).keep fun r hr=>keep6 r ((h5'.gr gd).some hr) (x53 r hr);have b1at:=g6.cells r1;simp only[XY,simprocAttr,f1,f3,f5,f7,b1at,hvd'];refine jh (S0:=S1) g6 h6' (sd.gr g6) (okd 4 _ _ hes) (by rw[List.length_drop];omega) (by rw[List.length_drop,List.length_append,List.length_take];simp;omega) ?_;intro S7 v7 g7 h7' row7 keep7;have h57:SlF S1 S7 v5 1 ((strs ns).take k++[[ofL n]]++(strs ns).drop k):=h56.keep fun r hr=>keep7 r (h56.some hr) fun e=>h5'.some hr (v6n r e);have b1at:=g7.cells r1;have c5:=h57.at.cells;have s5:=h57.at.sc;have c6:=h7'.at.cells;have s6:=h7'.at.sc;simp only[XY,simprocAttr,f1,f3,f5,f7,b1at,c5,s5,c6,s6];have a2:=QK h2' ba;have a2':=QK h2' bb;have a4:=QK h4' ba;have a4':=QK h4' bb;have a3:=QK h3' ba;refine⟨kW (Kq (v:=v2) (w:= .ptr b1 2) (q:=b1) rfl rfl rfl a2)<|kW (Kq (v:=v2) (w:= .ptr b2 0) (q:=b2) rfl f5 rfl a2')<|kW (Kq (v:=v2) (w:= .ptr b1 3) (q:=b1) rfl rfl rfl a2)<|kW (Kq (v:=v4) (w:= .ptr b2 0) (q:=b2) rfl f5 rfl a4')<|kW (Kq (v:=v4) (w:= .ptr b1 3) (q:=b1) rfl rfl rfl a4) (Kq (v:=v3) (w:= .ptr b1 3) (q:=b1) rfl rfl rfl a3), ?_⟩;have ga7:Gr st (S7.wr b1 t1 fun u=> .cells u [.int .i64 tk,ofL tn,v5,kv]):=(g1.trans g7).wr n1 (Jc b1at) (by rw[b1at];rfl) (Ja _);have rb:(S7.wr b1 t1 fun u=>Row.cells u [V.int .i64 tk,ofL tn,v5,kv]).row b1= .cells S7.t [.int .i64 tk,ofL tn,v5,kv]:=Jm _ _ _ _;obtain⟨S8,hS8⟩:=exE ((S7.wr b1 t1 fun u=>Row.cells u [V.int .i64 tk,ofL tn,v5,kv]).wr b1 S7.t fun u=>Row.cells u [V.int .i64 tk,ofL tn,v5,v7]);have g8:Gr st S8:=by rw[hS8];exact ga7.wr n1 (Jc rb) (by rw[rb];rfl) (Ja _)
  have nb:∀p,p≠b1->S8.row p=S7.row p:=fun p hp=>by rw[hS8,Jl _ _ _ hp,Jl _ _ _ hp]
  have rb1:∃t,S8.row b1= .cells t [.int .i64 tk,ofL tn,v5,v7]:=⟨_,by rw[hS8];exact Jm _ _ _ _⟩
  rw[<-hS8];clear hS8 ga7 rb;obtain⟨t8,rb1⟩:=rb1;have b31:b3≠b1:=by rw[hb1,hb3];exact fun e=>u02 e.symm
  have rb3:S8.row b3= .cells t3 [.int .i64 0,ofL [], .snil, .snil]:=by rw[nb b3 b31];exact g7.cells r3
  rw[Jb];simp only[XZ,simprocAttr,f3,f6,rb1,rb3,c5,s5,c6,s6];have g9:Gr st (S8.wr b3 t3 fun u=> .cells u [.int .i64 tk,ofL tn,v5,v7]):=g8.wr n3 (Jc rb3) (by rw[rb3];rfl) (Ja _);refine⟨g9,_,rfl, ?_⟩;have e:putS (.mk tk tn ns ks) n (.mk xk xn xns xks)= .mk tk tn (ns.take k++n::ns.drop k) (ks.take k++(.mk xk xn xns xks)::ks.drop k):=by
   rw[putS];show(if ns[JV n ns]? =some n then _ else _)=_;rw[<-hkp,if_neg hsame,hkp];rfl
  rw[e];have nv5:∀r,rowOf v5=some r->r≠b1/\r≠b3:=fun r hr=>⟨fun e=>QK h57 ba (by rw[<-e];exact hr),fun e=>QK h57 (Jc r3) (by rw[<-e];exact hr)⟩
  have nv7:∀r,rowOf v7=some r->r≠b1/\r≠b3:=fun r hr=>⟨fun e=>QK h7' ba (by rw[<-e];exact hr),fun e=>QK h7' (Jc r3) (by rw[<-e];exact hr)⟩
  have k5:=h57.keep (st':=(S8.wr b3 t3 fun u=> .cells u [.int .i64 tk,ofL tn,v5,v7])) fun r hr=>by rw[Jl _ _ _ (nv5 r hr).2,nb r (nv5 r hr).1]
  have k7:=h7'.keep (st':=(S8.wr b3 t3 fun u=> .cells u [.int .i64 tk,ofL tn,v5,v7])) fun r hr=>by rw[Jl _ _ _ (nv7 r hr).2,nb r (nv7 r hr).1]
  have hPS:∀r,S1.row r= .none->P r:=fun r h=>hP r (Ch.fresh (Ch.of (fun _=>False) g1) h);have hstr:(strs ns).take k++[[ofL n]]++(strs ns).drop k=strs (ns.take k++n::ns.drop k):=by simp[strs]
  rw[hstr]at k5;have hkid:es.take k++[[.int .i64 xk,ofL xn,xnv,xkv]]++es.drop k=es.take k++[.int .i64 xk,ofL xn,xnv,xkv]::es.drop k:=by simp
  rw[hkid]at k7;refine .mk (es:=es.take k++[.int .i64 xk,ofL xn,xnv,xkv]::es.drop k) (k5.at.imp fun r p _=>⟨hPS r p,rfl⟩) (k7.at.imp fun r p _=>⟨hPS r p,rfl⟩) (by simp;omega) ?_;exact Jlz (R:=TyC P (S8.wr b3 t3 fun u=> .cells u [.int .i64 tk,ofL tn,v5,v7])) (hxx.gr g9) k h3 fun i a b=>(h4 i a b).gr g9
def JcB (nms:List Str)(d:Nat):Prop:=∀{P Q:Pt->Prop} {st:St} {e:List V} {r:Rw} {nv:V},WF st->RwC P st e r->SlAt Q st nv 1 (strs nms)->
 Does (tabT tabD) 17 [.agg e, .int .i64 d,nv] st fun v st'=>Gr st st'/\∃e',v= .agg e'/\TyC (fun r=>st.row r= .none) st' e' (JB nms d r)
theorem Jma (nms:List Str)(d:Nat)(r:Rw):jH nms d r=1\/jH nms d r=2\/jH nms d r=3\/jH nms d r=4\/jH nms d r=5\/jH nms d r=6\/jH nms d r=7\/jH nms d r=8\/jH nms d r=9:=by
 have e1:=Int.emod_nonneg r.kind (show(9:Int)≠0 by decide);have e2:=Int.emod_lt_of_pos r.kind (show(0:Int)<9 by decide);unfold jH
 split
 ·omega
 ·omega
theorem Ji5 {t x:Ty}{n:Str}{i:Nat}(h1:t.kids.length=t.names.length)(h2:t.names.length<=i):(putS t n x).kids.length=(putS t n x).names.length/\(putS t n x).names.length<=i+1:=by
 unfold putS
 split
 ·exact⟨h1,by omega⟩
 ·have:=Jaq n t.names;simp[Ty.kids,Ty.names]at*;omega
theorem Ji6 (nms:List Str)(hnm:nms.length<1000)(d:Nat)(hd:d<1000)(ih:d≠0->JcB nms d):JcB nms (d+1):=by
 intro P Q st e r nv hw h hn;refine Jy (aT Tryz.func17 rfl) rfl ?_;have hr:=h;obtain⟨rnv,rkv,es,rfl,hk,hnn,hz,h1,h2,h3,⟨hl1,hl2⟩,h4⟩:=h.inv;obtain⟨n0,hn0⟩:=nxE st;obtain⟨b,hb⟩:=exE (up 0 n0);obtain⟨b2,hb2⟩:=exE (up 1 n0);have c1:=h1.cells;have s1:=h1.sc;have c2:=h2.cells;have s2:=h2.sc;have lenN:=hn.len;rw[JW]at lenN;have e1:=Int.emod_nonneg r.kind (show(9:Int)≠0 by decide);have e2:=Int.emod_lt_of_pos r.kind (show(0:Int)<9 by decide);simp only[CT,Tryz.f17,XY,simprocAttr];rw[Jb];simp only[XY,simprocAttr,hn0,c1,s1,c2,s2];have hd1:(((d+1:Nat):Int))=(d:Int)+1:=by omega
 obtain⟨S0,hS0⟩:=exE ((st.new fun t=> .cells t [.int .i64 r.kind, .int .i64 r.n,rnv,rkv]).new fun t=> .cells t [.int .i64 0,ofL [], .snil, .snil]);have g0:Gr st S0:=by rw[hS0];exact((Gr.refl hw).nn (Ja _)).nn (Ja _)
 have r1:S0.row b= .cells st.t [.int .i64 r.kind, .int .i64 r.n,rnv,rkv]:=by rw[hS0,hb];simp only[XZ,simprocAttr,hn0]
 have r2:∃t,S0.row b2= .cells t [.int .i64 0,ofL [], .snil, .snil]:=⟨_,by rw[hS0,hb2];simp only[XZ,simprocAttr,hn0];rfl⟩
 rw[<-hb,<-hb2,<-hS0];have w0:=g0.wf;have nb1:st.row b= .none:=by rw[hb];exact nx0 hw hn0 0
 have nb2:st.row b2= .none:=by rw[hb2];exact nx0 hw hn0 1
 have b12:b≠b2:=by
  rw[hb,hb2];simp only[XZ,simprocAttr]
 clear hS0;obtain⟨t2,r2⟩:=r2;obtain⟨K,hK⟩:∃K,K=1+r.kind%9:=⟨_,rfl⟩
 have hKw:IntKind.i64.wrap (1+r.kind%9)=K:=by rw[hK];exact Jo (by omega) (by omega)
 rw[Jb];simp only[XY,simprocAttr,r1];refine Jd (JeU r.kind 9 _ (by decide) (by decide)) ?_;rintro _ _ ⟨rfl,rfl⟩;simp only[XY,simprocAttr,hKw];obtain⟨k,hkk⟩:∃k,k=jH nms (d+1) r:=⟨_,rfl⟩
 obtain⟨B,hB⟩:∃B:Fr->Prop,∀fr,B fr<->(fr 1= .int .i64 ((d+1:Nat):Int)/\fr 2=nv/\fr 3= .ptr b 0/\fr 6= .ptr b2 0/\fr 7= .int .i64 k):=⟨_,fun _=>Iff.rfl⟩
 obtain⟨I,hI⟩:=opE fun fr S=>(S0=S/\B fr)
 have hkd:k=if(K=9/\nms=[])\/(d+1<=1/\4<=K/\K<=8)then 2 else K:=by rw[hkk,hK];rfl
 refine JM I ?_ ?_
 ·by_cases k9:K=9
  ·by_cases hnn0:nms=[]
   ·have hk2:k=2:=by rw[hkd,if_pos (.inl ⟨k9,hnn0⟩)]
    rw[hnn0]at lenN;simp only[XZ,simprocAttr,k9,lenN,Int.natCast_zero];exact(hI _ _).2 ⟨rfl,(hB _).2 (by simp only[XZ,simprocAttr,hk2,and_self])⟩
   ·have hk2:k=9:=by rw[hkd,if_neg (by rintro(⟨_,h⟩|⟨_,_,h⟩);exact hnn0 h;omega),k9]
    have hl0:((nms.length:Nat):Int)≠0:=fun e=>hnn0 (List.length_eq_zero_iff.1 (by omega));by_cases h1d:((d+1:Nat):Int)<=1
    ·simp only[XZ,simprocAttr,k9,lenN,hl0,h1d];exact(hI _ _).2 ⟨rfl,(hB _).2 (by simp only[XZ,simprocAttr,hk2,and_self])⟩
    ·simp only[XZ,simprocAttr,k9,lenN,hl0,h1d];exact(hI _ _).2 ⟨rfl,(hB _).2 (by simp only[XZ,simprocAttr,hk2,and_self])⟩
  ·by_cases h1d:((d+1:Nat):Int)<=1
   ·by_cases k4:4<=K
    ·have k8:K<=8:=by omega
     have hk2:k=2:=by rw[hkd,if_pos (.inr ⟨by omega,k4,k8⟩)]
     simp only[XZ,simprocAttr,k9,h1d,k4,k8];exact(hI _ _).2 ⟨rfl,(hB _).2 (by simp only[XZ,simprocAttr,hk2,and_self])⟩
    ·have hk2:k=K:=by rw[hkd,if_neg (by rintro(⟨h,_⟩|⟨_,h,_⟩);exact k9 h;exact k4 h)]
     simp only[XZ,simprocAttr,k9,h1d,k4];exact(hI _ _).2 ⟨rfl,(hB _).2 (by simp only[XZ,simprocAttr,hk2,and_self])⟩
   ·have hk2:k=K:=by rw[hkd,if_neg (by rintro(⟨h,_⟩|⟨h,_⟩);exact k9 h;omega)]
    simp only[XZ,simprocAttr,k9,h1d];exact(hI _ _).2 ⟨rfl,(hB _).2 (by simp only[XZ,simprocAttr,hk2,and_self])⟩
 intro fr S hIf;obtain⟨rfl,hBf⟩:=(hI _ _).1 hIf;obtain⟨f1,f2,f3,f6,f7⟩:=(hB _).1 hBf;obtain⟨m0,hm0⟩:=nxE S0;obtain⟨bt,hbt⟩:=exE (up 0 m0);rw[Jb];simp only[XY,simprocAttr,f7,hm0];rw[<-hbt];have nbt0:S0.row bt= .none:=by rw[hbt];exact nx0 w0 hm0 0
 have nbt:st.row bt= .none:=Ch.fresh (Ch.of (fun _=>False) g0) nbt0;obtain⟨S1,hS1⟩:=exE ((S0.new fun t=> .cells t [.int .i64 0,ofL [], .snil, .snil]).wr bt S0.t fun u=> .cells u [.int .i64 k,ofL [], .snil, .snil]);have g01:Gr S0 S1:=by rw[hS1,hbt];exact(Gr.refl w0).nw hm0 (Ja _) (Ja _)
 have rt:S1.row bt= .cells S0.t.succ [.int .i64 k,ofL [], .snil, .snil]:=by rw[hS1];exact Jm _ _ _ _
 rw[<-hS1];clear hS1;have g1:Gr st S1:=g0.trans g01;have b2t:b2≠bt:=fun e=>by rw[e,nbt0]at r2;cases r2
 have bbt:b≠bt:=fun e=>by rw[e,nbt0]at r1;cases r1
 have r1:=g01.cells r1;have r2:=g01.cells r2;obtain⟨J,hJ⟩:=opE fun fr S=>(∃T te t,JB nms (d+1) r=T/\fr 6= .ptr b2 0/\fr 8= .ptr bt 0/\Gr st S/\S.row bt= .cells t te/\S.row b2= .cells t2 [.int .i64 0,ofL [], .snil, .snil]/\TyC (fun r=>S1.row r= .none) S te T)
 have hmem:=Jma nms (d+1) r;rw[<-hkk]at hmem;have flat:∀(P:Pt->Prop) (S:St) (k:Int) (n:Str),TyC P S [.int .i64 k,ofL n, .snil, .snil] (.mk k n [] []):=fun P S k n=> .mk (es:=[]) (SlAt.nil _ _ _) (SlAt.nil _ _ _) rfl fun i h=>absurd h (by simp);have hd0:4<=k->k<=8->d≠0:=fun a b e=>by
  subst e;by_cases c:(K=9/\nms=[])\/(0+1<=1/\4<=K/\K<=8)
  ·rw[if_pos c]at hkd;omega
  ·rw[if_neg c]at hkd;exact c (.inr ⟨by omega,by omega,by omega⟩)
 have hsubd:IntKind.i64.wrap (((d+1:Nat):Int)-1)=(d:Int):=by rw[Jo (by omega) (by omega)];omega
 have st1:∀r,S1.row r= .none->st.row r= .none:=fun r h=>Ch.fresh (Ch.of (fun _=>False) g1) h;refine JM J ?_ ?_
 ·rcases hmem with rfl|rfl|rfl|rfl|rfl|rfl|rfl|rfl|rfl
  ·simp only[XZ,simprocAttr,f7];exact(hJ _ _).2 ⟨_,_,_,by rw[JB];simp only[<-hkk];rfl,f6,rfl,g1,rt,r2,flat _ _ _ _⟩
  ·simp only[XZ,simprocAttr,f7];exact(hJ _ _).2 ⟨_,_,_,by rw[JB];simp only[<-hkk];rfl,f6,rfl,g1,rt,r2,flat _ _ _ _⟩
  ·simp only[XZ,simprocAttr,f7];exact(hJ _ _).2 ⟨_,_,_,by rw[JB];simp only[<-hkk];rfl,f6,rfl,g1,rt,r2,flat _ _ _ _⟩
  ·have hd0':=hd0 (by decide) (by decide);simp only[XZ,simprocAttr,f1,f2,f3,f7,r1,c1,s1,c2,s2];refine Jd (kidC g1.wf (hr.gr g1) 0 (by decide)) ?_;rintro _ S2 ⟨g2,ke,rfl,hke⟩;simp only[XZ,simprocAttr,f1,f2,hsubd];refine Jd (ih hd0' g2.wf hke (hn.gr (g1.trans g2))) ?_;rintro _ S3 ⟨g3,ce,rfl,hce⟩;obtain⟨cnv,ckv,ces,rfl,y1,y3,y4,y5⟩:=hce.inv;have d1:=y1.cells;have d2:=y1.sc;have d3:=y3.cells;have d4:=y3.sc;have rt3:=g3.cells (g2.cells rt);obtain⟨m3,hm3⟩:=nxE S3;have ot:=fun j=>nes (Jz g3.wf hm3 (Jc rt3) j);simp only[XZ,simprocAttr,f7,hm3,ot,rt3,d1,d2,d3,d4];obtain⟨S4,hS4⟩:=exE ((S3.new fun t=> .cells t [.int .i64 (JB nms d (kidS r 0)).kind,ofL (JB nms d (kidS r 0)).name,cnv,ckv]).wr bt S0.t.succ fun u=> .cells u [.int .i64 4,ofL [], .snil, .slx (up 0 m3) 0 1 4 1]);rw[<-hS4];have gN:Gr S3 (S3.new fun t=> .cells t [.int .i64 (JB nms d (kidS r 0)).kind,ofL (JB nms d (kidS r 0)).name,cnv,ckv]):=Gr.new g3.wf (Ja _);have g13:Gr st S3:=g1.trans (g2.trans g3);have g4:Gr st S4:=by rw[hS4];exact(g13.trans gN).wr nbt (Jc (gN.cells rt3)) (by rw[gN.cells rt3];rfl) (Ja _)
   have qt:up 0 m3≠bt:=fun e=>by have:=nx0 g3.wf hm3 0;rw[e,rt3]at this;cases this
   have rq:S4.row (up 0 m3)= .cells S3.t [.int .i64 (JB nms d (kidS r 0)).kind,ofL (JB nms d (kidS r 0)).name,cnv,ckv]:=by rw[hS4,Jl _ _ _ qt,<-hm3];exact JG _ _
   have rb4:S4.row b2= .cells t2 [.int .i64 0,ofL [], .snil, .snil]:=by rw[hS4,Jl _ _ _ b2t];exact gN.cells (g3.cells (g2.cells r2))
   have rt4:∃t,S4.row bt= .cells t [.int .i64 4,ofL [], .snil, .slx (up 0 m3) 0 1 4 1]:=⟨_,by rw[hS4];exact Jm _ _ _ _⟩
   obtain⟨t4,rt4⟩:=rt4;have q1:S1.row (up 0 m3)= .none:=Ch.fresh (Ch.of (fun _=>False) (g2.trans g3)) (nx0 g3.wf hm3 0);have hce4:TyC (fun r=>S1.row r= .none) S4 [.int .i64 (JB nms d (kidS r 0)).kind,ofL (JB nms d (kidS r 0)).name,cnv,ckv] (JB nms d (kidS r 0)):=hce.imp fun r p e=>⟨Ch.fresh (Ch.of (fun _=>False) g2) p,by
    rw[hS4,Jl _ _ _ fun k=>by rw[k,g2.cells rt]at p;cases p];exact gN.same r e⟩
   have hall:TyC (fun r=>S1.row r= .none) S4 [.int .i64 4,ofL [], .snil, .slx (up 0 m3) 0 1 4 1] (.mk 4 [] [] [JB nms d (kidS r 0)]):=
    .mk (es:=[[.int .i64 (JB nms d (kidS r 0)).kind,ofL (JB nms d (kidS r 0)).name,cnv,ckv]]) (SlAt.nil _ _ _) ⟨fun e he=>by rw[List.mem_singleton.1 he];rfl, .inr ⟨up 0 m3,0,q1, .inr ⟨1,Nat.le_refl 1,rfl⟩,_, .inl ⟨_,rq⟩,by simp,by simp⟩⟩ rfl fun i h h'=>by
     have:i=0:=by simp at h;omega
     subst this;exact hce4
   clear hS4;exact(hJ _ _).2 ⟨_,_,_,by rw[JB];simp only[<-hkk];rfl,f6,rfl,g4,rt4,rb4,hall⟩
  ·have hd0':=hd0 (by decide) (by decide);simp only[XZ,simprocAttr,f1,f2,f3,f7,r1,c1,s1,c2,s2];refine Jd (kidC g1.wf (hr.gr g1) 0 (by decide)) ?_;rintro _ S2 ⟨g2,ke,rfl,hke⟩;simp only[XZ,simprocAttr,f1,f2,hsubd];refine Jd (ih hd0' g2.wf hke (hn.gr (g1.trans g2))) ?_;rintro _ S3 ⟨g3,ce,rfl,hce⟩;obtain⟨cnv,ckv,ces,rfl,y1,y3,y4,y5⟩:=hce.inv;have d1:=y1.cells;have d2:=y1.sc;have d3:=y3.cells;have d4:=y3.sc;have rt3:=g3.cells (g2.cells rt);obtain⟨m3,hm3⟩:=nxE S3;have ot:=fun j=>nes (Jz g3.wf hm3 (Jc rt3) j);simp only[XZ,simprocAttr,f7,hm3,ot,rt3,d1,d2,d3,d4];obtain⟨S4,hS4⟩:=exE ((S3.new fun t=> .cells t [.int .i64 (JB nms d (kidS r 0)).kind,ofL (JB nms d (kidS r 0)).name,cnv,ckv]).wr bt S0.t.succ fun u=> .cells u [.int .i64 5,ofL [], .snil, .slx (up 0 m3) 0 1 4 1]);rw[<-hS4];have gN:Gr S3 (S3.new fun t=> .cells t [.int .i64 (JB nms d (kidS r 0)).kind,ofL (JB nms d (kidS r 0)).name,cnv,ckv]):=Gr.new g3.wf (Ja _);have g13:Gr st S3:=g1.trans (g2.trans g3);have g4:Gr st S4:=by rw[hS4];exact(g13.trans gN).wr nbt (Jc (gN.cells rt3)) (by rw[gN.cells rt3];rfl) (Ja _)
   have qt:up 0 m3≠bt:=fun e=>by have:=nx0 g3.wf hm3 0;rw[e,rt3]at this;cases this
   have rq:S4.row (up 0 m3)= .cells S3.t [.int .i64 (JB nms d (kidS r 0)).kind,ofL (JB nms d (kidS r 0)).name,cnv,ckv]:=by rw[hS4,Jl _ _ _ qt,<-hm3];exact JG _ _
   have rb4:S4.row b2= .cells t2 [.int .i64 0,ofL [], .snil, .snil]:=by rw[hS4,Jl _ _ _ b2t];exact gN.cells (g3.cells (g2.cells r2))
   have rt4:∃t,S4.row bt= .cells t [.int .i64 5,ofL [], .snil, .slx (up 0 m3) 0 1 4 1]:=⟨_,by rw[hS4];exact Jm _ _ _ _⟩
   obtain⟨t4,rt4⟩:=rt4;have q1:S1.row (up 0 m3)= .none:=Ch.fresh (Ch.of (fun _=>False) (g2.trans g3)) (nx0 g3.wf hm3 0);have hce4:TyC (fun r=>S1.row r= .none) S4 [.int .i64 (JB nms d (kidS r 0)).kind,ofL (JB nms d (kidS r 0)).name,cnv,ckv] (JB nms d (kidS r 0)):=hce.imp fun r p e=>⟨Ch.fresh (Ch.of (fun _=>False) g2) p,by
    rw[hS4,Jl _ _ _ fun k=>by rw[k,g2.cells rt]at p;cases p];exact gN.same r e⟩
   have hall:TyC (fun r=>S1.row r= .none) S4 [.int .i64 5,ofL [], .snil, .slx (up 0 m3) 0 1 4 1] (.mk 5 [] [] [JB nms d (kidS r 0)]):=
    .mk (es:=[[.int .i64 (JB nms d (kidS r 0)).kind,ofL (JB nms d (kidS r 0)).name,cnv,ckv]]) (SlAt.nil _ _ _) ⟨fun e he=>by rw[List.mem_singleton.1 he];rfl, .inr ⟨up 0 m3,0,q1, .inr ⟨1,Nat.le_refl 1,rfl⟩,_, .inl ⟨_,rq⟩,by simp,by simp⟩⟩ rfl fun i h h'=>by
     have:i=0:=by simp at h;omega
     subst this;exact hce4
   clear hS4;exact(hJ _ _).2 ⟨_,_,_,by rw[JB];simp only[<-hkk];rfl,f6,rfl,g4,rt4,rb4,hall⟩
  ·have hd0':=hd0 (by decide) (by decide);simp only[XZ,simprocAttr,f1,f2,f3,f7,r1,c1,s1,c2,s2];refine Jd (kidC g1.wf (hr.gr g1) 0 (by decide)) ?_;rintro _ S2 ⟨g2,ke,rfl,hke⟩;simp only[XZ,simprocAttr,f1,f2,hsubd];refine Jd (ih hd0' g2.wf hke (hn.gr (g1.trans g2))) ?_;rintro _ S3 ⟨g3,ce,rfl,hce⟩;obtain⟨cnv,ckv,ces,rfl,y1,y3,y4,y5⟩:=hce.inv;have d1:=y1.cells;have d2:=y1.sc;have d3:=y3.cells;have d4:=y3.sc;have rt3:=g3.cells (g2.cells rt);obtain⟨m3,hm3⟩:=nxE S3;have ot:=fun j=>nes (Jz g3.wf hm3 (Jc rt3) j);simp only[XZ,simprocAttr,f7,hm3,ot,rt3,d1,d2,d3,d4];obtain⟨S4,hS4⟩:=exE ((S3.new fun t=> .cells t [.int .i64 (JB nms d (kidS r 0)).kind,ofL (JB nms d (kidS r 0)).name,cnv,ckv]).wr bt S0.t.succ fun u=> .cells u [.int .i64 6,ofL [], .snil, .slx (up 0 m3) 0 1 4 1]);rw[<-hS4];have gN:Gr S3 (S3.new fun t=> .cells t [.int .i64 (JB nms d (kidS r 0)).kind,ofL (JB nms d (kidS r 0)).name,cnv,ckv]):=Gr.new g3.wf (Ja _);have g13:Gr st S3:=g1.trans (g2.trans g3);have g4:Gr st S4:=by rw[hS4];exact(g13.trans gN).wr nbt (Jc (gN.cells rt3)) (by rw[gN.cells rt3];rfl) (Ja _)
   have qt:up 0 m3≠bt:=fun e=>by have:=nx0 g3.wf hm3 0;rw[e,rt3]at this;cases this
   have rq:S4.row (up 0 m3)= .cells S3.t [.int .i64 (JB nms d (kidS r 0)).kind,ofL (JB nms d (kidS r 0)).name,cnv,ckv]:=by rw[hS4,Jl _ _ _ qt,<-hm3];exact JG _ _
   have rb4:S4.row b2= .cells t2 [.int .i64 0,ofL [], .snil, .snil]:=by rw[hS4,Jl _ _ _ b2t];exact gN.cells (g3.cells (g2.cells r2))
   have rt4:∃t,S4.row bt= .cells t [.int .i64 6,ofL [], .snil, .slx (up 0 m3) 0 1 4 1]:=⟨_,by rw[hS4];exact Jm _ _ _ _⟩
   obtain⟨t4,rt4⟩:=rt4;have q1:S1.row (up 0 m3)= .none:=Ch.fresh (Ch.of (fun _=>False) (g2.trans g3)) (nx0 g3.wf hm3 0);have hce4:TyC (fun r=>S1.row r= .none) S4 [.int .i64 (JB nms d (kidS r 0)).kind,ofL (JB nms d (kidS r 0)).name,cnv,ckv] (JB nms d (kidS r 0)):=hce.imp fun r p e=>⟨Ch.fresh (Ch.of (fun _=>False) g2) p,by
    rw[hS4,Jl _ _ _ fun k=>by rw[k,g2.cells rt]at p;cases p];exact gN.same r e⟩
   have hall:TyC (fun r=>S1.row r= .none) S4 [.int .i64 6,ofL [], .snil, .slx (up 0 m3) 0 1 4 1] (.mk 6 [] [] [JB nms d (kidS r 0)]):=
    .mk (es:=[[.int .i64 (JB nms d (kidS r 0)).kind,ofL (JB nms d (kidS r 0)).name,cnv,ckv]]) (SlAt.nil _ _ _) ⟨fun e he=>by rw[List.mem_singleton.1 he];rfl, .inr ⟨up 0 m3,0,q1, .inr ⟨1,Nat.le_refl 1,rfl⟩,_, .inl ⟨_,rq⟩,by simp,by simp⟩⟩ rfl fun i h h'=>by
     have:i=0:=by simp at h;omega
     subst this;exact hce4
   clear hS4
   first|refine⟨by decide, ?_⟩|skip
   have htree:JB nms (d+1) r=if(6:Int)=6/\(JB nms d (kidS r 0)).kind=6 then JB nms d (kidS r 0)else .mk 6 [] [] [JB nms d (kidS r 0)]:=by rw[JB];simp only[<-hkk];rfl
   by_cases h6:(JB nms d (kidS r 0)).kind=6
   ·rw[if_pos ⟨rfl,h6⟩]at htree;have hdec:decide ((JB nms d (kidS r 0)).kind=6)=true:=decide_eq_true h6;rw[hdec];simp only[XZ,simprocAttr,f6,rt4,rq,rb4,d1,d2,d3,d4]
    first|refine⟨by decide,g4.wr nb2 (Jc rb4) (by first|(rw[rb4];done)|(rw[rb4];rfl)) (Ja _),_,rfl, ?_⟩|refine⟨g4.wr nb2 (Jc rb4) (by first|(rw[rb4];done)|(rw[rb4];rfl)) (Ja _),_,rfl, ?_⟩
    rw[htree];exact hce4.imp fun r p _=>⟨st1 r p,Jl _ _ _ fun e=>by rw[e]at p;rw[p]at r2;cases r2⟩
   ·rw[if_neg fun e=>h6 e.2]at htree;have hdec:decide ((JB nms d (kidS r 0)).kind=6)=false:=decide_eq_false h6;rw[hdec];simp only[XZ,simprocAttr];exact(hJ _ _).2 ⟨_,_,_,htree,f6,rfl,g4,rt4,rb4,hall⟩
  ·have hd0':=hd0 (by decide) (by decide);have lenR:=h1.len;rw[Qe]at lenR;obtain⟨cnt,hcnt⟩:∃c,c=JjD 7 r:=⟨_,rfl⟩
   have hcv:cnt=max (min r.names.length 4) 0:=by rw[hcnt];rfl
   obtain⟨Ti,hTi⟩:∃Ti:Nat->Ty,Ti=fun i=>(List.range i).foldl (fun t i=>putS t (nameAt r i) (JB nms d (kidS r i))) (.mk 7 [] [] []):=⟨_,rfl⟩
   have hT0:Ti 0= .mk 7 [] [] []:=by rw[hTi];rfl
   have hTs:∀i,Ti (i+1)=putS (Ti i) (nameAt r i) (JB nms d (kidS r i)):=fun i=>by rw[hTi];simp only[List.range_succ,List.foldl_append];rfl
   have hTl:∀i,(Ti i).kids.length=(Ti i).names.length/\(Ti i).names.length<=i:=fun i=>by
    induction i with
    |zero=>rw[hT0];exact⟨rfl,Nat.le_refl _⟩
    |succ i ihi=>rw[hTs];exact Ji5 ihi.1 ihi.2
   have htree:JB nms (d+1) r=Ti cnt:=by rw[JB,hTi,hcnt];simp only[<-hkk];rfl
   obtain⟨L,hL⟩:=loE fun j fr S=>∃(i:Nat) (te:List V) (t:Nat),j+i=cnt/\B fr/\fr 8= .ptr bt 0/\fr 9= .int .i64 i/\Gr st S/\(∀r,S.row r= .none->S1.row r= .none)/\S.row b= .cells st.t [.int .i64 r.kind, .int .i64 r.n,rnv,rkv]/\S.row b2= .cells t2 [.int .i64 0,ofL [], .snil, .snil]/\S.row bt= .cells t te/\TyC (fun r=>S1.row r= .none) S te (Ti i);simp only[XZ,simprocAttr,f7];refine Jn L cnt (by omega) ((hL _ _ _).2 ⟨0,_,_,by omega,(hB _).2 (by simp only[XZ,simprocAttr,f1,f2,f3,f6,f7,and_self]),rfl,by simp only[XZ,simprocAttr]<;>rfl,g1,fun r h=>h,r1,r2,rt,by rw[hT0];exact flat _ _ _ _⟩) ?_;clear f1 f2 f3 f6 f7 hBf;intro j fr S hLj;obtain⟨i,te,t,hj,hBf,f8,f9,hg,hfresh,q1,q2,q3,hte⟩:=(hL _ _ _).1 hLj;obtain⟨f1,f2,f3,f6,f7⟩:=(hB _).1 hBf;have hadd1:IntKind.i64.wrap ((i:Int)+1)=((i+1:Nat):Int):=by rw[Jo (by omega) (by omega)];rfl
   have done:∀{fr:Fr},i=cnt->fr 6= .ptr b2 0->fr 8= .ptr bt 0->J fr S:=fun e a c=>(hJ _ _).2 ⟨Ti cnt,te,t,htree,a,c,hg,q3,q2,by rw[<-e];exact hte⟩;have hte0:=hte;obtain⟨tnv,tkv,tes,rfl,y1,y3,y4,y5⟩:=hte.inv;have d1:=y1.cells;have d2:=y1.sc;have d3:=y3.cells;have d4:=y3.sc;by_cases hA:i<r.names.length
   ·have hA':(i:Int)<r.names.length:=by omega
    by_cases h4i:i<4
    ·have h4':(i:Int)<4:=by omega
     obtain⟨zq,zo,z1,z2,z3,z4,z5⟩:=(h1.gr hg).elem (i:=i) (by rw[Qe];exact hA);have zl:(qc r.names)[i]'(by rw[Qe];exact hA)=[.int .i64 r.names[i]]:=by simp[qc]
     have z6:ld1 (S.row zq) zo=some (.int .i64 r.names[i], .no):=by
      have:=z5 0 (by rw[zl];simp);simp only[zl]at this;exact this
     simp only[XZ,simprocAttr,f1,f2,f3,f6,f7,f8,f9,q1,lenR,hA',h4',z1,z6];refine Jd (JqQ _ _ hg.wf) ?_;rintro _ S2 ⟨g2,rfl⟩;have hnm:JcU r.names[i]=nameAt r i:=by unfold nameAt;rw[List.getElem?_eq_getElem hA]
     rw[hnm];have q1':=q1;have q2':=q2;have q3':=q3;have q1:=g2.cells q1;have q2:=g2.cells q2;have q3:=g2.cells q3;simp only[XZ,simprocAttr,f1,f2,f3,f6,f7,f8,f9,q1,q3,c1,s1,c2,s2,d1,d2,d3,d4];refine Ji (kidC (JD g2.wf S2.t) (((hr.gr hg).gr g2).imp fun r p _=>⟨p,rfl⟩) i (by omega)) ?_;rintro _ S3 g3 ⟨ke,rfl,hke⟩;simp only[XZ,simprocAttr,f1,f2,f3,f6,f7,f8,f9,hsubd];refine Ji (ih hd0' (JD g3.wf S3.t) (hke.imp fun r p _=>⟨p,rfl⟩) ((((hn.gr hg).gr g2).gr g3).imp fun r p _=>⟨p,rfl⟩)) ?_;rintro _ S4 g4 ⟨ce,rfl,hce⟩;simp only[XZ,simprocAttr,f1,f2,f3,f6,f7,f8,f9];have gA:Gr S S4:=g2.trans (g3.trans g4);have fr4:∀r,S4.row r= .none->S1.row r= .none:=fun r h=>hfresh r (Ch.fresh (Ch.of (fun _=>False) gA) h);have fr3:∀r,S3.row r= .none->S1.row r= .none:=fun r h=>hfresh r (Ch.fresh (Ch.of (fun _=>False) (g2.trans g3)) h);refine Ji (putC (P:=fun r=>S1.row r= .none) (t:=Ti i) (x:=JB nms d (kidS r i)) (nameAt r i) (JD g4.wf S4.t) ((hte0.gr gA).imp fun r p _=>⟨p,rfl⟩) (hce.imp fun r p _=>⟨fr3 r p,rfl⟩) (by have:=(hTl i).2;omega) (hTl i).1 fr4) ?_;rintro _ S5 g5 ⟨e5,rfl,he5⟩;have he5':TyC (fun r=>S1.row r= .none) S5 e5 (Ti (i+1)):=by rw[hTs];exact he5.imp fun r p _=>⟨p,rfl⟩
     have he6:=he5';obtain⟨xnv,xkv,xes,rfl,x1,x3,x4,x5⟩:=he5'.inv;have m1:=x1.cells;have m2:=x1.sc;have m3:=x3.cells;have m4:=x3.sc;have gB:Gr S S5:=gA.trans g5;have q1:=gB.cells q1';have q2:=gB.cells q2';have q3:=gB.cells q3';simp only[XZ,simprocAttr,f1,f2,f3,f6,f7,f8,f9,q3,m1,m2,m3,m4,hadd1,Jj];have bne:b≠bt:=bbt;have g6:=(hg.trans gB).wr (f:=fun u=> .cells u [.int .i64 (Ti (i+1)).kind,ofL (Ti (i+1)).name,xnv,xkv]) nbt (Jc q3) (by first|(rw[q3];done)|(rw[q3];rfl)) (Ja _);refine⟨cnt-(i+1),by omega,(hL _ _ _).2 ⟨i+1,_,_,by omega,(hB _).2 (by simp only[XZ,simprocAttr,f1,f2,f3,f6,f7,and_self]),f8,rfl,g6,fun r h=> ?_,by rw[Jl _ _ _ bne];exact q1,by rw[Jl _ _ _ b2t];exact q2,Jm _ _ _ _,he6.imp fun r p _=>⟨p,Jl _ _ _ fun e=>by rw[e]at p;rw[p]at rt;cases rt⟩⟩⟩;refine hfresh r (Ch.fresh (Ch.of (fun _=>False) gB) ?_);by_cases e:r=bt
     ·rw[e,Jm]at h;cases h
     ·rwa [Jl _ _ _ e]at h
    ·have h4':¬(i:Int)<4:=by omega
     have hi0:¬(i:Int)=0:=by omega
     simp only[XZ,simprocAttr,f1,f2,f3,f6,f7,f8,f9,q1,lenR,hA',h4',hi0];exact done (by omega) f6 f8
   ·have hA':¬(i:Int)<r.names.length:=by omega
    by_cases hi0:i=0
    ·have hi0':((i:Int)=0)=True:=eq_true (by omega);by_cases hone:0=1
     ·first
      |exact absurd hone (by decide)
      | simp only[XZ,simprocAttr,f1,f2,f3,f6,f7,f8,f9,q1,q3,lenR,hA',hi0',c1,s1,c2,s2,d1,d2,d3,d4]
        have g2:Gr S S:=Gr.refl hg.wf;have hnm:([117]:Str)=nameAt r i:=by unfold nameAt;rw[List.getElem?_eq_none (by omega)]
        rw[hnm];have q1':=q1;have q2':=q2;have q3':=q3;refine Ji (kidC (JD g2.wf S.t) (((hr.gr hg).gr g2).imp fun r p _=>⟨p,rfl⟩) i (by omega)) ?_;rintro _ S3 g3 ⟨ke,rfl,hke⟩;simp only[XZ,simprocAttr,f1,f2,f3,f6,f7,f8,f9,hsubd];refine Ji (ih hd0' (JD g3.wf S3.t) (hke.imp fun r p _=>⟨p,rfl⟩) ((((hn.gr hg).gr g2).gr g3).imp fun r p _=>⟨p,rfl⟩)) ?_;rintro _ S4 g4 ⟨ce,rfl,hce⟩;simp only[XZ,simprocAttr,f1,f2,f3,f6,f7,f8,f9];have gA:Gr S S4:=g2.trans (g3.trans g4);have fr4:∀r,S4.row r= .none->S1.row r= .none:=fun r h=>hfresh r (Ch.fresh (Ch.of (fun _=>False) gA) h);have fr3:∀r,S3.row r= .none->S1.row r= .none:=fun r h=>hfresh r (Ch.fresh (Ch.of (fun _=>False) (g2.trans g3)) h);refine Ji (putC (P:=fun r=>S1.row r= .none) (t:=Ti i) (x:=JB nms d (kidS r i)) (nameAt r i) (JD g4.wf S4.t) ((hte0.gr gA).imp fun r p _=>⟨p,rfl⟩) (hce.imp fun r p _=>⟨fr3 r p,rfl⟩) (by have:=(hTl i).2;omega) (hTl i).1 fr4) ?_;rintro _ S5 g5 ⟨e5,rfl,he5⟩;have he5':TyC (fun r=>S1.row r= .none) S5 e5 (Ti (i+1)):=by rw[hTs];exact he5.imp fun r p _=>⟨p,rfl⟩
        have he6:=he5';obtain⟨xnv,xkv,xes,rfl,x1,x3,x4,x5⟩:=he5'.inv;have m1:=x1.cells;have m2:=x1.sc;have m3:=x3.cells;have m4:=x3.sc;have gB:Gr S S5:=gA.trans g5;have q1:=gB.cells q1';have q2:=gB.cells q2';have q3:=gB.cells q3';simp only[XZ,simprocAttr,f1,f2,f3,f6,f7,f8,f9,q3,m1,m2,m3,m4,hadd1,Jj];have bne:b≠bt:=bbt;have g6:=(hg.trans gB).wr (f:=fun u=> .cells u [.int .i64 (Ti (i+1)).kind,ofL (Ti (i+1)).name,xnv,xkv]) nbt (Jc q3) (by first|(rw[q3];done)|(rw[q3];rfl)) (Ja _);refine⟨cnt-(i+1),by omega,(hL _ _ _).2 ⟨i+1,_,_,by omega,(hB _).2 (by simp only[XZ,simprocAttr,f1,f2,f3,f6,f7,and_self]),f8,rfl,g6,fun r h=> ?_,by rw[Jl _ _ _ bne];exact q1,by rw[Jl _ _ _ b2t];exact q2,Jm _ _ _ _,he6.imp fun r p _=>⟨p,Jl _ _ _ fun e=>by rw[e]at p;rw[p]at rt;cases rt⟩⟩⟩;refine hfresh r (Ch.fresh (Ch.of (fun _=>False) gB) ?_);by_cases e:r=bt
        ·rw[e,Jm]at h;cases h
        ·rwa [Jl _ _ _ e]at h
     ·first
      |exact absurd rfl hone
      | simp only[XZ,simprocAttr,f1,f2,f3,f6,f7,f8,f9,q1,lenR,hA',hi0']
        exact done (by omega) f6 f8
    ·have hi0':¬(i:Int)=0:=by omega
     simp only[XZ,simprocAttr,f1,f2,f3,f6,f7,f8,f9,q1,lenR,hA',hi0'];exact done (by omega) f6 f8
  ·have hd0':=hd0 (by decide) (by decide);have lenR:=h1.len;rw[Qe]at lenR;obtain⟨cnt,hcnt⟩:∃c,c=JjD 8 r:=⟨_,rfl⟩
   have hcv:cnt=max (min r.names.length 4) 1:=by rw[hcnt];rfl
   obtain⟨Ti,hTi⟩:∃Ti:Nat->Ty,Ti=fun i=>(List.range i).foldl (fun t i=>putS t (nameAt r i) (JB nms d (kidS r i))) (.mk 8 [] [] []):=⟨_,rfl⟩
   have hT0:Ti 0= .mk 8 [] [] []:=by rw[hTi];rfl
   have hTs:∀i,Ti (i+1)=putS (Ti i) (nameAt r i) (JB nms d (kidS r i)):=fun i=>by rw[hTi];simp only[List.range_succ,List.foldl_append];rfl
   have hTl:∀i,(Ti i).kids.length=(Ti i).names.length/\(Ti i).names.length<=i:=fun i=>by
    induction i with
    |zero=>rw[hT0];exact⟨rfl,Nat.le_refl _⟩
    |succ i ihi=>rw[hTs];exact Ji5 ihi.1 ihi.2
   have htree:JB nms (d+1) r=Ti cnt:=by rw[JB,hTi,hcnt];simp only[<-hkk];rfl
   obtain⟨L,hL⟩:=loE fun j fr S=>∃(i:Nat) (te:List V) (t:Nat),j+i=cnt/\B fr/\fr 8= .ptr bt 0/\fr 9= .int .i64 i/\Gr st S/\(∀r,S.row r= .none->S1.row r= .none)/\S.row b= .cells st.t [.int .i64 r.kind, .int .i64 r.n,rnv,rkv]/\S.row b2= .cells t2 [.int .i64 0,ofL [], .snil, .snil]/\S.row bt= .cells t te/\TyC (fun r=>S1.row r= .none) S te (Ti i);simp only[XZ,simprocAttr,f7];refine Jn L cnt (by omega) ((hL _ _ _).2 ⟨0,_,_,by omega,(hB _).2 (by simp only[XZ,simprocAttr,f1,f2,f3,f6,f7,and_self]),rfl,by simp only[XZ,simprocAttr]<;>rfl,g1,fun r h=>h,r1,r2,rt,by rw[hT0];exact flat _ _ _ _⟩) ?_;clear f1 f2 f3 f6 f7 hBf;intro j fr S hLj;obtain⟨i,te,t,hj,hBf,f8,f9,hg,hfresh,q1,q2,q3,hte⟩:=(hL _ _ _).1 hLj;obtain⟨f1,f2,f3,f6,f7⟩:=(hB _).1 hBf;have hadd1:IntKind.i64.wrap ((i:Int)+1)=((i+1:Nat):Int):=by rw[Jo (by omega) (by omega)];rfl
   have done:∀{fr:Fr},i=cnt->fr 6= .ptr b2 0->fr 8= .ptr bt 0->J fr S:=fun e a c=>(hJ _ _).2 ⟨Ti cnt,te,t,htree,a,c,hg,q3,q2,by rw[<-e];exact hte⟩;have hte0:=hte;obtain⟨tnv,tkv,tes,rfl,y1,y3,y4,y5⟩:=hte.inv;have d1:=y1.cells;have d2:=y1.sc;have d3:=y3.cells;have d4:=y3.sc;by_cases hA:i<r.names.length
   ·have hA':(i:Int)<r.names.length:=by omega
    by_cases h4i:i<4
    ·have h4':(i:Int)<4:=by omega
     obtain⟨zq,zo,z1,z2,z3,z4,z5⟩:=(h1.gr hg).elem (i:=i) (by rw[Qe];exact hA);have zl:(qc r.names)[i]'(by rw[Qe];exact hA)=[.int .i64 r.names[i]]:=by simp[qc]
     have z6:ld1 (S.row zq) zo=some (.int .i64 r.names[i], .no):=by
      have:=z5 0 (by rw[zl];simp);simp only[zl]at this;exact this
     simp only[XZ,simprocAttr,f1,f2,f3,f6,f7,f8,f9,q1,lenR,hA',h4',z1,z6];refine Jd (JqQ _ _ hg.wf) ?_;rintro _ S2 ⟨g2,rfl⟩;have hnm:JcU r.names[i]=nameAt r i:=by unfold nameAt;rw[List.getElem?_eq_getElem hA]
     rw[hnm];have q1':=q1;have q2':=q2;have q3':=q3;have q1:=g2.cells q1;have q2:=g2.cells q2;have q3:=g2.cells q3;simp only[XZ,simprocAttr,f1,f2,f3,f6,f7,f8,f9,q1,q3,c1,s1,c2,s2,d1,d2,d3,d4];refine Ji (kidC (JD g2.wf S2.t) (((hr.gr hg).gr g2).imp fun r p _=>⟨p,rfl⟩) i (by omega)) ?_;rintro _ S3 g3 ⟨ke,rfl,hke⟩;simp only[XZ,simprocAttr,f1,f2,f3,f6,f7,f8,f9,hsubd];refine Ji (ih hd0' (JD g3.wf S3.t) (hke.imp fun r p _=>⟨p,rfl⟩) ((((hn.gr hg).gr g2).gr g3).imp fun r p _=>⟨p,rfl⟩)) ?_;rintro _ S4 g4 ⟨ce,rfl,hce⟩;simp only[XZ,simprocAttr,f1,f2,f3,f6,f7,f8,f9];have gA:Gr S S4:=g2.trans (g3.trans g4);have fr4:∀r,S4.row r= .none->S1.row r= .none:=fun r h=>hfresh r (Ch.fresh (Ch.of (fun _=>False) gA) h);have fr3:∀r,S3.row r= .none->S1.row r= .none:=fun r h=>hfresh r (Ch.fresh (Ch.of (fun _=>False) (g2.trans g3)) h);refine Ji (putC (P:=fun r=>S1.row r= .none) (t:=Ti i) (x:=JB nms d (kidS r i)) (nameAt r i) (JD g4.wf S4.t) ((hte0.gr gA).imp fun r p _=>⟨p,rfl⟩) (hce.imp fun r p _=>⟨fr3 r p,rfl⟩) (by have:=(hTl i).2;omega) (hTl i).1 fr4) ?_;rintro _ S5 g5 ⟨e5,rfl,he5⟩;have he5':TyC (fun r=>S1.row r= .none) S5 e5 (Ti (i+1)):=by rw[hTs];exact he5.imp fun r p _=>⟨p,rfl⟩
     have he6:=he5';obtain⟨xnv,xkv,xes,rfl,x1,x3,x4,x5⟩:=he5'.inv;have m1:=x1.cells;have m2:=x1.sc;have m3:=x3.cells;have m4:=x3.sc;have gB:Gr S S5:=gA.trans g5;have q1:=gB.cells q1';have q2:=gB.cells q2';have q3:=gB.cells q3';simp only[XZ,simprocAttr,f1,f2,f3,f6,f7,f8,f9,q3,m1,m2,m3,m4,hadd1,Jj];have bne:b≠bt:=bbt;have g6:=(hg.trans gB).wr (f:=fun u=> .cells u [.int .i64 (Ti (i+1)).kind,ofL (Ti (i+1)).name,xnv,xkv]) nbt (Jc q3) (by first|(rw[q3];done)|(rw[q3];rfl)) (Ja _);refine⟨cnt-(i+1),by omega,(hL _ _ _).2 ⟨i+1,_,_,by omega,(hB _).2 (by simp only[XZ,simprocAttr,f1,f2,f3,f6,f7,and_self]),f8,rfl,g6,fun r h=> ?_,by rw[Jl _ _ _ bne];exact q1,by rw[Jl _ _ _ b2t];exact q2,Jm _ _ _ _,he6.imp fun r p _=>⟨p,Jl _ _ _ fun e=>by rw[e]at p;rw[p]at rt;cases rt⟩⟩⟩;refine hfresh r (Ch.fresh (Ch.of (fun _=>False) gB) ?_);by_cases e:r=bt
     ·rw[e,Jm]at h;cases h
     ·rwa [Jl _ _ _ e]at h
    ·have h4':¬(i:Int)<4:=by omega
     have hi0:¬(i:Int)=0:=by omega
     simp only[XZ,simprocAttr,f1,f2,f3,f6,f7,f8,f9,q1,lenR,hA',h4',hi0];exact done (by omega) f6 f8
   ·have hA':¬(i:Int)<r.names.length:=by omega
    by_cases hi0:i=0
    ·have hi0':((i:Int)=0)=True:=eq_true (by omega);by_cases hone:1=1
     ·first
      |exact absurd hone (by decide)
      | simp only[XZ,simprocAttr,f1,f2,f3,f6,f7,f8,f9,q1,q3,lenR,hA',hi0',c1,s1,c2,s2,d1,d2,d3,d4]
        have g2:Gr S S:=Gr.refl hg.wf;have hnm:([117]:Str)=nameAt r i:=by unfold nameAt;rw[List.getElem?_eq_none (by omega)]
        rw[hnm];have q1':=q1;have q2':=q2;have q3':=q3;refine Ji (kidC (JD g2.wf S.t) (((hr.gr hg).gr g2).imp fun r p _=>⟨p,rfl⟩) i (by omega)) ?_;rintro _ S3 g3 ⟨ke,rfl,hke⟩;simp only[XZ,simprocAttr,f1,f2,f3,f6,f7,f8,f9,hsubd];refine Ji (ih hd0' (JD g3.wf S3.t) (hke.imp fun r p _=>⟨p,rfl⟩) ((((hn.gr hg).gr g2).gr g3).imp fun r p _=>⟨p,rfl⟩)) ?_;rintro _ S4 g4 ⟨ce,rfl,hce⟩;simp only[XZ,simprocAttr,f1,f2,f3,f6,f7,f8,f9];have gA:Gr S S4:=g2.trans (g3.trans g4);have fr4:∀r,S4.row r= .none->S1.row r= .none:=fun r h=>hfresh r (Ch.fresh (Ch.of (fun _=>False) gA) h);have fr3:∀r,S3.row r= .none->S1.row r= .none:=fun r h=>hfresh r (Ch.fresh (Ch.of (fun _=>False) (g2.trans g3)) h);refine Ji (putC (P:=fun r=>S1.row r= .none) (t:=Ti i) (x:=JB nms d (kidS r i)) (nameAt r i) (JD g4.wf S4.t) ((hte0.gr gA).imp fun r p _=>⟨p,rfl⟩) (hce.imp fun r p _=>⟨fr3 r p,rfl⟩) (by have:=(hTl i).2;omega) (hTl i).1 fr4) ?_;rintro _ S5 g5 ⟨e5,rfl,he5⟩;have he5':TyC (fun r=>S1.row r= .none) S5 e5 (Ti (i+1)):=by rw[hTs];exact he5.imp fun r p _=>⟨p,rfl⟩
        have he6:=he5';obtain⟨xnv,xkv,xes,rfl,x1,x3,x4,x5⟩:=he5'.inv;have m1:=x1.cells;have m2:=x1.sc;have m3:=x3.cells;have m4:=x3.sc;have gB:Gr S S5:=gA.trans g5;have q1:=gB.cells q1';have q2:=gB.cells q2';have q3:=gB.cells q3';simp only[XZ,simprocAttr,f1,f2,f3,f6,f7,f8,f9,q3,m1,m2,m3,m4,hadd1,Jj];have bne:b≠bt:=bbt;have g6:=(hg.trans gB).wr (f:=fun u=> .cells u [.int .i64 (Ti (i+1)).kind,ofL (Ti (i+1)).name,xnv,xkv]) nbt (Jc q3) (by first|(rw[q3];done)|(rw[q3];rfl)) (Ja _);refine⟨cnt-(i+1),by omega,(hL _ _ _).2 ⟨i+1,_,_,by omega,(hB _).2 (by simp only[XZ,simprocAttr,f1,f2,f3,f6,f7,and_self]),f8,rfl,g6,fun r h=> ?_,by rw[Jl _ _ _ bne];exact q1,by rw[Jl _ _ _ b2t];exact q2,Jm _ _ _ _,he6.imp fun r p _=>⟨p,Jl _ _ _ fun e=>by rw[e]at p;rw[p]at rt;cases rt⟩⟩⟩;refine hfresh r (Ch.fresh (Ch.of (fun _=>False) gB) ?_);by_cases e:r=bt
        ·rw[e,Jm]at h;cases h
        ·rwa [Jl _ _ _ e]at h
     ·first
      |exact absurd rfl hone
      | simp only[XZ,simprocAttr,f1,f2,f3,f6,f7,f8,f9,q1,lenR,hA',hi0']
        exact done (by omega) f6 f8
    ·have hi0':¬(i:Int)=0:=by omega
     simp only[XZ,simprocAttr,f1,f2,f3,f6,f7,f8,f9,q1,lenR,hA',hi0'];exact done (by omega) f6 f8
  ·have hne:nms≠[]:=fun e=>by
    rw[hkd]at hkk;by_cases c:(K=9/\nms=[])\/(d+1<=1/\4<=K/\K<=8)
    ·rw[if_pos c]at hkd;cases hkd
    ·rw[if_neg c]at hkd;exact c (.inl ⟨hkd.symm,e⟩)
   have hpos:=List.length_pos_iff.2 hne;simp only[XZ,simprocAttr,f1,f2,f3,f7,r1,lenN];refine Jd (JeU r.n nms.length _ (by omega) (by omega)) ?_;rintro _ _ ⟨rfl,rfl⟩;have q1:=Int.emod_nonneg r.n (show((nms.length:Nat):Int)≠0 by omega);have q2:=Int.emod_lt_of_pos r.n (show(0:Int)<((nms.length:Nat):Int) by omega);obtain⟨i,hi⟩:∃i:Nat,r.n%nms.length=i:=⟨(r.n%nms.length).toNat,by omega⟩
   rw[hi]at q1 q2;have hil:i<nms.length:=by omega
   obtain⟨q,o,a1,a2,a3,a4,a5⟩:=(hn.gr g1).elem (i:=i) (by rw[JW];exact hil);have el:(strs nms)[i]'(by rw[JW];exact hil)=[ofL nms[i]]:=by simp[strs]
   have a6:ld1 (S1.row q) o=some (ofL nms[i], .no):=by
    have:=a5 0 (by rw[el];simp);simp only[el]at this;exact this
   rw[hi];simp only[XZ,simprocAttr,f2,a1,a6,rt];refine(hJ _ _).2 ⟨_,_,_, ?_,f6,rfl,g1.wr nbt (Jc rt) (by rw[rt];rfl) (Ja _),Jm _ _ _ _,by rw[Jl _ _ _ b2t];exact r2,flat _ _ _ _⟩;rw[JB];simp only[<-hkk,if_true];rw[hi];simp[List.getD_eq_getElem?_getD,hil]
 intro fr S hJf;obtain⟨T,te,t,hT,f6,f8,gS,rS,rS2,hTy⟩:=(hJ _ _).1 hJf;have hTy2:=hTy;obtain⟨nv',kv',es',rfl,t1,t3,t4,t5⟩:=hTy.inv;have c3:=t1.cells;have s3:=t1.sc;have c4:=t3.cells;have s4:=t3.sc;rw[Jb];simp only[XZ,simprocAttr,f6,f8,rS,rS2,c3,s3,c4,s4];have gw:=gS.wr (f:=fun u=> .cells u [.int .i64 T.kind,ofL T.name,nv',kv']) nb2 (Jc rS2) (by first|(rw[rS2];done)|(rw[rS2];rfl)) (Ja _);refine⟨gw,_,rfl, ?_⟩;rw[hT];exact hTy2.imp fun r p _=>⟨st1 r p,Jl _ _ _ fun e=>by rw[e]at p;rw[p]at r2;cases r2⟩
theorem JlA (nms:List Str)(hnm:nms.length<1000):∀d:Nat,d<1000->JcB nms (d+1)
 |0,h=>Ji6 nms hnm 0 h fun e=>absurd rfl e
 |d+1,h=>Ji6 nms hnm (d+1) h fun _=>JlA nms hnm d (by omega)
end Go.Proofs.YtgmmjcgkklgeeaaGreat
