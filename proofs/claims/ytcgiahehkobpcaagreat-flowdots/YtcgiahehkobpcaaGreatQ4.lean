/- Flow's rows, of nodes that are told by themselves. Flow's nodes: a type opened; an Env  -/
import Derived.Test.YtcgiahehkobpcaaGreatQ3
set_option maxHeartbeats 4000000
set_option linter.unusedVariables false
set_option linter.unusedSimpArgs false
set_option linter.unusedSectionVars false
set_option maxRecDepth 100000
namespace Go.Proofs.YtcgiahehkobpcaaGreat
open Eva Go.RowKit
structure FX (S0 S:St) (w rt:Pt) (nv:V) (x:Int):Prop where
 wf:WF S
 hz:∀r,S0.row r≠ .none->S.row r=S0.row r
 w0:S0.row w= .none
 hw:∃u,S.row w= .cells u [.ptr rt 0,nv, .snil, .int .i64 x]
theorem FX.ch {S0 S S':St}{w rt:Pt}{nv:V}{x y:Int}(h:FX S0 S w rt nv x)(c:Ch (fun r=>r=w) S S')(k:∃u,S'.row w= .cells u [.ptr rt 0,nv, .snil, .int .i64 y]):FX S0 S' w rt nv y:=
 ⟨c.wf,fun r e=>by rw[c.same r (by rw[h.hz r e];exact e) (fun q=>e (by rw[q];exact h.w0)),h.hz r e],h.w0,k⟩
theorem FX.gr {S0 S S':St}{w rt:Pt}{nv:V}{x:Int}(h:FX S0 S w rt nv x)(g:Gr S S'):FX S0 S' w rt nv x:=h.ch (Ch.of _ g) (h.hw.imp fun u e=>g.cells e)
theorem FX.low {S0 S:St}{w rt:Pt}{nv:V}{x:Int}(h:FX S0 S w rt nv x)(y:Nat):FX S0 {S with low:=y} w rt nv x:=⟨KN h.wf y,h.hz,h.w0,h.hw⟩
def RowP (S:St)(w rt:Pt)(nv:V)(x code:Int)(v:V)(S':St):Prop:=v= .int .i64 code/\Ch (fun r=>r=w) S S'/\∃u y,S'.row w= .cells u [.ptr rt 0,nv, .snil, .int .i64 y]/\(code=0->y=x)
theorem RowP.of {S S1 S':St}{w rt:Pt}{nv v:V}{x code:Int}(g:Gr S S1)(h:RowP S1 w rt nv x code v S'):RowP S w rt nv x code v S':=⟨h.1,(Ch.of _ g).trans h.2.1 fun r w=> .inl w,h.2.2⟩
def NodeR (S0:St)(w rt:Pt)(nv:V)(id:Nat)(e:List V)(code:Int):Prop:=
 ∃(k at_:Int) (pv b el:V) (he:Bool) (cs:V),e=[.int .i64 k, .int .i64 at_,ofL [],ofL [],pv,b,el, .bool he,cs]/\(k=2\/k=6\/k=7\/k=8)/\(pv.sc=true/\b.sc=true/\el.sc=true/\cs.sc=true)/\lenLV pv=some (.int .i64 1, .no)/\
  ∃tid err:Int,(∀S x,FX S0 S w rt nv x->Does (tabT tabD) Jam [.ptr rt 0,envD id,pv] S fun v S'=>Gr S S'/\v= .tup [.int .i64 tid, .int .i64 err])/\(err≠0->code=err)/\
   (err=0->∀S x,FX S0 S w rt nv x->Does (tabT tabD) YW [.ptr w 0,envD id, .agg e, .int .i64 tid] S (RowP S w rt nv x code))
def codeL :List Int->Int
 |[]=>0
 |c::r=>if c=0 then codeL r else c
theorem scells9 {v:V}(h:v.sc=true):v.cells=some [v]:=by cases v<;>first|rfl|(cases h;done)
theorem rowL {S0 S:St}{w rt:Pt}{nv lv:V}{x:Int}{id:Nat}{es:List (List V)}{cs:List Int}(E:FX S0 S w rt nv x)(hlv:SlAt (fun _=>True) S0 lv 9 es)(hn:es.length<=2)(hc:cs.length=es.length)(h:∀i (a:i<es.length) (b:i<cs.length),NodeR S0 w rt nv id es[i] cs[i]):
  Does (tabT tabD) Jb2 [.ptr w 0,envD id,lv] S (RowP S w rt nv x (codeL cs)):=by
 refine JA Ja8 rfl ?_;have hw:=E.wf;have ll:=hlv.len;obtain⟨n0,hn0⟩:=nxE S;simp only[K0,XY,simprocAttr];rw[Jb];simp only[XY,simprocAttr,hn0];refine JM ?_;intro S2 hS2;have G2:Gr S S2:=by rw[hS2];exact Gr.new hw (Ja _)
 obtain⟨p4,hp4⟩:=exE (up 0 n0);obtain⟨t4,r4⟩:∃t,S2.row p4= .cells t [.int .i64 (id:Nat), .snil, .snil]:=⟨_,by rw[hS2,hp4];simp only[XZ,simprocAttr,hn0];rfl⟩
 have p4n:S.row p4= .none:=by rw[hp4];exact nx0 hw hn0 0
 have p4w:p4≠w:=fun e=>by
  obtain⟨u,h⟩:=E.hw;rw[<-e,p4n]at h;cases h
 rw[<-hp4];clear hS2;have E2:=E.gr G2;rw[Jl,Jb];simp only[XY,simprocAttr,ll];obtain⟨L,hL⟩:=loE fun j fr S'=>∃i:Nat,j+i=es.length/\fr 0= .ptr w 0/\fr 4= .ptr p4 0/\fr 12=lv/\fr 13= .int .i64 (es.length:Nat)/\fr 14= .int .i64 (i:Nat)/\codeL cs=codeL (cs.drop i)/\Ch (fun r=>r=w) S2 S'/\∃u,S'.row w= .cells u [.ptr rt 0,nv, .snil, .int .i64 x];refine JK L es.length (by omega) ((hL _ _ _).2 ⟨0,by omega,rfl,rfl,rfl,rfl,by simp only[XZ,simprocAttr]<;>rfl,rfl,Ch.refl _ G2.wf,E2.hw⟩) ?_;intro j fr S3 hLj;obtain⟨i,hj,f0,f4,f12,f13,f14,hrec,C3,u3,hw3⟩:=(hL _ _ _).1 hLj;have fromS:∀{S':St},Ch (fun r=>r=w) S2 S'->Ch (fun r=>r=w) S S':=fun c=>(Ch.of _ G2).trans c fun r w=> .inl w;by_cases hi:i<es.length;rotate_left
 ·have hi':¬(i:Int)<es.length:=by omega
  rw[List.drop_eq_nil_of_le (by omega)]at hrec;rw[Jb];simp only[XY,simprocAttr,f13,f14,hi'];rw[Jl];simp only[XZ,simprocAttr];exact⟨by rw[hrec];rfl,fromS C3,u3,x,hw3,fun _=>rfl⟩
 have hi':(i:Int)<es.length:=by omega
 have hic:i<cs.length:=by omega
 rw[List.drop_eq_getElem_cons hic,codeL]at hrec;have hN:=h i hi hic;obtain⟨code,hcode⟩:∃c,c=cs[i]:=⟨_,rfl⟩
 rw[<-hcode]at hN hrec;have E3:FX S0 S3 w rt nv x:=E2.ch C3 ⟨u3,hw3⟩;obtain⟨re,qe,a1,_,a3,a4,_⟩:=hlv.elem hi;have a4':ldn (S3.row re) qe 9=some (.agg es[i], .no):=by rw[E3.hz re a3];exact a4
 obtain⟨e,he⟩:∃e,e=es[i]:=⟨_,rfl⟩
 rw[<-he]at a4' hN;obtain⟨k,at_,pv,b,el,hel,cv,rfl,hk,⟨s0,s1,s2,s3⟩,lp,tid,err,hpipe,herr,hone⟩:=hN;have c0:=scells9 s0;have c1:=scells9 s1;have c2:=scells9 s2;have c3:=scells9 s3;have r43:S3.row p4= .cells t4 [.int .i64 (id:Nat), .snil, .snil]:=(C3.same p4 (Jd r4) p4w).trans r4;obtain⟨n2,hn2⟩:=nxE S3;have w3:=C3.wf;have hadd1:IntKind.i64.wrap ((i:Int)+1)=((i+1:Nat):Int):=by rw[Jx (by omega) (by omega)];rfl
 have hk1:¬k=1:=by omega
 have hk9:¬k=9:=by omega
 have hk3:¬k=3:=by omega
 rw[Jb];simp only[XY,simprocAttr,f13,f14,hi'];rw[Jl];simp only[XY,simprocAttr];rw[Jl];simp only[XY,simprocAttr];rw[Jb];simp only[XY,simprocAttr,f12,f14,a1,a4',hn2,s0,s1,s2,s3,c0,c1,c2,c3];refine JM ?_;intro S4 hS4;have G4:Gr S3 S4:=by rw[hS4];exact(Gr.refl w3).nw hn2 (Ja _) (Ja _)
 obtain⟨p8,hp8⟩:=exE (up 0 n2);obtain⟨t8,r8⟩:∃t,S4.row p8= .cells t [.int .i64 k, .int .i64 at_,ofL [],ofL [],pv,b,el, .bool hel,cv]:=⟨_,by rw[hS4,hp8];simp only[XZ,simprocAttr,hn2];rfl⟩
 have p8n:S3.row p8= .none:=by rw[hp8];exact nx0 w3 hn2 0
 have p8w:p8≠w:=fun e=>Jd hw3 (by rw[<-e];exact p8n);rw[<-hp8];clear hS4;have E4:=E3.gr G4;have r44:=G4.cells r43;have hw4:=G4.cells hw3;rw[Jb];simp only[XY,simprocAttr];rw[Jl,Jb];simp only[XY,simprocAttr,r8,lp,f0,f4,hw4,r44,hk1,hk9];refine JF (P:=fun v _=>v= .tup [.int .i64 tid, .int .i64 err]) (hpipe _ x (E4.low _)) ?_;rintro _ S5 G5 rfl;have E5:=E4.gr G5;have r85:=G5.cells r8;have r45:=G5.cells r44;have hw5:=G5.cells hw4;simp only[XY,simprocAttr];rw[Jb];simp only[XY,simprocAttr,f0,hw5];rw[Jb];simp only[XY,simprocAttr,f0,hw5];refine JM ?_;intro S6 hS6;have C6:Ch (fun r=>r=w) S5 S6:=by rw[hS6];exact(Ch.refl (fun r=>r=w) E5.wf).wr (Jd hw5) (by rw[hw5];rfl) (.inl rfl) (Ja _)
 obtain⟨u6,hw6⟩:∃u,S6.row w= .cells u [.ptr rt 0,nv, .snil, .int .i64 (-1)]:=⟨_,by rw[hS6,Jo,if_pos rfl]⟩
 clear hS6;have E6:FX S0 S6 w rt nv (-1):=E5.ch C6 ⟨u6,hw6⟩;have r86:S6.row p8=_:=(C6.same p8 (Jd r85) p8w).trans r85;have r46:S6.row p4=_:=(C6.same p4 (Jd r45) p4w).trans r45;have C26:Ch (fun r=>r=w) S2 S6:=((C3.gr G4).gr G5).trans C6 fun r w=> .inl w;by_cases he0:err=0;rotate_left
 ·have hce:=herr he0;have hc0:¬code=0:=by rw[hce];exact he0
  rw[if_neg hc0,hce]at hrec;have hm:(-1:Int)<0:=by omega
  rw[Jl,Jb];simp only[XY,simprocAttr,he0];rw[Jl,Jb];simp only[XY,simprocAttr,he0];rw[Jl,Jb];simp only[XY,simprocAttr,f0,hw6,r86];rw[Jb];simp only[XZ,simprocAttr];exact⟨by rw[hrec],fromS (C26.wr (Jd hw6) (by rw[hw6];rfl) (.inl rfl) (Ja _)),_,_,by rw[Jo,if_pos rfl],fun h=>absurd (hrec▸h) he0⟩
 rw[Jl,Jb];simp only[XY,simprocAttr,he0,f0,f4,r46,r86];refine Je (hone he0 S6 (-1) E6) ?_;rintro v S7 ⟨rfl,C7,u7,y7,hw7,hy⟩;have r87:S7.row p8=_:=(C7.same p8 (Jd r86) p8w).trans r86;have C27:Ch (fun r=>r=w) S2 S7:=C26.trans C7 fun r w=> .inl w;simp only[XY,simprocAttr];by_cases hc0:code=0;rotate_left
 ·rw[if_neg hc0]at hrec;by_cases hlt:y7<0
  ·rw[Jl,Jb];simp only[XY,simprocAttr,hc0];rw[Jl,Jb];simp only[XY,simprocAttr,f0,hw7,hlt,r87];rw[Jb];simp only[XZ,simprocAttr];exact⟨by rw[hrec],fromS (C27.wr (Jd hw7) (by rw[hw7];rfl) (.inl rfl) (Ja _)),_,_,by rw[Jo,if_pos rfl],fun h=>absurd (hrec▸h) hc0⟩
  ·rw[Jl,Jb];simp only[XY,simprocAttr,hc0];rw[Jl,Jb];simp only[XY,simprocAttr,f0,hw7,hlt,r87];rw[Jb];simp only[XZ,simprocAttr];exact⟨by rw[hrec],fromS C27,_,_,hw7,fun h=>absurd (hrec▸h) hc0⟩
 rw[if_pos hc0]at hrec;rw[Jl,Jb];simp only[XY,simprocAttr,hc0];rw[Jb];simp only[XY,simprocAttr,f0,hw7];have r88:(S7.wr w u7 fun u=>Row.cells u [.ptr rt 0,nv, .snil, .int .i64 x]).row p8= .cells t8 [.int .i64 k, .int .i64 at_,ofL [],ofL [],pv,b,el, .bool hel,cv]:=by rw[Jo,if_neg p8w,r87]
 rw[Jb];simp only[XZ,simprocAttr,p8w,r87,f13,f14,hadd1,hk3];exact⟨es.length-(i+1),by omega,(hL _ _ _).2 ⟨i+1,by omega,f0,f4,f12,f13,rfl,hrec,C27.wr (Jd hw7) (by rw[hw7];rfl) (.inl rfl) (Ja _),_,by rw[Jo,if_pos rfl]⟩⟩
theorem nodeF {W F:Pt->Prop}{S0 S:St}{w rt:Pt}{nv:V}{x:Int}{ws:List Nat}{id:Nat}{A:Nd}(E:FX S0 S w rt nv x)(hT0:Tab W F S0 rt (tbT ws))(hA:(chL ws)[id]? =some A)(h9:A.kind≠9):
  Does (tabT tabD) Jbc [.ptr w 0, .int .i64 (id:Nat)] S fun v S'=>Gr S S'/\∃a b,v= .agg [.int .i64 A.kind,ofL A.name,a,b]/\SlAt (fun _=>True) S' a 1 (strs A.names)/\SlAt (fun _=>True) S' b 1 (ints A.kids):=by
 refine JW tabM Jau rfl E.wf fun K fin=> ?_;have hw:=E.wf;have hid:id<(chL ws).length:=(List.getElem?_eq_some_iff.1 hA).1;have hAe:(chL ws)[id]=A:=(List.getElem?_eq_some_iff.1 hA).2;have hT:Tab W F S rt (tbT ws):=hT0.keep fun r _ e=>E.hz r e;have ho:openS (tbT ws) ((tbT ws).nodes.length+1) id=(id,true):=QX hid (by show(chL ws)[id].kind≠9;rw[hAe];exact h9);obtain⟨u,hwr⟩:=E.hw;obtain⟨n0,hn0⟩:=nxE S;simp only[KR,XY,simprocAttr];rw[Jb];simp only[XY,simprocAttr,hn0];refine JM ?_;intro S1 hS1;have G1:Gr S S1:=by rw[hS1];exact Gr.new hw (Ja _)
 obtain⟨p4,hp4⟩:=exE (up 0 n0);obtain⟨t4,r4⟩:∃t,S1.row p4= .cells t [.int .i64 0,ofL [], .snil, .snil]:=⟨_,by rw[hS1,hp4];simp only[XZ,simprocAttr,hn0];rfl⟩
 have p4n:S.row p4= .none:=by rw[hp4];exact nx0 hw hn0 0
 rw[<-hp4];clear hS1;have hw1:=G1.cells hwr;rw[Jb];simp only[XY,simprocAttr,hw1];refine Je (openO ⟨G1.wf,F,hT.gr G1⟩ ho) ?_;rintro _ _ ⟨rfl,rfl⟩;simp only[XY,simprocAttr];rw[Jl,Jb];simp only[XY,simprocAttr];rw[Jb];simp only[XY,simprocAttr,hw1];refine Je (nodeC (Q:=fun r=>S1.row r= .none) G1.wf (hT.gr G1) hid fun _ h=>h) ?_;rintro _ S2 ⟨G2,e,rfl,a,b,rfl,h1,h2⟩;have hAe':(tbT ws).nodes[id]=A:=hAe;rw[hAe']at h1 h2⊢;have c1:=h1.cells;have c2:=h1.sc;have c3:=h2.cells;have c4:=h2.sc;have r42:=G2.cells r4;obtain⟨n2,hn2⟩:=nxE S2;have w2:=G2.wf;have o4:=fun k=>nes (JE w2 hn2 (Jd r42) k);simp only[XZ,simprocAttr,hn2,c1,c2,c3,c4,r42,o4];have G3:Gr S2 (((S2.new fun t=>Row.cells t [.int .i64 0,ofL [], .snil, .snil]).wr (up 0 n2) S2.t fun u=>Row.cells u [.int .i64 A.kind,ofL A.name,a,b])):=(Gr.refl w2).nw hn2 (Ja _) (Ja _);refine fin _ _ (fun r e=> ?_) fun g=>⟨a,b,rfl, ?_, ?_⟩
 ·have e4:r≠p4:=fun c=>e (by rw[c];exact p4n);rw[Jo,if_neg e4,G3.same r (by rw[(G1.trans G2).same r e];exact e),(G1.trans G2).same r e]
 ·exact h1.imp fun r q e=>⟨trivial,by rw[Jo,if_neg (fun c=>Jd r4 (by rw[<-c];exact q)),G3.same r e]⟩
 ·exact h2.imp fun r q e=>⟨trivial,by rw[Jo,if_neg (fun c=>Jd r4 (by rw[<-c];exact q)),G3.same r e]⟩
noncomputable def withQ (d j:Nat):Bool:=match run (tabT tabD) 60 Jdg [.agg [.int .i64 (d:Nat), .snil, .snil], .int .i64 (j:Nat)] St.start with
 |some (.agg [.int .i64 x, .snil, .snil],a)=>decide (x=(j:Nat))&&inT a.nx.num a.h
 |_=>false
theorem Jtg :withQ 1 0=true:=by kernel_rfl
theorem Jth :withQ 2 1=true:=by kernel_rfl
theorem Jti :withQ 3 2=true:=by kernel_rfl
theorem Jtj :withQ 4 3=true:=by kernel_rfl
theorem Jtk :withQ 5 4=true:=by kernel_rfl
theorem Jtl :withQ 6 5=true:=by kernel_rfl
theorem Jtm :withQ 7 6=true:=by kernel_rfl
theorem Jtn :withQ 8 7=true:=by kernel_rfl
theorem withF {j:Nat}(hj:j<8){S:St}(hw:WF S):Does (tabT tabD) Jdg [envD (j+1), .int .i64 (j:Nat)] S fun v S'=>Gr S S'/\v=envD j:=by
 have h:withQ (j+1) j=true:=by
  rcases(by omega:j=0\/j=1\/j=2\/j=3\/j=4\/j=5\/j=6\/j=7)with rfl|rfl|rfl|rfl|rfl|rfl|rfl|rfl
  ·exact Jtg
  ·exact Jth
  ·exact Jti
  ·exact Jtj
  ·exact Jtk
  ·exact Jtl
  ·exact Jtm
  ·exact Jtn
 unfold withQ at h
 split at h
 ·rename_i x a hr
  rw[Bool.and_eq_true]at h;have H:=Hold.start (S:=S) (fun _=> .int .i64 0) (fun _=>⟨_,_,rfl⟩) hw;have:=H.go tabE tabM tabU (args:=[.agg [.int .i64 ((j+1:Nat):Int), .snil, .snil], .int .i64 (j:Nat)]) rfl hr (Nat.zero_le _) h.2;simp only[List.map_cons,List.map_nil,mv,mvs]at this;exact this.mono fun _ _ ⟨g,ψ,_,e,_⟩=>⟨g,by rw[e,show x=(j:Int)from of_decide_eq_true h.1]⟩
 ·cases h
theorem bothF {S0 S:St}{w rt:Pt}{nv lv:V}{x:Int}{k id:Nat}{es:List (List V)}{cs:List Int}(E:FX S0 S w rt nv x)(hlv:SlAt (fun _=>True) S0 lv 9 es)(hn:es.length<=2)(hc:cs.length=es.length)(h:∀i (a:i<es.length) (b:i<cs.length),NodeR S0 w rt nv k es[i] cs[i]):
  Does (tabT tabD) Jbd [.ptr w 0,envD k,lv,envD id, .snil] S (RowP S w rt nv x (codeL cs)):=by
 refine JA Jav rfl ?_;have hw:=E.wf;obtain⟨n0,hn0⟩:=nxE S;simp only[KS,XY,simprocAttr];rw[Jb];simp only[XY,simprocAttr,hn0];refine JM ?_;intro S1 hS1;have G1:Gr S S1:=by rw[hS1];exact(Gr.new hw (Ja _)).nn (Ja _)
 obtain⟨p6,hp6⟩:=exE (up 0 n0);obtain⟨p8,hp8⟩:=exE (up 1 n0);obtain⟨t6,r6⟩:∃t,S1.row p6= .cells t [.int .i64 (k:Nat), .snil, .snil]:=⟨_,by rw[hS1,hp6];simp only[XZ,simprocAttr,hn0];rfl⟩
 obtain⟨t8,r8⟩:∃t,S1.row p8= .cells t [.int .i64 (id:Nat), .snil, .snil]:=⟨_,by rw[hS1,hp8];simp only[XZ,simprocAttr,hn0];rfl⟩
 have p8n:S.row p8= .none:=by rw[hp8];exact nx0 hw hn0 1
 have p8w:p8≠w:=fun e=>by
  obtain⟨u,h⟩:=E.hw;rw[<-e,p8n]at h;cases h
 rw[<-hp6,<-hp8];clear hS1;have E1:=E.gr G1;rw[Jl,Jb];simp only[XY,simprocAttr,r6];refine Je (rowL E1 hlv hn hc h) ?_;rintro v S2 ⟨rfl,C2,u,y,hw2,hy⟩;have C02:Ch (fun r=>r=w) S S2:=(Ch.of _ G1).trans C2 fun r w=> .inl w;simp only[XY,simprocAttr];by_cases hz:codeL cs=0;rotate_left
 ·rw[Jb];simp only[XZ,simprocAttr,hz];exact⟨rfl,C02,u,y,hw2,fun h=>absurd h hz⟩
 have hy:=hy hz;subst hy;have E2:FX S0 S2 w rt nv y:=E.ch C02 ⟨u,hw2⟩;have r82:S2.row p8= .cells t8 [.int .i64 (id:Nat), .snil, .snil]:=(C2.same p8 (Jd r8) p8w).trans r8;rw[Jb];simp only[XY,simprocAttr,hz];rw[Jb];simp only[XY,simprocAttr,r82];refine Je (rowL (id:=id) (cs:=[]) E2 (SlAt.nil _ _ _) (by simp) rfl fun i a=>absurd a (Nat.not_lt_zero _)) ?_;rintro v S3 ⟨rfl,C3,u3,y3,hw3,hy3⟩;simp only[XZ,simprocAttr];exact⟨rfl,C02.trans C3 fun r w=> .inl w,u3,y3,hw3,fun _=>hy3 rfl⟩
def BodyR (S0:St)(w rt:Pt)(nv:V)(id:Nat)(lv:V)(code:Int):Prop:=∃es cs,SlAt (fun _=>True) S0 lv 9 es/\es.length<=2/\cs.length=es.length/\(∀i (a:i<es.length) (b:i<cs.length),NodeR S0 w rt nv id es[i] cs[i])/\code=codeL cs
theorem oneN9 {W F:Pt->Prop}{S0 S:St}{w rt:Pt}{nv:V}{x:Int}{ws:List Nat}{id tid:Nat}{A:Nd}{k at_ code:Int}{pv b el cs:V}{he:Bool}(E:FX S0 S w rt nv x)(hT0:Tab W F S0 rt (tbT ws))(hA:(chL ws)[tid]? =some A)
  (s0:pv.sc=true) (s1:b.sc=true) (s2:el.sc=true) (s3:cs.sc=true)
  (H:(k=2/\A=chI/\code=0)\/(∃v j,j<8/\id=j+1/\tid=id/\A=chD v j/\el= .snil/\((k=7/\(v=0\/v=1))\/(k=6/\v=2))/\BodyR S0 w rt nv j b code)):
  Does (tabT tabD) YW [.ptr w 0,envD id, .agg [.int .i64 k, .int .i64 at_,ofL [],ofL [],pv,b,el, .bool he,cs], .int .i64 (tid:Nat)] S (RowP S w rt nv x code):=by
 refine JA kW rfl ?_;have hw:=E.wf;have c0:=scells9 s0;have c1:=scells9 s1;have c2:=scells9 s2;have c3:=scells9 s3;have h9:A.kind≠9:=by
  rcases H with⟨_,rfl,_⟩|⟨v,j,_,_,_,rfl,_,h,_⟩
  ·decide
  ·rcases h with⟨_,rfl|rfl⟩|⟨_,rfl⟩<;>simp[chD,chK]
 obtain⟨n0,hn0⟩:=nxE S;simp only[KI,XY,simprocAttr];rw[Jb];simp only[XY,simprocAttr,hn0,s0,s1,s2,s3,c0,c1,c2,c3];refine JM ?_;intro S2 hS2;have G2:Gr S S2:=by rw[hS2];exact(Gr.new hw (Ja _)).nn (Ja _)
 obtain⟨p5,hp5⟩:=exE (up 0 n0);obtain⟨p6,hp6⟩:=exE (up 1 n0);obtain⟨t5,r5⟩:∃t,S2.row p5= .cells t [.int .i64 (id:Nat), .snil, .snil]:=⟨_,by rw[hS2,hp5];simp only[XZ,simprocAttr,hn0];rfl⟩
 obtain⟨t6,r6⟩:∃t,S2.row p6= .cells t [.int .i64 k, .int .i64 at_,ofL [],ofL [],pv,b,el, .bool he,cs]:=⟨_,by rw[hS2,hp6];simp only[XZ,simprocAttr,hn0];rfl⟩
 rw[<-hp5,<-hp6];clear hS2;have E2:=E.gr G2;rw[Jb];simp only[XY,simprocAttr];refine Je (nodeF E2 hT0 hA h9) ?_;rintro _ S3 ⟨G3,na,nb,rfl,h1,h2⟩;have d1:=h1.cells;have d2:=h1.sc;have d3:=h2.cells;have d4:=h2.sc;obtain⟨n3,hn3⟩:=nxE S3;simp only[XY,simprocAttr,hn3,d1,d2,d3,d4];refine JM ?_;intro S4 hS4;have w3:=G3.wf;have G4:Gr S3 S4:=by rw[hS4];exact(Gr.refl w3).nw hn3 (Ja _) (Ja _)
 obtain⟨p9,hp9⟩:=exE (up 0 n3);obtain⟨t9,r9⟩:∃t,S4.row p9= .cells t [.int .i64 A.kind,ofL A.name,na,nb]:=⟨_,by rw[hS4,hp9];simp only[XZ,simprocAttr,hn3];rfl⟩
 rw[<-hp9];clear hS4;have G24:=G3.trans G4;have r54:=G24.cells r5;have r64:=G24.cells r6;have h2:=h2.gr G4;have GS4:=G2.trans G24;have E4:=E.gr GS4;rcases H with⟨rfl,rfl,rfl⟩|⟨v,j,hj,rfl,rfl,rfl,rfl,hk,es,cs',hlv,hn,hc,hN,rfl⟩
 ·have hki:chI.kind=2:=rfl;rw[hki]at r9;simp only[XZ,simprocAttr,r64,r9];obtain⟨u,hu⟩:=E4.hw;exact⟨rfl,Ch.of _ GS4,u,x,hu,fun _=>rfl⟩
 have hkids:SlAt (fun _=>True) S4 nb 1 (ints [j]):=h2;have lk:lenLV nb=some (.int .i64 1, .no):=hkids.len;obtain⟨rk,qk,k1,_,k3,_,k5⟩:=hkids.elem (i:=0) (by simp[ints]);have k1:iaddrSV 1 nb (.int .i64 0)=some (.ptr rk qk, .no):=k1;have k5:ld1 (S4.row rk) qk=some (.int .i64 (j:Nat), .no):=by have:=k5 0 (by simp[ints]);simpa[ints]using this
 rcases hk with⟨rfl,hv⟩|⟨rfl,rfl⟩
 ·have hkd:(chD v j).kind=4\/(chD v j).kind=5:=by rcases hv with rfl|rfl;exact .inl rfl;exact .inr rfl
  have main:∀kd:Int,(kd=4\/kd=5)->(chD v j).kind=kd->True:=fun _ _ _=>trivial;rcases hkd with hkd|hkd
  all_goals
   rw[hkd]at r9;simp only[XZ,simprocAttr,r54,r64,r9,lk,k1,k5];refine JF (P:=fun v _=>v=envD j) (withF hj (KN E4.wf _)) ?_;rintro _ S5 G5 rfl;have E5:=E4.gr G5;have r55:=G5.cells r54;have r65:=G5.cells r64;simp only[XZ,simprocAttr,r55,r65];refine Y9 (W:=fun r=>r=w) E5.wf ((bothF (id:=j+1) (E5.low _) hlv hn hc hN).mono fun v S' h=>⟨h.2.1,h⟩) ?_;rintro _ S6 lo C6 ⟨rfl,_,u,y,hw6,hy⟩;simp only[XZ,simprocAttr];exact⟨rfl,(Ch.of _ (GS4.trans G5)).trans C6 fun r w=> .inl w,u,y,hw6,hy⟩
 ·have hkd:(chD 2 j).kind=6:=rfl;rw[hkd]at r9;simp only[XZ,simprocAttr,r54,r64,r9,lk,k1,k5];refine JF (P:=fun v _=>v=envD j) (withF hj (KN E4.wf _)) ?_;rintro _ S5 G5 rfl;have E5:=E4.gr G5;have r55:=G5.cells r54;have r65:=G5.cells r64;simp only[XZ,simprocAttr,r55,r65];refine Y9 (W:=fun r=>r=w) E5.wf ((bothF (id:=j+1) (E5.low _) hlv hn hc hN).mono fun v S' h=>⟨h.2.1,h⟩) ?_;rintro _ S6 lo C6 ⟨rfl,_,u,y,hw6,hy⟩;simp only[XZ,simprocAttr];exact⟨rfl,(Ch.of _ (GS4.trans G5)).trans C6 fun r w=> .inl w,u,y,hw6,hy⟩
theorem indexK {P:Pt->Prop}{S:St}{nv:V}(hw:WF S)(h:SlAt P S nv 1 (strs [[107]])):Does (tabT tabD) ql [nv,ofL [107]] S fun v S'=>v= .int .i64 0/\S=S':=by
 refine JA j8 rfl ?_;have ll:lenLV nv=some (.int .i64 1, .no):=h.len;obtain⟨r,q,a1,_,a3,_,a5⟩:=h.elem (i:=0) (by simp[strs]);have a1:iaddrSV 1 nv (.int .i64 0)=some (.ptr r q, .no):=a1;have a5:ld1 (S.row r) q=some (ofL [107], .no):=by have:=a5 0 (by simp[strs]);simpa[strs]using this
 simp only[Km,XY,simprocAttr];rw[Jb];simp only[XY,simprocAttr];rw[Jl,Jb];simp only[XY,simprocAttr,ll];refine QY (by omega) ?_;have hi':(0:Int)<1:=by omega
 simp only[XZ,simprocAttr,ll,hi',a1,a5]
noncomputable def contQ :Bool:=match run (tabT tabD) 60 YY [.slx .h 0 1 1 1, .bool false] {(St.start.new fun t=> .cells t [.bool true])with low:=1}with
 |some (.bool x,a)=>(x==false)&&(Nat.ble 1 a.low&&inT a.nx.num a.h)
 |_=>false
theorem Jto :contQ=true:=by kernel_rfl
theorem contT {S:St}(hw:WF S){q:Pt}(hq:∃t,S.row q= .cells t [.bool true]):Does (tabT tabD) YY [.slx q 0 1 1 1, .bool false] S fun v S'=>Gr S S'/\v= .bool false:=by
 have h:=Jto;unfold contQ at h
 split at h
 ·rename_i x a hr
  rw[Bool.and_eq_true,Bool.and_eq_true]at h;obtain⟨t,hq⟩:=hq;have H0:=Hold.start (S:=S) (fun _=> .int .i64 0) (fun _=>⟨_,_,rfl⟩) hw;obtain⟨φ,ag,e1,H⟩:=H0.add (q:=q) (f:=fun t=> .cells t [.bool true]) (Ja _) (Jd hq) (fun p h=>absurd h (Nat.not_lt_zero _)) ⟨t,by rw[hq];rfl,trivial⟩ rfl rfl;have e1:φ .h=q:=e1;have:=H.go tabE tabM tabU (args:=[.slx .h 0 1 1 1, .bool false]) rfl hr (Nat.le_of_ble_eq_true h.2.1) h.2.2;simp only[List.map_cons,List.map_nil,mv,e1]at this;exact this.mono fun v S' ⟨g,ψ,_,e,_⟩=>⟨g,by rw[e,show x=false from eq_of_beq h.1]⟩
 ·cases h
theorem matchF {W F:Pt->Prop}{S0 S:St}{w rt:Pt}{nv:V}{x:Int}{ws:List Nat}{j:Nat}{at_ code:Int}{pv b bv cv:V}{he:Bool}(E:FX S0 S w rt nv x)(hT0:Tab W F S0 rt (tbT ws))(hA:(chL ws)[j+1]? =some (chD 3 j))(hj:j<8)
  (s0:pv.sc=true) (s1:b.sc=true) (hcv:SlAt (fun _=>True) S0 cv 2 [[ofL [107],bv]]) (hbv:bv.sc=true) (hB:BodyR S0 w rt nv j bv code):
  Does (tabT tabD) Jaw [.ptr w 0,envD (j+1), .agg [.int .i64 8, .int .i64 at_,ofL [],ofL [],pv,b, .snil, .bool he,cv], .int .i64 ((j+1:Nat):Int)] S (RowP S w rt nv x code):=by
 refine JA qO rfl ?_;have hw:=E.wf;have c0:=scells9 s0;have c1:=scells9 s1;have s3:=hcv.sc;have c3:=scells9 s3;have cb:=scells9 hbv;have lc:lenLV cv=some (.int .i64 1, .no):=hcv.len;obtain⟨rc,qc,b1,_,b3,b4,_⟩:=hcv.elem (i:=0) (by simp);have b1:iaddrSV 2 cv (.int .i64 0)=some (.ptr rc qc, .no):=b1;have b4:ldn (S0.row rc) qc 2=some (.agg [ofL [107],bv], .no):=b4;obtain⟨es,cs',hlv,hn,hc,hN,rfl⟩:=hB;obtain⟨n0,hn0⟩:=nxE S;simp only[KJ,XY,simprocAttr];rw[Jb];simp only[XY,simprocAttr,hn0,s0,s1,s3,c0,c1,c3];refine JM ?_;intro S2 hS2;have G2:Gr S S2:=by rw[hS2];exact(Gr.new hw (Ja _)).nn (Ja _)
 obtain⟨p5,hp5⟩:=exE (up 0 n0);obtain⟨p6,hp6⟩:=exE (up 1 n0);obtain⟨t5,r5⟩:∃t,S2.row p5= .cells t [.int .i64 ((j+1:Nat):Int), .snil, .snil]:=⟨_,by rw[hS2,hp5];simp only[XZ,simprocAttr,hn0];rfl⟩
 obtain⟨t6,r6⟩:∃t,S2.row p6= .cells t [.int .i64 8, .int .i64 at_,ofL [],ofL [],pv,b, .snil, .bool he,cv]:=⟨_,by rw[hS2,hp6];simp only[XZ,simprocAttr,hn0];rfl⟩
 have n5:S.row p5= .none/\S.row p6= .none:=by rw[hp5,hp6];exact⟨nx0 hw hn0 0,nx0 hw hn0 1⟩
 rw[<-hp5,<-hp6];clear hS2;have E2:=E.gr G2;rw[Jb];simp only[XY,simprocAttr];refine Je (nodeF E2 hT0 hA (by simp[chD,chK])) ?_;rintro _ S3 ⟨G3,na,nb,rfl,h1,h2⟩;have d1:=h1.cells;have d2:=h1.sc;have d3:=h2.cells;have d4:=h2.sc;obtain⟨n3,hn3⟩:=nxE S3;simp only[XY,simprocAttr,hn3,d1,d2,d3,d4];refine JM ?_;intro S4 hS4;have w3:=G3.wf;have G4:Gr S3 S4:=by rw[hS4];exact(Gr.refl w3).nw hn3 (Ja _) (Ja _)
 obtain⟨p9,hp9⟩:=exE (up 0 n3);obtain⟨t9,r9⟩:∃t,S4.row p9= .cells t [.int .i64 8,ofL [],na,nb]:=⟨_,by rw[hS4,hp9];simp only[XZ,simprocAttr,hn3];rfl⟩
 rw[<-hp9];clear hS4;have G24:=G3.trans G4;have r54:=G24.cells r5;have r64:=G24.cells r6;have h1:SlAt (fun _=>True) S4 na 1 (strs [[107]]):=h1.gr G4;have h2:SlAt (fun _=>True) S4 nb 1 (ints [j]):=h2.gr G4;have GS4:=G2.trans G24;have E4:=E.gr GS4;have ln:lenLV na=some (.int .i64 1, .no):=h1.len;have lk:lenLV nb=some (.int .i64 1, .no):=h2.len;have mk:∀S:St,mkslV S 1 [.bool false] (.int .i64 1) (.int .i64 1)=some (.slx S.nx 0 1 1 1, .new fun t=> .cells t [.bool false]):=fun _=>rfl;rw[Jl,Jb];simp only[XY,simprocAttr,r9];obtain⟨n4,hn4⟩:=nxE S4;rw[Jb];simp only[XY,simprocAttr,r9,ln,mk,hn4];refine JM ?_;intro S5 hS5;have G5:Gr S4 S5:=by rw[hS5];exact Gr.new E4.wf (Ja _)
 obtain⟨pw,hpw⟩:=exE (up 0 n4);obtain⟨tw,rpw⟩:∃t,S5.row pw= .cells t [.bool false]:=⟨_,by rw[hS5,hpw];simp only[XZ,simprocAttr,hn4];rfl⟩
 have pwn:S4.row pw= .none:=by rw[hpw];exact nx0 E4.wf hn4 0
 rw[<-hpw];clear hS5;have E5:=E4.gr G5;have r65:=G5.cells r64;have r55:=G5.cells r54;have r95:=G5.cells r9;have h15:=h1.gr G5;have h25:=h2.gr G5;have pww:pw≠w:=fun e=>by
  obtain⟨u,h⟩:=E4.hw;rw[<-e,pwn]at h;cases h
 obtain⟨J,hJ⟩:=opE fun fr S'=>fr 0= .ptr w 0/\fr 5= .ptr p5 0/\fr 6= .ptr p6 0/\fr 10= .slx pw 0 1 1 1/\codeL cs'=0/\Ch (fun r=>r=w\/r=pw) S5 S'/\(∃u,S'.row w= .cells u [.ptr rt 0,nv, .snil, .int .i64 x])/\∃u,S'.row pw= .cells u [.bool true];have new:∀{r:Pt},S4.row r= .none->S.row r= .none:=fun e=>Ch.fresh (Ch.of (fun _=>False) GS4) e;have toW:∀{S':St},Ch (fun r=>r=w\/r=pw) S5 S'->Ch (fun r=>r=w) S S':=fun c=>(Ch.of _ (GS4.trans G5)).trans c fun r h=>by
  rcases h with h|h
  ·exact .inl h
  ·rw[h];exact .inr (new pwn)
 refine Qc J ?_ ?_
 ·rw[Jb];simp only[XY,simprocAttr,r65,lc];obtain⟨L,hL⟩:=loE fun k fr S'=>fr 0= .ptr w 0/\fr 5= .ptr p5 0/\fr 6= .ptr p6 0/\fr 9= .ptr p9 0/\fr 10= .slx pw 0 1 1 1/\fr 26=cv/\fr 27= .int .i64 1/\((k=1/\S'=S5/\fr 28= .int .i64 0)\/(k=0/\fr 28= .int .i64 1/\codeL cs'=0/\Ch (fun r=>r=w\/r=pw) S5 S'/\(∃u,S'.row w= .cells u [.ptr rt 0,nv, .snil, .int .i64 x])/\∃u,S'.row pw= .cells u [.bool true]));refine JK L 1 (by omega) ((hL _ _ _).2 ⟨rfl,rfl,rfl,rfl,rfl,rfl,rfl, .inl ⟨rfl,rfl,rfl⟩⟩) ?_;intro kk fr S6 hLj;obtain⟨f0,f5,f6,f9,f10,f26,f27,hLj⟩:=(hL _ _ _).1 hLj;rcases hLj with⟨rfl,rfl,f28⟩|⟨rfl,f28,hz,C6,hw6,hpw6⟩
  rotate_left
  ·have hi':¬(1:Int)<1:=by omega
   simp only[XZ,simprocAttr,f27,f28,hi'];exact(hJ _ _).2 ⟨f0,f5,f6,f10,hz,C6,hw6,hpw6⟩
  have hi':(0:Int)<1:=by omega
  have hadd1:IntKind.i64.wrap ((0:Int)+1)=1:=by rw[Jx (by omega) (by omega)];rfl
  have w5:=G5.wf;have b45:ldn (S6.row rc) qc 2=some (.agg [ofL [107],bv], .no):=by rw[E5.hz rc b3];exact b4
  obtain⟨n6,hn6⟩:=nxE S6;rw[Jb];simp only[XY,simprocAttr,f27,f28,hi'];rw[Jl];simp only[XY,simprocAttr];rw[Jl];simp only[XY,simprocAttr];rw[Jb];simp only[XY,simprocAttr,f26,f28,b1,b45,hn6,hbv,cb];refine JM ?_;intro S7 hS7;have G7:Gr S6 S7:=by rw[hS7];exact(Gr.refl w5).nw hn6 (Ja _) (Ja _)
  obtain⟨p12,hp12⟩:=exE (up 0 n6);obtain⟨t12,r12⟩:∃t,S7.row p12= .cells t [ofL [107],bv]:=⟨_,by rw[hS7,hp12];simp only[XZ,simprocAttr,hn6];rfl⟩
  rw[<-hp12];clear hS7;have E7:=E5.gr G7;have r97:=G7.cells r95;have r57:=G7.cells r55;have rpw7:=G7.cells rpw;have h17:=h15.gr G7;have h27:=h25.gr G7;obtain⟨rk,qk,k1,_,k3,_,k5⟩:=h2.elem (i:=0) (by simp[ints]);have k1:iaddrSV 1 nb (.int .i64 0)=some (.ptr rk qk, .no):=k1;have k5:ld1 (S4.row rk) qk=some (.int .i64 (j:Nat), .no):=by have:=k5 0 (by simp[ints]);simpa[ints]using this
  have ipw:iaddrSV 1 (.slx pw 0 1 1 1) (.int .i64 0)=some (.ptr pw 0, .no):=rfl;rw[Jb];simp only[XY,simprocAttr,f9,r97,r12];refine Je (indexK G7.wf h17) ?_;rintro _ _ ⟨rfl,rfl⟩;simp only[XY,simprocAttr];rw[Jl,Jb];simp only[XY,simprocAttr,f9,f10,r97,lk,ipw,rpw7];rw[Jb];simp only[XY,simprocAttr,f10,ipw,rpw7];obtain⟨S8,hS8⟩:∃S8,S8=S7.wr pw tw fun u=>Row.cells u [.bool true]:=⟨_,rfl⟩
  have C8:Ch (fun r=>r=pw) S7 S8:=by rw[hS8];exact(Ch.refl (fun r=>r=pw) G7.wf).wr (Jd rpw7) (by rw[rpw7];rfl) (.inl rfl) (Ja _)
  have rpw8:S8.row pw= .cells S7.t [.bool true]:=by rw[hS8,Jo,if_pos rfl]
  rw[show(S7.wr pw tw fun u=>Row.cells u [.bool true])=S8 from hS8.symm];clear hS8;have keep:∀{r:Pt},S7.row r≠ .none->r≠pw->S8.row r=S7.row r:=fun a b=>C8.same _ a b;have p5pw:p5≠pw:=fun e=>Jd r54 (by rw[e];exact pwn);have p9pw:p9≠pw:=fun e=>Jd r9 (by rw[e];exact pwn);have p12n:S6.row p12= .none:=by rw[hp12];exact nx0 w5 hn6 0
  have p12pw:p12≠pw:=fun e=>Jd rpw (by rw[<-e];exact p12n);have rkpw:rk≠pw:=fun e=>k3 (by rw[e];exact pwn);have e7:S7.row rk=S4.row rk:=by rw[G7.same rk (by rw[G5.same rk k3];exact k3),G5.same rk k3]
  have r98:=(keep (Jd r97) p9pw).trans r97;have r58:=(keep (Jd r57) p5pw).trans r57;have r128:=(keep (Jd r12) p12pw).trans r12;have k58:ld1 (S8.row rk) qk=some (.int .i64 (j:Nat), .no):=by rw[keep (by rw[e7];exact k3) rkpw,e7];exact k5
  have pw0:S0.row pw= .none:=Classical.byContradiction fun c=>(by rw[E4.hz pw c];exact c:S4.row pw≠ .none) pwn;have E8:FX S0 S8 w rt nv x:=by
   obtain⟨u,h⟩:=E7.hw;exact⟨C8.wf,fun r e=>by rw[keep (by rw[E7.hz r e];exact e) (fun c=>e (by rw[c];exact pw0)),E7.hz r e],E7.w0,u,by rw[keep (Jd h) (Ne.symm pww),h]⟩
  rw[Jb];simp only[XY,simprocAttr,f0,f5,f9,r98,r58,k1,k58];refine JF (P:=fun v _=>v=envD j) (withF hj (KN E8.wf _)) ?_;rintro _ S9 G9 rfl;have E9:=E8.gr G9;have r129:=G9.cells r128;have rpw9:=G9.cells rpw8;simp only[XY,simprocAttr,r129];refine Y9 (W:=fun r=>r=w) E9.wf ((rowL (E9.low _) hlv hn hc hN).mono fun v S' h=>⟨h.2.1,h⟩) ?_;rintro _ S10 lo C10 ⟨rfl,_,u,y,hw10,hy⟩;have C510:Ch (fun r=>r=w\/r=pw) S6 {S10 with low:=lo}:=(((Ch.of _ G7).trans C8 fun r h=> .inl (.inr h)).gr G9).trans C10 fun r h=> .inl (.inl h);simp only[XY,simprocAttr];by_cases hz:codeL cs'=0;rotate_left
  ·rw[Jb];simp only[XZ,simprocAttr,hz];exact⟨rfl,toW C510,u,y,hw10,fun h=>absurd h hz⟩
  have hy:=hy hz;subst hy;rw[Jb];simp only[XZ,simprocAttr,hz,f28,hadd1];refine⟨0,by omega,(hL _ _ _).2 ⟨f0,f5,f6,f9,f10,f26,f27, .inr ⟨rfl,rfl,hz,C510,⟨u,hw10⟩,S7.t, ?_⟩⟩⟩;exact(C10.same pw (Jd rpw9) pww).trans rpw9
 intro fr S8 hJf;obtain⟨f0,f5,f6,f10,hz,C8,⟨u8,hw8⟩,hpw8⟩:=(hJ _ _).1 hJf;have E8:FX S0 S8 w rt nv x:=E.ch (toW C8) ⟨u8,hw8⟩;have keep:∀{r:Pt} {t:Nat} {l:List V},S5.row r= .cells t l->r≠w->r≠pw->S8.row r= .cells t l:=fun e a b=>by rw[C8.same _ (Jd e) (fun h=>h.elim a b),e]
 have nw:∀{r:Pt},S.row r= .none->r≠w:=fun e c=>by
  obtain⟨u,h⟩:=E.hw;rw[c,h]at e;cases e
 have r58:=keep r55 (nw n5.1) (fun e=>Jd r54 (by rw[e];exact pwn));have r68:=keep r65 (nw n5.2) (fun e=>Jd r64 (by rw[e];exact pwn));rw[Jl,Jb];simp only[XY,simprocAttr,f10];refine Je (contT C8.wf hpw8) ?_;rintro _ S9 ⟨G9,rfl⟩;have E9:=E8.gr G9;have r59:=G9.cells r58;have r69:=G9.cells r68;simp only[XZ,simprocAttr,f0,f5,f6,r59,r69];refine Je (rowL (id:=j+1) (cs:=[]) E9 (SlAt.nil _ _ _) (by simp) rfl fun i a=>absurd a (Nat.not_lt_zero _)) ?_;rintro v S10 ⟨rfl,C10,u,y,hw10,hy⟩;simp only[XZ,simprocAttr];exact⟨by rw[hz];rfl,((toW C8).gr G9).trans C10 fun r w=> .inl w,u,y,hw10,fun _=>hy rfl⟩
theorem oneM {W F:Pt->Prop}{S0 S:St}{w rt:Pt}{nv:V}{x:Int}{ws:List Nat}{j:Nat}{at_ code:Int}{pv b bv cv:V}{he:Bool}(E:FX S0 S w rt nv x)(hT0:Tab W F S0 rt (tbT ws))(hA:(chL ws)[j+1]? =some (chD 3 j))(hj:j<8)
  (s0:pv.sc=true) (s1:b.sc=true) (hcv:SlAt (fun _=>True) S0 cv 2 [[ofL [107],bv]]) (hbv:bv.sc=true) (hB:BodyR S0 w rt nv j bv code):
  Does (tabT tabD) YW [.ptr w 0,envD (j+1), .agg [.int .i64 8, .int .i64 at_,ofL [],ofL [],pv,b, .snil, .bool he,cv], .int .i64 ((j+1:Nat):Int)] S (RowP S w rt nv x code):=by
 refine JA kW rfl ?_;have hw:=E.wf;have c0:=scells9 s0;have c1:=scells9 s1;have s3:=hcv.sc;have c3:=scells9 s3;obtain⟨n0,hn0⟩:=nxE S;simp only[KI,XY,simprocAttr];rw[Jb];simp only[XY,simprocAttr,hn0,s0,s1,s3,c0,c1,c3];refine JM ?_;intro S2 hS2;have G2:Gr S S2:=by rw[hS2];exact(Gr.new hw (Ja _)).nn (Ja _)
 obtain⟨p5,hp5⟩:=exE (up 0 n0);obtain⟨p6,hp6⟩:=exE (up 1 n0);obtain⟨t5,r5⟩:∃t,S2.row p5= .cells t [.int .i64 ((j+1:Nat):Int), .snil, .snil]:=⟨_,by rw[hS2,hp5];simp only[XZ,simprocAttr,hn0];rfl⟩
 obtain⟨t6,r6⟩:∃t,S2.row p6= .cells t [.int .i64 8, .int .i64 at_,ofL [],ofL [],pv,b, .snil, .bool he,cv]:=⟨_,by rw[hS2,hp6];simp only[XZ,simprocAttr,hn0];rfl⟩
 rw[<-hp5,<-hp6];clear hS2;have E2:=E.gr G2;rw[Jb];simp only[XY,simprocAttr];refine Je (nodeF E2 hT0 hA (by simp[chD,chK])) ?_;rintro _ S3 ⟨G3,na,nb,rfl,h1,h2⟩;have d1:=h1.cells;have d2:=h1.sc;have d3:=h2.cells;have d4:=h2.sc;obtain⟨n3,hn3⟩:=nxE S3;simp only[XY,simprocAttr,hn3,d1,d2,d3,d4];refine JM ?_;intro S4 hS4;have G4:Gr S3 S4:=by rw[hS4];exact(Gr.refl G3.wf).nw hn3 (Ja _) (Ja _)
 clear hS4;have G24:=G3.trans G4;have r54:=G24.cells r5;have r64:=G24.cells r6;simp only[XZ,simprocAttr,r54,r64];refine Je (matchF (E2.gr G24) hT0 hA hj s0 s1 hcv hbv hB) ?_;rintro v S5 h;obtain⟨rfl,h'⟩:=RowP.of (G2.trans G24) h;simp only[XZ,simprocAttr];exact⟨rfl,h'⟩
theorem DotP.of {S0 S:St}{pv:V}(h:DotP S0 pv)(hz:∀r,S0.row r≠ .none->S.row r=S0.row r):DotP S pv:=by
 obtain⟨r1,r2,t1,t2,e,a,b⟩:=h;exact⟨r1,r2,t1,t2,e,by rw[hz r1 (Jd a),a],by rw[hz r2 (Jd b),b]⟩
theorem AddP.of {S0 S:St}{pv:V}(h:AddP S0 pv)(hz:∀r,S0.row r≠ .none->S.row r=S0.row r):AddP S pv:=by
 obtain⟨r1,r2,t1,t2,e,a,b⟩:=h;exact⟨r1,r2,t1,t2,e,by rw[hz r1 (Jd a),a],by rw[hz r2 (Jd b),b]⟩
theorem DotP.one {S:St}{pv:V}(h:DotP S pv):pv.sc=true/\lenLV pv=some (.int .i64 1, .no):=by
 obtain⟨r1,r2,t1,t2,rfl,_⟩:=h;exact⟨rfl,rfl⟩
theorem AddP.one {S:St}{pv:V}(h:AddP S pv):pv.sc=true/\lenLV pv=some (.int .i64 1, .no):=by
 obtain⟨r1,r2,t1,t2,rfl,_⟩:=h;exact⟨rfl,rfl⟩
def NT (S:St):List Nat->List V->Prop
 |[],e=>∃(at_:Int) (pv:V),e=[.int .i64 2, .int .i64 at_,ofL [],ofL [],pv, .snil, .snil, .bool false, .snil]/\AddP S pv
 | v::r,e=>∃(at_:Int) (pv bv:V) (e':List V),DotP S pv/\SlAt (fun _=>True) S bv 9 [e']/\NT S r e'/\
    ((v<2/\e=[.int .i64 7, .int .i64 at_,ofL [],ofL [],pv,bv, .snil, .bool false, .snil])\/(v=2/\e=[.int .i64 6, .int .i64 at_,ofL [],ofL [],pv,bv, .snil, .bool false, .snil])\/
     (v=3/\∃cv,SlAt (fun _=>True) S cv 2 [[ofL [107],bv]]/\e=[.int .i64 8, .int .i64 at_,ofL [],ofL [],pv, .snil, .snil, .bool false,cv]))
theorem nodeP {W F:Pt->Prop}{S0:St}{w rt:Pt}{nv:V}{ws:List Nat}{id:Nat}{A:Nd}{e:List V}(hT0:Tab W F S0 rt (tbT ws))(hA:(chL ws)[id]? =some A)(hk:A=chI\/∃v j,v<4/\A=chD v j)(he:NT S0 [] e):NodeR S0 w rt nv id e (if A=chI then 0 else 17):=by
 obtain⟨at_,pv,rfl,hp⟩:=he;obtain⟨sp,lp⟩:=hp.one;have hTS:∀{S:St} {x:Int},FX S0 S w rt nv x->Tab W F S rt (tbT ws):=fun E=>hT0.keep fun r _ e=>E.hz r e;rcases hk with rfl|⟨v,j,hv,rfl⟩
 ·rw[if_pos rfl];refine⟨2,at_,pv, .snil, .snil,false, .snil,rfl, .inl rfl,⟨sp,rfl,rfl,rfl⟩,lp,0,0,fun S x E=> ?_,fun h=>absurd rfl h,fun _ S x E=> ?_⟩
  ·exact(ofAdd E.wf (hTS E) hA (by decide) (hp.of E.hz) (.inl Jpe)).mono fun v S' h=>⟨h.1,by rw[h.2,Jpe]⟩
  ·exact oneN9 (tid:=0) E hT0 (JcB ws) sp rfl rfl rfl (.inl ⟨rfl,rfl,rfl⟩)
 ·have hne:chD v j≠chI:=fun e=>by
   have:=congrArg Nd.kids e;simp[chD,chI]at this
  rw[if_neg hne];have h9:(chD v j).kind≠9:=by
   have:=(JcC hv).2.1;show chK v≠9;omega
  refine⟨2,at_,pv, .snil, .snil,false, .snil,rfl, .inl rfl,⟨sp,rfl,rfl,rfl⟩,lp,0,17,fun S x E=> ?_,fun _=>rfl,fun h=>absurd h (by decide)⟩;exact(ofAdd E.wf (hTS E) hA h9 (hp.of E.hz) (.inr (Jpf hv j))).mono fun v S' h=>⟨h.1,by rw[h.2,Jpf hv j]⟩
theorem nodeT {W F:Pt->Prop}{S0:St}{w rt:Pt}{nv:V}{ws:List Nat}(hT0:Tab W F S0 rt (tbT ws)):∀(r p:List Nat) (e:List V),ws=p++r->(∀v∈r,v<4)->r.length<=8->NT S0 r e->NodeR S0 w rt nv r.length e 0
 | [],p,e,hp,_,_,he=>by
   have:=nodeP (w:=w) (nv:=nv) hT0 (JcB ws) (.inl rfl) he
   rwa [if_pos rfl]at this
 | v::r,p,e,hp,h4,h8,he=>by
   rw[List.length_cons]at h8⊢;obtain⟨at_,pv,bv,e',hd,hb,hn,hk⟩:=he;have ih:=nodeT (w:=w) (nv:=nv) hT0 r (p++[v]) e' (by rw[hp];simp) (fun a h=>h4 a (List.mem_cons_of_mem _ h)) (by omega) hn;have hv:=h4 v (List.mem_cons_self ..);have hA:(chL ws)[r.length+1]? =some (chD v r.length):=by rw[hp];exact JkD v r p
   obtain⟨sp,lp⟩:=hd.one;have hB:BodyR S0 w rt nv r.length bv 0:=⟨[e'],[0],hb,by simp,rfl,fun i a b=>by
    have:i=0:=by simp at a;omega
    subst this;exact ih,rfl⟩
   have hpipe:∀S x,FX S0 S w rt nv x->Does (tabT tabD) Jam [.ptr rt 0,envD (r.length+1),pv] S fun v S'=>Gr S S'/\v= .tup [.int .i64 ((r.length+1:Nat):Int), .int .i64 0]:=fun S x E=>ofDot E.wf _ _ (hd.of E.hz);rcases hk with⟨h2,rfl⟩|⟨rfl,rfl⟩|⟨rfl,cv,hcv,rfl⟩
   ·exact⟨7,at_,pv,bv, .snil,false, .snil,rfl, .inr (.inr (.inl rfl)),⟨sp,hb.sc,rfl,rfl⟩,lp,_,0,hpipe,fun h=>absurd rfl h,fun _ S x E=>oneN9 E hT0 hA sp hb.sc rfl rfl (.inr ⟨v,r.length,by omega,rfl,rfl,rfl,rfl, .inl ⟨rfl,by omega⟩,hB⟩)⟩
   ·exact⟨6,at_,pv,bv, .snil,false, .snil,rfl, .inr (.inl rfl),⟨sp,hb.sc,rfl,rfl⟩,lp,_,0,hpipe,fun h=>absurd rfl h,fun _ S x E=>oneN9 E hT0 hA sp hb.sc rfl rfl (.inr ⟨2,r.length,by omega,rfl,rfl,rfl,rfl, .inr ⟨rfl,rfl⟩,hB⟩)⟩
   ·exact⟨8,at_,pv, .snil, .snil,false,cv,rfl, .inr (.inr (.inr rfl)),⟨sp,rfl,rfl,hcv.sc⟩,lp,_,0,hpipe,fun h=>absurd rfl h,fun _ S x E=>oneM E hT0 hA (by omega) sp rfl hcv hb.sc hB⟩
theorem bodyF {S:St}{rt:Pt}{nv lv:V}{id:Nat}{es:List (List V)}{cs:List Int}(hw:WF S)(hnv:nv.sc=true)(hlv:SlAt (fun _=>True) S lv 9 es)(hn:es.length<=2)(hc:cs.length=es.length)(h:∀w,∀i (a:i<es.length) (b:i<cs.length),NodeR S w rt nv id es[i] cs[i]):
  Does (tabT tabD) Jdf [.ptr rt 0,nv, .int .i64 (id:Nat),lv] S fun v S'=>(∀r,S.row r≠ .none->S'.row r=S.row r)/\∃c a,v= .tup [c, .int .i64 a, .int .i64 (codeL cs)]:=by
 refine JA Jhx rfl ?_;have cn:=scells9 hnv;obtain⟨n0,hn0⟩:=nxE S;simp only[Yo,XY,simprocAttr];rw[Jb];simp only[XY,simprocAttr];rw[Jb];simp only[XY,simprocAttr,hn0,hnv,cn];refine JM ?_;intro S2 hS2;have G2:Gr S S2:=by rw[hS2];exact Gr.new hw (Ja _)
 obtain⟨w,hpw⟩:=exE (up 0 n0);obtain⟨t1,r1⟩:∃t',S2.row w= .cells t' [.ptr rt 0,nv, .snil, .int .i64 (-1)]:=⟨_,by rw[hS2,hpw];simp only[XZ,simprocAttr,hn0];rfl⟩
 have wn:S.row w= .none:=by rw[hpw];exact nx0 hw hn0 0
 rw[<-hpw];clear hS2;have E:FX S S2 w rt nv (-1):=⟨G2.wf,G2.same,wn,t1,r1⟩
 rw[Jl,Jb];simp only[XY,simprocAttr];refine Je (rowL (id:=id) E hlv hn hc (h w)) ?_;rintro _ S3 ⟨rfl,C3,uu,y,hw3,_⟩;obtain⟨z,hz⟩:∃z,z=codeL cs:=⟨_,rfl⟩
 rw[<-hz];have old:∀r,S.row r≠ .none->S3.row r=S.row r:=fun r e=>by
  rw[C3.same r (by rw[G2.same r e];exact e) (fun c=>e (by rw[c];exact wn)),G2.same r e]
 by_cases hz0:z=0
 ·simp only[XZ,simprocAttr,hz0,hw3];exact⟨old,_,_,rfl⟩
 ·simp only[XZ,simprocAttr,hz0,hw3];exact⟨old,_,_,rfl⟩
theorem endC (l:List UInt8)(i0:Nat)(st:St)(hl:l.length<=100000)(h00:i0<=l.length):Does (tabT tabD) Jdl [ofL l, .int .i64 i0] st fun v st'=>v=endV (endS (l.drop i0) false 0) i0/\st=st':=by
 refine JA JcG rfl ?_;simp only[QD,XZ,simprocAttr];refine JK (fun k fr st'=>∃(i b:Nat) (q:Bool),k+i=l.length/\i0<=i/\b<=i/\endS (l.drop i0) false 0=(endS (l.drop i) q b).map (·+(i-i0))/\fr 0=ofL l/\fr 1= .int .i64 i/\fr 5= .bool q/\fr 6= .int .i64 b/\st=st') (l.length-i0) (by omega) ?_ ?_
 ·refine⟨i0,0,false,by omega,Nat.le_refl _,Nat.zero_le _,by simp, ?_, ?_, ?_, ?_,rfl⟩
  all_goals simp only[XZ,simprocAttr]
  all_goals rfl
 ·rintro k fr st1 ⟨i,b,q,hk,hi0',hb,he,h0,h1,h5,h6,rfl⟩;by_cases hlt:i<l.length
  ·have hlt':(i:Int)<l.length:=by omega
   have hi0:(0:Int)<=(i:Int)/\(i:Int)<l.length:=by omega
   have s34:byteAt l i=34<->l[i]=34:=jF hlt 34;have s92:byteAt l i=92<->l[i]=92:=jF hlt 92;have s125:byteAt l i=125<->l[i]=125:=jF hlt 125;have e2:=JmK hlt q b;have hadd:IntKind.i64.wrap ((i:Int)+1)=(i:Int)+1:=Jx (by omega) (by omega);have next:∀(q':Bool) (b':Nat) (S:Int),q'=stQ q b l[i]->b'=stB q b l[i]->S=(b':Int)->b'<=i+1->¬(q=false/\l[i]=125/\l[i+1]? =some 125)->
     ∃j,j<k/\∃(i_1 b:Nat) (q:Bool),j+i_1=l.length/\i0<=i_1/\b<=i_1/\endS (l.drop i0) false 0=(endS (l.drop i_1) q b).map (·+(i_1-i0))/\V.int .i64 ((i:Int)+1)=V.int .i64 i_1/\V.bool q'=V.bool q/\V.int .i64 S=V.int .i64 b:=by
    intro q' b' S h1 h2 hS h3 hne;refine⟨k-1,by omega,i+1,b',q',by omega,by omega,h3, ?_,rfl,rfl,by rw[hS]⟩;rw[he,e2,if_neg hne,h1,h2]
    cases endS (l.drop (i+1)) (stQ q b l[i]) (stB q b l[i])with
    |none=>rfl
    |some x=>simp;omega
   cases q with
   | true=>
     have hne:¬(true=false/\l[i]=125/\l[i+1]? =some 125):=by rintro⟨h,_⟩;cases h
     by_cases h92:l[i]=92
     ·have b92:=s92.2 h92;simp only[XZ,simprocAttr,h0,h1,h5,h6,hlt',hi0,b92,hadd];exact next true (b+1) _ (by rw[h92];rfl) (by rw[h92];rfl) (Jx (by omega) (by omega)) (by omega) hne
     ·have b92:¬byteAt l i=92:=fun e=>h92 (s92.1 e);by_cases h34:l[i]=34
      ·have b34:=s34.2 h34;have htm:(b:Int).tmod 2=((b%2:Nat):Int):=by rw[Int.tmod_eq_emod_of_nonneg (by omega)];rfl
       simp only[XZ,simprocAttr,h0,h1,h5,h6,hlt',hi0,b92,b34,hadd];refine next _ 0 0 ?_ (by rw[h34];rfl) rfl (Nat.zero_le _) hne;have hq:stQ true b 34=(b%2==1):=by simp[stQ]
       rw[h34,htm,hq,Bool.eq_iff_iff,decide_eq_true_eq,beq_iff_eq];omega
      ·have b34:¬byteAt l i=34:=fun e=>h34 (s34.1 e);simp only[XZ,simprocAttr,h0,h1,h5,h6,hlt',hi0,b92,b34,hadd];exact next true 0 0 (by simp[stQ,h34]) (by simp[stB,h92]) rfl (Nat.zero_le _) hne
   | false=>
     by_cases h125:l[i]=125
     ·have b125:=s125.2 h125;by_cases hn:i+1<l.length
      ·have hn':(i:Int)+1<l.length:=by omega
       simp only[XZ,simprocAttr,h0,h1,h5,h6,hlt',hi0,b125,hadd,hn'];have hnat:((i:Int)+1).toNat=i+1:=by omega
       refine⟨by omega, ?_⟩;have s125n:byteAt l (i+1)=125<->l[i+1]=125:=jF hn 125;rw[hnat];by_cases hnx:l[i+1]=125
       ·have bnx:=s125n.2 hnx;simp only[XZ,simprocAttr,h0,h1,h5,h6,bnx];rw[he,e2,if_pos ⟨rfl,h125,by rw[List.getElem?_eq_getElem hn,hnx]⟩];simp[endV];omega
       ·have bnx:¬byteAt l (i+1)=125:=fun e=>hnx (s125n.1 e);simp only[XZ,simprocAttr,h0,h1,h5,h6,bnx,b125,hadd];refine next false 0 0 (by rw[h125];rfl) (by simp[stB]) rfl (Nat.zero_le _) ?_;rintro⟨_,_,h⟩;rw[List.getElem?_eq_getElem hn]at h;injection h with h;exact hnx h
      ·have hn':¬(i:Int)+1<l.length:=by omega
       simp only[XZ,simprocAttr,h0,h1,h5,h6,hlt',hi0,b125,hadd,hn'];refine next false 0 0 (by rw[h125];rfl) (by simp[stB]) rfl (Nat.zero_le _) ?_;rintro⟨_,_,h⟩;rw[List.getElem?_eq_none (by omega)]at h
       cases h
     ·have b125:¬byteAt l i=125:=fun e=>h125 (s125.1 e);simp only[XZ,simprocAttr,h0,h1,h5,h6,hlt',hi0,b125,hadd];refine next _ 0 0 ?_ (by simp[stB]) rfl (Nat.zero_le _) (fun h=>h125 h.2.1);simp only[stQ,Bool.false_eq_true,if_false,s34];rw[Bool.eq_iff_iff];simp
  ·have hlt':¬(i:Int)<l.length:=by omega
   simp only[XZ,simprocAttr,h0,h1,h5,h6,hlt'];rw[he,JmL (by omega)];rfl
theorem splitC (l:List UInt8)(st:St)(hw:WF st):Does (tabT tabD) Jb1 [ofL l] st (SplitQ l st):=by
 refine JA Ja7 rfl ?_;by_cases hl:1500<l.length
 ·have hl':(1500:Int)<l.length:=by omega
  simp only[KH,XZ,simprocAttr,hl'];exact⟨Gr.refl hw, .snil,by simp[splitR,hl],by simp only[splitR,if_pos hl];exact RecsAt.nil _ _ _⟩
 have hl':¬(1500:Int)<l.length:=by omega
 simp only[KH,XZ,simprocAttr,hl'];refine JK (fun k fr st'=>∃(i at_:Nat) (ps:List Prt),k+i=l.length/\at_<=i/\ps.length<=at_/\RecsAt st st' (fr 4) 3 ps.length (cellsP ps)/\splitS l 0=(splitS l at_).map (ps++·)/\openAt (l.drop at_)=(openAt (l.drop i)).map (·+(i-at_))/\fr 0=ofL l/\fr 5= .int .i64 i/\fr 6= .int .i64 at_/\Gr st st') l.length (by omega) ?_ ?_
 ·refine⟨0,0,[],rfl,Nat.le_refl _,Nat.le_refl _, ?_, ?_, ?_, ?_, ?_, ?_,Gr.refl hw⟩
  ·simp only[XZ,simprocAttr];exact RecsAt.nil _ _ _
  ·simp
  ·simp
  all_goals simp only[XZ,simprocAttr]
  all_goals rfl
 ·rintro k fr st1 ⟨i,at_,ps,hk,hai,hpa,hps,hsp,hop,h0,h5,h6,hg⟩;obtain⟨u,hu⟩:∃u,fr 4=u:=⟨_,rfl⟩
  rw[hu]at hps;by_cases hlt:i<l.length
  ·have hlt':(i:Int)<l.length:=by omega
   have hadd:IntKind.i64.wrap ((i:Int)+1)=((i+1:Nat):Int):=Jx (by omega) (by omega);have hod:=Jjb hlt;have more:¬(l[i]=123/\l[i+1]? =some 123)->∃j,j<k/\∃(i_1 a_1:Nat) (ps:List Prt),j+i_1=l.length/\a_1<=i_1/\ps.length<=a_1/\RecsAt st st1 u 3 ps.length (cellsP ps)/\splitS l 0=(splitS l a_1).map (ps++·)/\openAt (l.drop a_1)=(openAt (l.drop i_1)).map (·+(i_1-a_1))/\V.int .i64 ((i+1:Nat):Int)=V.int .i64 i_1/\V.int .i64 (at_:Nat)=V.int .i64 a_1/\Gr st st1:=by
    intro hne;refine⟨k-1,by omega,i+1,at_,ps,by omega,by omega,hpa,hps,hsp, ?_,rfl,rfl,hg⟩;rw[hop,hod,if_neg hne]
    cases openAt (l.drop (i+1))with
    |none=>rfl
    |some x=>simp;omega
   by_cases hn:i+1<l.length
   ·have hn':¬(l.length:Int)<=((i+1:Nat):Int):=by omega
    have hi0:(0:Int)<=(i:Int)/\(i:Int)<l.length:=by omega
    have hi1:(0:Int)<=((i+1:Nat):Int)/\((i+1:Nat):Int)<l.length:=by omega
    have s0:byteAt l i=123<->l[i]? =some 123:=Jdb 123 hlt;have s1:byteAt l (i+1)=123<->l[i+1]? =some 123:=Jdb 123 hn;rw[List.getElem?_eq_getElem hlt]at s0;by_cases b0:byteAt l i=123
    ·by_cases b1:byteAt l (i+1)=123
     ·have hyes:l[i]=123/\l[i+1]? =some 123:=⟨by have:=s0.1 b0;injection this,s1.1 b1⟩
      have hoi:openAt (l.drop i)=some 0:=by rw[hod,if_pos hyes]
      rw[Jl];simp only[XY,simprocAttr,Jb,h0,h5,h6,hlt',hadd,hn',hi0,hi1,b0];rw[Jl];simp only[XY,simprocAttr,Jb,h0,h5,h6,hlt',hadd,hn',hi0,hi1,b0,b1];refine Qc (fun fr st2=>∃u ps',fr 4=u/\RecsAt st st2 u 3 ps'.length (cellsP ps')/\splitS l 0=(splitS l i).map (ps'++·)/\ps'.length<=i/\fr 0=ofL l/\fr 5= .int .i64 i/\Gr st st2) ?_ ?_
      ·by_cases hia:at_<i
       ·have hia':(at_:Int)<i:=by omega
        obtain⟨v',e,a1,a2,a3⟩:=Jcu hg hps (false,(l.drop at_).take (i-at_),at_) (by omega);simp only[XY,simprocAttr,Jb,h0,h5,h6,hu,hia',JeG,Jct,Jl2,JoS,JbE];refine⟨by omega,Joc a1 ?_⟩;simp only[XY,simprocAttr,Jb,h0,h5,h6];refine⟨v',_,rfl,a2, ?_,by simp;omega,a3⟩;have hm:openAt (l.drop at_)=some (i-at_-1+1):=by rw[hop,hoi];simp;omega
        rw[hsp,Jaf (show at_<l.length by omega),hm];simp only;rw[show at_+(i-at_-1+1)=i by omega,show i-at_-1+1=i-at_ by omega,Option.map_map];congr 1;funext x;simp
       ·have hia':¬(at_:Int)<i:=by omega
        simp only[XY,simprocAttr,Jb,h0,h5,h6,hu,hia'];obtain rfl:at_=i:=by omega
        exact⟨u,ps,rfl,hps,hsp,hpa,hg⟩
      ·rintro fr2 st2 ⟨u,ps',f4,hps',hsp',hpl,f0,f5,hg2⟩;have ha2:IntKind.i64.wrap ((i:Int)+2)=((i+2:Nat):Int):=by rw[Jx (by omega) (by omega)];omega
       simp only[XZ,simprocAttr,f0,f5,ha2];refine Je (endC _ _ _ (by omega) (by omega)) ?_;rintro _ _ ⟨rfl,rfl⟩;have hs1:=Jaf hlt;rw[hoi]at hs1;simp only at hs1
       cases he:endS (l.drop (i+2)) false 0 with
       | none=>
         rw[he]at hs1;have hm1:(-1:Int)<0:=by decide
         simp only[XZ,simprocAttr,endV,hm1];have hs0:splitS l 0=none:=by rw[hsp',hs1];rfl
         exact⟨hg2, .snil,by simp[splitR,hl,hs0],by simp only[splitR,if_neg hl,hs0];exact RecsAt.nil _ _ _⟩
       | some m=>
         rw[he]at hs1;simp only at hs1;obtain⟨e1,_⟩:=Jl1 he;rw[List.length_drop]at e1;simp only[endV];obtain⟨M,hM⟩:∃M:Nat,M=i+2+m:=⟨_,rfl⟩
         rw[<-hM];have hm0:¬((M:Nat):Int)<0:=by omega
         have ha4:IntKind.i64.wrap ((M:Int)+2)=((i+2+m+2:Nat):Int):=by rw[Jx (by omega) (by omega)];omega
         have htk:M-(i+2)=m:=by omega
         obtain⟨v',e,a1,a2,a3⟩:=Jcu hg2 hps' (true,(l.drop (i+2)).take m,i) (by omega);simp only[XZ,simprocAttr,f0,f4,f5,hm0,ha2,ha4,JeG,Jct,JqB,JoS,JbE,htk];refine⟨by omega,Joc a1 ?_⟩;simp only[XZ,simprocAttr,f0,f5,ha4];refine⟨k-(2+m+2),by omega,i+2+m+2,i+2+m+2,ps'++[(true,(l.drop (i+2)).take m,i)],by omega,Nat.le_refl _,by simp;omega,a2, ?_,by simp,rfl,rfl,a3⟩;rw[hsp',hs1,Option.map_map];congr 1;funext x;simp
     ·simp only[XZ,simprocAttr,h0,h5,h6,hu,hlt',hadd,hn',hi0,hi1,b0,b1];exact more (fun h=>b1 (s1.2 h.2))
    ·simp only[XZ,simprocAttr,h0,h5,h6,hu,hlt',hadd,hn',hi0,hi1,b0];exact more (fun h=>b0 (s0.2 (by rw[h.1])))
   ·have hn':(l.length:Int)<=((i+1:Nat):Int):=by omega
    simp only[XZ,simprocAttr,h0,h5,h6,hu,hlt',hadd,hn'];refine more (fun h=> ?_);rw[List.getElem?_eq_none (by omega)]at h
    cases h.2
  ·have hlt':¬(i:Int)<l.length:=by omega
   obtain rfl:i=l.length:=by omega
   have hoi:openAt (l.drop l.length)=none:=by rw[List.drop_length];rfl
   rw[hoi]at hop;rw[Jl];simp only[XY,simprocAttr,Jb,h0,h5,h6,hlt'];refine Qc (fun fr st2=>∃u ps',fr 4=u/\RecsAt st st2 u 3 ps'.length (cellsP ps')/\splitS l 0=some ps'/\Gr st st2) ?_ ?_
   ·by_cases hal:at_<l.length
    ·have hal':(at_:Int)<l.length:=by omega
     obtain⟨v',e,a1,a2,a3⟩:=Jcu hg hps (false,l.drop at_,at_) (by omega);simp only[XY,simprocAttr,Jb,h0,h5,h6,hu,hal',JeG,Jct,Jl2,JoS,JbE];refine⟨by omega,Joc a1 ?_⟩;simp only[XY,simprocAttr,Jb,h0,h5,h6];refine⟨v',_,rfl,a2, ?_,a3⟩;rw[hsp,Jaf hal,hop];rfl
    ·have hal':¬(at_:Int)<l.length:=by omega
     simp only[XY,simprocAttr,Jb,h0,h5,h6,hu,hal'];refine⟨u,ps,rfl,hps, ?_,hg⟩;rw[hsp,JaZ (by omega)];simp
   ·rintro fr2 st2 ⟨u,ps',f4,hps',hs0,hg2⟩;by_cases h200:200<ps'.length
    ·have h200':(200:Int)<ps'.length:=by omega
     simp only[XZ,simprocAttr,f4,hps'.len,h200'];exact⟨hg2, .snil,by simp[splitR,hl,hs0,h200],by simp only[splitR,if_neg hl,hs0,if_pos h200];exact RecsAt.nil _ _ _⟩
    ·have h200':¬(200:Int)<ps'.length:=by omega
     simp only[XZ,simprocAttr,f4,hps'.len,h200'];exact⟨hg2,u,by simp[splitR,hl,hs0,h200],by simp only[splitR,if_neg hl,hs0,if_neg h200];exact hps'⟩
abbrev nd0 :List V:=[.int .i64 0, .int .i64 0,ofL [],ofL [], .snil, .snil, .snil, .bool false, .snil]
abbrev ndN (k at_:Int)(s nm:Str)(pv:V):List V:=[.int .i64 k, .int .i64 at_,ofL s,ofL nm,pv, .snil, .snil, .bool false, .snil]
theorem JjL {es:List (List V)}{z e:List V}{n:Nat}(hes:∀x∈es,x.length=n)(hz:z.length=n)(he:e.length=n):splice (es++[z]).flatten (es.length*n) e=(es++[e]).flatten:=by
 have hl:es.flatten.length=es.length*n:=JC hes;simp only[splice,List.flatten_append,List.flatten_cons,List.flatten_nil,List.append_nil];rw[<-hl,List.take_left,List.drop_append];have:List.drop (es.flatten.length+e.length) es.flatten=[]:=List.drop_eq_nil_of_le (by omega);rw[this];have h2:es.flatten.length+e.length-es.flatten.length=z.length:=by omega
 rw[h2,List.drop_length];simp
structure Ps (Sb S:St) (p:Pt) (mv:V) (main:List (List V)):Prop where
 g:Gr Sb S
 pn:Sb.row p= .none
 c:∃t,S.row p= .cells t [.snil,mv, .snil, .int .i64 0]
 m:SlF Sb S mv 9 main
 am:rowOf mv≠some p
theorem Ps.gr {Sb S S':St}{p:Pt}{mv:V}{main:List (List V)}(h:Ps Sb S p mv main)(g:Gr S S'):Ps Sb S' p mv main:=⟨h.g.trans g,h.pn,h.c.imp fun t c=>g.cells c,h.m.gr g,h.am⟩
def one0 :St:=St.start.new fun t=> .dead t
noncomputable def actR (s:V):Option Out:=evD (run (tabT tabD) 40) 1000000 (cutC Jy 999 Jv.body) (initFr [.ptr .h 0, .agg [.bool true,s, .opq 0]]) {one0 with low:=1}
noncomputable def actB (s w:V)(kind:Int)(name:V)(pf:St->V->Bool):Bool:=match actR s with
 | some (.exit 999 fr a)=>Nat.ble 1 a.low&&(inT a.nx.num a.h&&(match fr 162,fr 163,fr 164 with
   | .ptr .h 0,w', .agg [.int .i64 k, .opq 0, .str 0 0,nm,pv, .snil, .snil, .bool false, .snil]=>vsame1 w' w&&(decide (k=kind)&&(vsame1 nm name&&pf a pv))
   |_,_,_=>false))
 |_=>false
theorem Jtp {s w:V}{kind:Int}{name:V}{pf:St->V->Bool}(h:actB s w kind name pf=true):∃fr a pv,actR s=some (.exit 999 fr a)/\1<=a.low/\inT a.nx.num a.h=true/\fr 162= .ptr .h 0/\fr 163=w/\
  fr 164= .agg [.int .i64 kind, .opq 0, .str 0 0,name,pv, .snil, .snil, .bool false, .snil]/\pf a pv=true:=by
 unfold actB at h
 split at h
 ·rename_i fr a hr
  rw[Bool.and_eq_true,Bool.and_eq_true]at h;obtain⟨h1,h2,h3⟩:=h
  split at h3
  ·rename_i k nm pv e1 e3
   rw[Bool.and_eq_true,Bool.and_eq_true,Bool.and_eq_true]at h3;obtain⟨k1,k2,k3,k4⟩:=h3;have k2:=of_decide_eq_true k2;refine⟨fr,a,pv,hr,Nat.le_of_ble_eq_true h1,h2,e1, ?_, ?_,k4⟩
   ·exact kH k1
   ·rw[e3,k2,kH k3]
  ·cases h3
 ·cases h
def restP :C:= .seq (.reg [⟨some 165, .call Jy [.s 162, .s 163, .s 164],none,none⟩,⟨some 4, .mv (.s 165),none,none⟩]) .ret
theorem Jph :restC Jy Jv.body=some restP:=by kernel_rfl
theorem JtU :cC (cutC Jy 999 Jv.body)=true:=by kernel_rfl
theorem JtV :noX 999 Jv.body=true:=by kernel_rfl
theorem JtW :oneC Jy Jv.body=true:=by kernel_rfl
theorem actC {s w:V}{kind:Int}{name:V}{pf:St->V->Bool}(h:actB s w kind name pf=true)(hs:closed s=true)(hn:closed name=true)(hcw:closed w=true){S:St}(hw:WF S){p:Pt}(hp:S.row p≠ .none){at_:Int}{Q:V->St->Prop}
  (k:∀(S1:St) (ψ:Rn) (a:St) (pv:V),Gr S S1->ψ .h=p->Hold ψ a S1->(∀q:Pt,1<=q.num->S.row (ψ q)= .none)->ψ.s 0= .int .i64 at_->pf a pv=true->Does (tabT tabD) Jy [.ptr p 0,w, .agg [.int .i64 kind, .int .i64 at_, .str 0 0,name,mv ψ pv, .snil, .snil, .bool false, .snil]] S1 Q):
  Does (tabT tabD) YE [.ptr p 0, .agg [.bool true,s, .int .i64 at_]] S Q:=by
 obtain⟨fr,a,pv,h1,h2,h3,h4,h5,h6,h7⟩:=Jtp h;have H0:=Hold.start (S:=S) (fun _=> .int .i64 at_) (fun _=>⟨_,_,rfl⟩) hw;obtain⟨φ,ag,e1,H⟩:=H0.add (q:=p) (f:=fun t=> .dead t) (fun u=>⟨rfl,by intro e;cases e⟩) hp (fun p h=>absurd h (Nat.not_lt_zero _)) ⟨hp,trivial⟩ rfl rfl;have es:φ.s 0= .int .i64 at_:=by rw[ag.s]
 have e1:φ .h=p:=e1;have:=JoN tabE tabM tabU kV H (args:=[.ptr .h 0, .agg [.bool true,s, .opq 0]]) (n:=40) (g:=Jy) (K:=999) (fr1:=fr) (a1:=a) (c':=restP) (Q:=Q) (by
   simp only[inVs,inV,JeF _ s hs];rfl) JtU JtV JtW Jph h1 h2 h3 fun ψ S1 g ag1 H1 fr1=>by
  have e162:mvF ψ fr 162= .ptr p 0:=by
   show mv ψ (fr 162)=_;rw[h4,mv,ag1.f .h (by decide),e1]
  have e163:mvF ψ fr 163=w:=by
   show mv ψ (fr 163)=_;rw[h5,KU ψ w hcw]
  have e164:mvF ψ fr 164= .agg [.int .i64 kind, .int .i64 at_, .str 0 0,name,mv ψ pv, .snil, .snil, .bool false, .snil]:=by
   show mv ψ (fr 164)=_;rw[h6];simp only[mv,mvs,KU ψ name hn,ag1.s,es]
  unfold restP;rw[Jb];simp only[XY,simprocAttr,e162,e163,e164];refine Je (k S1 ψ a pv g (by rw[ag1.f .h (by decide),e1]) H1 fr1 (by rw[ag1.s,es]) h7) ?_;intro v S2 q;exact q
 simp only[List.map_cons,List.map_nil,mv,mvs,e1,es,KU φ s hs]at this;exact this
noncomputable def fDot (a:St)(pv:V):Bool:=match pv with
 | .slx r1 0 1 1 1=>(match a.row r1 with
   | .cells _ [.slx r2 0 1 7 1]=>(match a.row r2 with
     | .cells _ [.int .i64 1, .str 0 0, .snil, .str 0 0, .int .i64 0, .bool false, .snil]=>true
     |_=>false)
   |_=>false)
 |_=>false
noncomputable def fAdd (a:St)(pv:V):Bool:=match pv with
 | .slx r1 0 1 1 1=>(match a.row r1 with
   | .cells _ [.sl r2 0 3 7]=>(match a.row r2 with
     | .cells _ [.int .i64 6, .str 0 0, .snil,s, .int .i64 0, .bool false, .snil, .int .i64 1, .str 0 0, .snil, .str 0 0, .int .i64 0, .bool false, .snil, .int .i64 3, .str 0 0, .snil, .str 0 0, .int .i64 1, .bool false, .snil]=>vsame1 s (ofL [97,100,100])
     |_=>false)
   |_=>false)
 |_=>false
def pfNil :St->V->Bool:=fun _ pv=>match pv with
 | .snil=>true
 |_=>false
structure Fr7 (φ:Rn) (b b' S S':St):Prop where
 mono:Mono S S'
 same:∀s,S.row s≠ .none->(∀p:Pt,b.row p≠ .none->b'.row p≠b.row p->φ p≠s)->S'.row s=S.row s
theorem Fr7.gr {φ:Rn}{b b' S S1 S':St}(g:Gr S S1)(h:Fr7 φ b b' S1 S'):Fr7 φ b b' S S':=
 ⟨g.mono.trans h.mono,fun s e n=>by rw[h.same s (by rw[g.same s e];exact e) n,g.same s e]⟩
def pf1 (pf:St->V->Bool)(a:St)(pv:V):Bool:=pf a pv&&(match pv with
 | .slx r 0 1 1 1=>Nat.blt r.num a.nx.num&&((match a.row r with
   | .cells _ _=>true
   |_=>false)&&(match a.row .h with
   | .dead _=>true
   |_=>false))
 |_=>false)
theorem Jpi {pf:St->V->Bool}{a:St}{pv:V}(h:pf1 pf a pv=true):pf a pv=true/\∃r t l u,pv= .slx r 0 1 1 1/\r.num<a.nx.num/\a.row r= .cells t l/\a.row .h= .dead u:=by
 unfold pf1 at h;rw[Bool.and_eq_true]at h;obtain⟨h1,h2⟩:=h
 split at h2
 ·rename_i r
  rw[Bool.and_eq_true,Bool.and_eq_true]at h2;obtain⟨k1,k2,k3⟩:=h2
  split at k2
  ·rename_i t l hr
   split at k3
   ·rename_i u hu
    exact⟨h1,r,t,l,u,rfl,Nat.le_of_ble_eq_true k1,hr,hu⟩
   ·cases k3
  ·cases k2
 ·cases h2
structure TS (W:Pt->Prop) (n0:Nat) (S0:St) (φ:Rn) (b S:St):Prop where
 H:Hold φ b S
 le:n0<=b.nx.num
 mono:Mono S0 S
 keep:∀s,S0.row s≠ .none->¬W s->S.row s=S0.row s
 live:∀s,S0.row s≠ .none->S.row s≠ .none
 fresh:∀q:Pt,n0<=q.num->b.row q≠ .none->S0.row (φ q)= .none
theorem TS.start {W:Pt->Prop}{φ:Rn}{b S:St}(H:Hold φ b S):TS W b.nx.num S φ b S:=⟨H,Nat.le_refl _,Mono.refl H.wf,fun _ _ _=>rfl,fun _ h=>h,fun q hq h=>absurd (H.none h) (by omega)⟩
theorem TS.next {W:Pt->Prop}{n0:Nat}{S0 S S':St}{φ ψ:Rn}{b b':St}(T:TS W n0 S0 φ b S)(F:Fr7 φ b b' S S')(hle:b.nx.num<=b'.nx.num)(ag:Agr b.nx.num φ ψ)(H:Hold ψ b' S')(fr:∀q:Pt,b.nx.num<=q.num->S.row (ψ q)= .none)
  (low:∀q:Pt,q.num<n0->b.row q≠ .none->b'.row q≠b.row q->W (φ q)):TS W n0 S0 ψ b' S':=by
 refine⟨H,Nat.le_trans T.le hle,T.mono.trans F.mono,fun s hs hw=> ?_,fun s hs=> ?_,fun q hq hb=> ?_⟩
 ·rw[F.same s (T.live s hs) fun q hq hc e=> ?_,T.keep s hs hw];by_cases c:q.num<n0
  ·exact hw (e▸low q c hq hc)
  ·have:=T.fresh q (by omega) hq;rw[e]at this;exact hs this
 ·by_cases c:S'.row s=S.row s
  ·rw[c];exact T.live s hs
  ·exact(F.mono.row s c).2
 ·by_cases c:q.num<b.nx.num
  ·rw[ag.f q c];by_cases d:b.row q= .none
   ·have h1:=T.H.row q c;rw[d]at h1;have h1:S.row (φ q)= .none:=h1;exact Classical.byContradiction fun x=>T.live _ x h1
   ·exact T.fresh q hq d
  ·have:=fr q (by omega);exact Classical.byContradiction fun x=>T.live _ x this
def StepsD (Sb:St)(p:Pt):List Prt->St->(St->Prop)->Prop
 |[],S,Q=>Q S
 |x::r,S,Q=>Does (tabT tabD) (if x.1 then YE else jK) [.ptr p 0, .agg [.bool x.1,ofL x.2.1, .int .i64 x.2.2]] S fun v S'=>v= .int .i64 0/\WF S'/\(∀q,Sb.row q≠ .none->S'.row q=S.row q)/\StepsD Sb p r S' Q
structure PEnd (Sb S:St) (p:Pt) (mv:V) (tp:List (List V)):Prop where
 wf:WF S
 c:∃t ov lv,S.row p= .cells t [ov,mv,lv, .int .i64 0]/\lenLV ov=some (.int .i64 0, .no)/\SlAt (fun _=>True) S lv 2 tp
 m:mv.sc=true
 two:0<tp.length/\tp.length<100/\okC tp
def cell3 (x:Prt):List V:=[.bool x.1,ofL x.2.1, .int .i64 x.2.2]
theorem JjM (ps:List Prt):cellsP ps=(ps.map cell3).flatten:=by
 induction ps with
 |nil=>rfl
 |cons x r ih=>simp only[List.map_cons,List.flatten_cons,<-ih];rfl
theorem JqS {S Sb:St}{u:V}{ps:List Prt}(h:RecsAt S Sb u 3 ps.length (cellsP ps)):SlAt (fun r=>Sb.row r≠ .none) Sb u 3 (ps.map cell3):=by
 refine⟨fun e he=> ?_, ?_⟩
 ·obtain⟨x,_,rfl⟩:=List.mem_map.1 he;rfl
 ·rcases h.2 with⟨h1,h2⟩|⟨r,t,h1,h2,_⟩
  ·exact .inl ⟨h1,by rw[List.length_eq_zero_iff.1 h2];rfl⟩
  ·refine .inr ⟨r,0,Jd h2, .inl (by rw[h1];simp),cellsP ps, .inl ⟨t,h2⟩,by rw[h.1];simp, ?_⟩;rw[List.drop_zero,<-JjM,List.length_map,<-h.1,List.take_length]
def clE (x:Str×Nat):List V:=[ofL x.1, .int .i64 (x.2:Nat)]
structure Wk0 (Sb S:St) (w:Pt) (tv nv cv:V) (at_:Int) (calls:List (Str×Nat)):Prop where
 g:Gr Sb S
 wn:Sb.row w= .none
 c:∃t,S.row w= .cells t [tv,nv,cv, .int .i64 at_]
 l:SlF Sb S cv 2 (calls.map clE)
 aw:rowOf cv≠some w
theorem Wk0.gr {Sb S S':St}{w:Pt}{tv nv cv:V}{at_:Int}{calls:List (Str×Nat)}(h:Wk0 Sb S w tv nv cv at_ calls)(g:Gr S S'):Wk0 Sb S' w tv nv cv at_ calls:=⟨h.g.trans g,h.wn,h.c.imp fun t c=>g.cells c,h.l.gr g,h.aw⟩
abbrev mWd :V:=ofL [109,97,116,99,104]
abbrev opR (at0:Int)(pv0 ev:V)(he:Bool)(cv:V)(way:Int):List V:=[mWd, .int .i64 8, .int .i64 at0,ofL [],ofL [],pv0, .snil,ev, .bool he,cv, .int .i64 way,ofL []]
structure PM (Sb S:St) (p q:Pt) (at0:Int) (pv0:V) (way:Int) (cv:V) (cs:List (List V)):Prop where
 g:Gr Sb S
 pn:Sb.row p= .none
 qn:Sb.row q= .none
 pq:p≠q
 c:∃t,S.row p= .cells t [.sl q 0 1 12, .snil, .snil, .int .i64 0]
 o:∃t,S.row q= .cells t (opR at0 pv0 .snil false cv way)
 m:SlF Sb S cv 2 cs
 am:rowOf cv≠some p
 aq:rowOf cv≠some q
theorem PM.gr {Sb S S':St}{p q:Pt}{at0:Int}{pv0:V}{way:Int}{cv:V}{cs:List (List V)}(h:PM Sb S p q at0 pv0 way cv cs)(g:Gr S S'):PM Sb S' p q at0 pv0 way cv cs:=⟨h.g.trans g,h.pn,h.qn,h.pq,h.c.imp fun t c=>g.cells c,h.o.imp fun t c=>g.cells c,h.m.gr g,h.am,h.aq⟩
theorem Jhw {st:St}{P:Pt->Prop}{vx:V}{z:Nat}{xs:List (List V)}(hx:SlAt P st vx z xs)(hok:okC xs)(h0:xs≠[])(hn:xs.length<2^20):appV st z .snil vx=some (.sl st.nx 0 xs.length z, .new fun t=> .cells t xs.flatten):=by
 have h0:¬xs.length=0:=fun e=>h0 (List.length_eq_zero_iff.1 e);unfold appV;rw[hx.slen];simp only[hx.all];rw[if_pos ⟨hn,hok.flat⟩];unfold JV;rw[if_neg h0]
end Go.Proofs.YtcgiahehkobpcaaGreat
