/- The parser's stack: what begins. The parser's stack: a case begins. The parser's stack: -/
import Derived.Test.YtcgiahehkobpcaaGreatQ4
set_option maxHeartbeats 4000000
set_option linter.unusedVariables false
set_option linter.unusedSimpArgs false
set_option linter.unusedSectionVars false
set_option maxRecDepth 100000
namespace Go.Proofs.YtcgiahehkobpcaaGreat
open Eva Go.RowKit
abbrev frO (w:Str)(k at_:Int)(pv cv:V)(way:Int):List V:=[ofL w, .int .i64 k, .int .i64 at_,ofL [],ofL [],pv, .snil, .snil, .bool false,cv, .int .i64 way,ofL []]
structure PO (Sb S:St) (p:Pt) (ov:V) (fs:List (List V)):Prop where
 g:Gr Sb S
 pn:Sb.row p= .none
 c:∃t,S.row p= .cells t [ov, .snil, .snil, .int .i64 0]
 m:SlF Sb S ov 12 fs
 am:rowOf ov≠some p
theorem PO.gr {Sb S S':St}{p:Pt}{ov:V}{fs:List (List V)}(h:PO Sb S p ov fs)(g:Gr S S'):PO Sb S' p ov fs:=⟨h.g.trans g,h.pn,h.c.imp fun t c=>g.cells c,h.m.gr g,h.am⟩
def TopOk (fs:List (List V)):Prop:=fs=[]\/∃f w k at_ pv cv way,fs=f++[frO w k at_ pv cv way]/\way≠3
theorem beginO {Sb S:St}{p:Pt}{ov:V}{fs:List (List V)}{w:Str}{k at_ way:Int}{pv:V}(h:PO Sb S p ov fs)(ht:TopOk fs)(hn:fs.length<12)(hpv:pv.sc=true)(hw':¬w=[100,101,102,105,110,101]):
  Does (tabT tabD) jp [.ptr p 0,ofL w, .agg (ndN k at_ [] [] pv), .int .i64 way,ofL []] S fun v S'=>Ch (fun r=>r=p\/rowOf ov=some r) S S'/\v= .int .i64 0/\∃ov',PO Sb S' p ov' (fs++[frO w k at_ pv .snil way])/\∀r,rowOf ov'=some r->S.row r= .none:=by
 refine YU tabM ja rfl h.g.wf fun K fin=> ?_;obtain⟨tp,rp⟩:=h.c;have hw:=h.g.wf;have pc:pv.cells=some [pv]:=by cases pv<;>first|rfl|(cases hpv;done)
 obtain⟨n0,hn0⟩:=nxE S;simp only[JS,XY,simprocAttr];rw[Jb];simp only[XY,simprocAttr,hn0,hpv,pc];refine JM ?_;intro S1 hS1;have G1:Gr S S1:=by rw[hS1];exact Gr.new hw (Ja _)
 obtain⟨p7,hp7⟩:=exE (up 0 n0);obtain⟨t7,r7⟩:∃t,S1.row p7= .cells t (ndN k at_ [] [] pv):=⟨_,by rw[hS1,hp7];simp only[XZ,simprocAttr,hn0];rfl⟩
 rw[<-hp7];clear hS1;have rp1:=G1.cells rp;have h1:=h.gr G1;have lo:=h1.m.at.len;have so:=h1.m.at.sc;have w1:=G1.wf;obtain⟨n1,hn1⟩:=nxE S1;have op1:=fun k=>nes (JE w1 hn1 (Jd rp1) k);have hge:¬(12:Int)<=fs.length:=by omega
 obtain⟨I,hI⟩:=opE fun fr S'=>fr 0= .ptr p 0/\fr 1=ofL w/\fr 3= .int .i64 way/\fr 4=ofL []/\fr 7= .ptr p7 0/\S'=S1;refine Qc I ?_ ?_
 ·rcases ht with rfl|⟨f,w0,k0,at0,pv0,cv0,way0,rfl,hw3⟩
  ·have lo:lenLV ov=some (.int .i64 0, .no):=lo;rw[Jb];simp only[XY,simprocAttr,rp1,lo,hw'];exact(hI _ _).2 ⟨rfl,rfl,rfl,rfl,rfl,rfl⟩
  ·have hl:(f++[frO w0 k0 at0 pv0 cv0 way0]).length=f.length+1:=by simp
   rw[hl]at lo hn;obtain⟨r,q,a1,_,_,_,a5⟩:=h1.m.at.elem (i:=f.length) (by omega);have a5:ld1 (S1.row r) (q+10)=some (.int .i64 way0, .no):=by
    have:=a5 10 (by simp);simpa using this
   have hgt:(0:Int)<((f.length+1:Nat):Int):=by omega
   have hsub:IntKind.i64.wrap (((f.length+1:Nat):Int)-1)=((f.length:Nat):Int):=by rw[Jx (by omega) (by omega)];omega
   rw[Jb];simp only[XY,simprocAttr,rp1,lo,hw',hgt,hsub,a1,a5,hw3];exact(hI _ _).2 ⟨rfl,rfl,rfl,rfl,rfl,rfl⟩
 intro fr S2 hIf;obtain⟨f0,f1,f3,f4,f7,rfl⟩:=(hI _ _).1 hIf;rw[Jl,Jb];simp only[XY,simprocAttr,f0,rp1,lo,hge];rw[Jb];simp only[XY,simprocAttr,f0,f1,f3,f4,f7,rp1,r7,hn1,op1,hpv,pc];obtain⟨A2,hA2⟩:=exE (S2.new fun t=>Row.cells t (frO w k at_ pv .snil way));have ga2:Gr S2 A2:=by rw[hA2];exact Gr.new w1 (Ja _)
 have hone:SlAt (fun r=>r=up 0 n1) A2 (.slx (up 0 n1) 0 1 12 1) 12 [frO w k at_ pv .snil way]:=by
  have:=kP (st:=S2) (z:=12) (e:=frO w k at_ pv .snil way) rfl
  rwa [hn1,<-hA2]at this
 rw[<-hA2];clear hA2;have rp2:=ga2.cells rp1;refine Jab (S0:=Sb) (h1.g.trans ga2) (h1.m.gr ga2) hone (fun e he=>by rw[List.mem_singleton.1 he];simp only[frO,allSc,List.all_cons,List.all_nil,hpv];rfl) (by simp) (by simp) (by simp;omega) ?_;intro A3 ov3 g3 h3 rv3 kp3;have rp3:A3.row p= .cells tp [ov, .snil, .snil, .int .i64 0]:=(kp3 p (Jd rp2) h.am).trans rp2;have sc3:=h3.at.sc;have cl3:=h3.at.cells;simp only[XY,simprocAttr,rp3,cl3,sc3];have new:∀{r:Pt},rowOf ov3=some r->A2.row r= .none:=fun{r} e=>by
  rw[rv3]at e;injection e with e;rw[<-e,Q3 ga2.wf]
 have np:∀{r:Pt},rowOf ov3=some r->r≠p:=fun{r} e c=>Jd rp2 (by rw[<-c];exact new e);have old:∀{r:Pt},S.row r≠ .none->A2.row r=S.row r:=fun{r} e=>(G1.trans ga2).same r e;rw[Jb];simp only[XZ,simprocAttr];refine fin _ _ (fun r e hW=> ?_) fun _=>⟨rfl,ov3,⟨g3.wr h.pn (Jd rp3) (by rw[rp3];rfl) (Ja _),h.pn,⟨_,by rw[Jo,if_pos rfl]⟩,h3.keep fun r e=>by rw[Jo,if_neg (np e)],fun e=>np e rfl⟩,fun r e=>Classical.byContradiction fun c=>c (by rw[<-old c];exact new e)⟩
 rw[Jo,if_neg fun c=>hW (.inl c),kp3 r (by rw[old e];exact e) fun c=>hW (.inr c),old e]
theorem placeO {Sb S:St}{p:Pt}{ov:V}{fs:List (List V)}{w:Str}{k at_ way:Int}{pv:V}(h:PO Sb S p ov fs)(ht:TopOk fs)(hn:fs.length<12)(hpv:pv.sc=true)(hk:(w=[114,97,110,103,101]/\way=0)\/(w=[119,105,116,104]/\way=0)\/(w=[109,97,116,99,104]/\way=3)):
  Does (tabT tabD) Jy [.ptr p 0,ofL w, .agg (ndN k at_ [] [] pv)] S fun v S'=>Ch (fun r=>r=p\/rowOf ov=some r) S S'/\v= .int .i64 0/\∃ov',PO Sb S' p ov' (fs++[frO w k at_ pv .snil way])/\∀r,rowOf ov'=some r->S.row r= .none:=by
 refine YU tabM Qu rfl h.g.wf fun K fin=> ?_;have hw:=h.g.wf;have pc:pv.cells=some [pv]:=by cases pv<;>first|rfl|(cases hpv;done)
 obtain⟨n0,hn0⟩:=nxE S;simp only[JB,XY,simprocAttr];rw[Jb];simp only[XY,simprocAttr,hn0,hpv,pc];refine JM ?_;intro S1 hS1;have G1:Gr S S1:=by rw[hS1];exact Gr.new hw (Ja _)
 obtain⟨p3,hp3⟩:=exE (up 0 n0);obtain⟨t3,r3⟩:∃t,S1.row p3= .cells t (ndN k at_ [] [] pv):=⟨_,by rw[hS1,hp3];simp only[XZ,simprocAttr,hn0];rfl⟩
 rw[<-hp3];clear hS1;have h1:=h.gr G1;rcases hk with⟨rfl,rfl⟩|⟨rfl,rfl⟩|⟨rfl,rfl⟩
 all_goals
  simp only[XZ,simprocAttr,List.cons.injEq,and_false,false_and,and_true,true_and,List.cons_ne_nil,reduceCtorEq,r3];refine Je (beginO h1 ht hn hpv (by decide)) ?_;rintro _ S3 ⟨C3,rfl,ov',P3,f3⟩;simp only[XZ,simprocAttr];refine fin _ _ (fun r e hW=> ?_) fun _=>⟨rfl,ov',P3,fun q hq=>Classical.byContradiction fun c=>c (by rw[<-G1.same q c];exact f3 q hq)⟩
  rw[C3.same r (by rw[G1.same r e];exact e) hW,G1.same r e]
theorem Jmi {f:List (List V)}{e:List V}{j:Nat}{x:V}(hf:∀a∈f,a.length=12)(hj:j<e.length):splice (f++[e]).flatten (f.length*12+j) [x]=(f++[splice e j [x]]).flatten:=by
 have hl:=JC hf;simp only[splice,List.flatten_append,List.flatten_cons,List.flatten_nil,List.append_nil,List.length_cons,List.length_nil,<-hl];rw[List.take_append,List.take_of_length_le (by omega),List.drop_append,List.drop_eq_nil_of_le (by omega),show f.flatten.length+j-f.flatten.length=j by omega,show f.flatten.length+j+(0+1)-f.flatten.length=j+(0+1) by omega];simp
theorem JkF {f:List (List V)}{e:List V}{j t:Nat}(hf:∀a∈f,a.length=12)(hj:j<e.length):ld1 (.cells t (f++[e]).flatten) (f.length*12+j)=some (e[j], .no):=by
 have hl:=JC hf;have:(f++[e]).flatten[f.length*12+j]? =some e[j]:=by
  rw[List.flatten_append,List.getElem?_append_right (by omega),hl,show f.length*12+j-f.length*12=j by omega];simp[hj]
 rw[jx,this];rfl
theorem PO.top {Sb S:St}{p:Pt}{ov:V}{f:List (List V)}{e:List V}(h:PO Sb S p ov (f++[e])):∃q t,rowOf ov=some q/\q≠p/\Sb.row q= .none/\S.row q= .cells t (f++[e]).flatten/\lenLV ov=some (.int .i64 ((f.length+1:Nat):Int), .no)/\iaddrSV 12 ov (.int .i64 (f.length:Nat))=some (.ptr q (f.length*12), .no)/\(∀a∈f,a.length=12)/\e.length=12:=by
 have hl:(f++[e]).length=f.length+1:=by simp
 have lo:=h.m.at.len;rw[hl]at lo;have h12:=h.m.1;rcases h.m.2 with⟨_,c⟩|⟨q,t,k1,k2,k3⟩
 ·simp at c
 rw[hl]at k3;have hq:rowOf ov=some q:=by rcases k3 with c|c<;>(rw[c];rfl)
 refine⟨q,t,hq,fun c=>h.am (by rw[<-c];exact hq),k1,k2,lo, ?_,fun a ha=>h12 a (List.mem_append_left _ ha),h12 e (by simp)⟩;rcases k3 with c|c
 ·rw[c,Yg,if_pos (by omega)];simp
 ·rw[c,Yn,if_pos (by omega)];simp
theorem otherO {Sb S:St}{p:Pt}{ov:V}{f:List (List V)}{k at_:Int}{pv:V}{tag:Str}(h:PO Sb S p ov (f++[frO [109,97,116,99,104] k at_ pv .snil 3]))(hn:f.length<12):
  Does (tabT tabD) jq [.ptr p 0,ofL [99,97,115,101],ofL tag] S fun v S'=>Ch (fun r=>rowOf ov=some r) S S'/\v= .int .i64 0/\∃rc,S.row rc= .none/\(∃t,S'.row rc= .cells t [ofL tag, .snil])/\PO Sb S' p ov (f++[frO [109,97,116,99,104] k at_ pv (.sl rc 0 1 2) 2]):=by
 refine YU tabM jb rfl h.g.wf fun K fin=> ?_;obtain⟨tp,rp⟩:=h.c;obtain⟨q,tq,hq,qp,qn,rq,lo,io,hf,_⟩:=h.top;have hw:=h.g.wf;obtain⟨n0,hn0⟩:=nxE S;have op:=fun k=>nes (JE hw hn0 (Jd rp) k);have oq:=fun k=>nes (JE hw hn0 (Jd rq) k);have hne:¬((f.length+1:Nat):Int)=0:=by omega
 have hsub:IntKind.i64.wrap (((f.length+1:Nat):Int)-1)=((f.length:Nat):Int):=by rw[Jx (by omega) (by omega)];omega
 have d0:ld1 (S.row q) (f.length*12)=some (ofL [109,97,116,99,104], .no):=by rw[rq];exact JkF (j:=0) hf (by simp)
 have d8:ld1 (S.row q) (f.length*12+8)=some (.bool false, .no):=by rw[rq];exact JkF hf (by simp)
 have d9:ld1 (S.row q) (f.length*12+9)=some (.snil, .no):=by rw[rq];exact JkF hf (by simp)
 simp only[JT,XY,simprocAttr];rw[Jb];simp only[XY,simprocAttr];rw[Jl,Jb];simp only[XY,simprocAttr,rp,lo,hne];rw[Jb];simp only[XY,simprocAttr,rp,lo,hsub,io];have e17:f.length*12+1+7=f.length*12+8:=rfl;have e18:f.length*12+1+8=f.length*12+9:=rfl;rw[Jl,Jb];simp only[XY,simprocAttr,d0,d8,e17,e18,List.cons.injEq,and_false,false_and,and_true,true_and,List.cons_ne_nil,reduceCtorEq];rw[Jl,Jb];simp only[XY,simprocAttr,List.cons.injEq,and_false,false_and,and_true,true_and,List.cons_ne_nil,reduceCtorEq];rw[Jb];simp only[XY,simprocAttr,d9,e17,e18,hn0,op,oq];obtain⟨A2,hA2⟩:=exE (S.new fun t=>Row.cells t [ofL tag,V.snil]);have ga2:Gr S A2:=by rw[hA2];exact Gr.new hw (Ja _)
 have hone:SlAt (fun r=>r=up 0 n0) A2 (.slx (up 0 n0) 0 1 2 1) 2 [[ofL tag, .snil]]:=by
  have:=kP (st:=S) (z:=2) (e:=[ofL tag, .snil]) rfl
  rwa [hn0,<-hA2]at this
 rw[<-hA2];clear hA2;have rq2:=ga2.cells rq;have rp2:=ga2.cells rp;have happ:=Jhw hone (fun e he=>by rw[List.mem_singleton.1 he];rfl) (by simp) (by simp);obtain⟨n2,hn2⟩:=nxE A2;simp only[List.length_cons,List.length_nil,List.flatten_cons,List.flatten_nil,List.append_nil,Nat.zero_add,hn2]at happ;obtain⟨rc,hrc⟩:=exE (up 0 n2);rw[<-hrc]at happ;have rcn:A2.row rc= .none:=by rw[hrc];exact nx0 ga2.wf hn2 0
 obtain⟨A3,hA3⟩:=exE (A2.new fun t=>Row.cells t [ofL tag,V.snil]);have ga3:Gr A2 A3:=by rw[hA3];exact Gr.new ga2.wf (Ja _)
 have c3:A3.row rc= .cells A2.t [ofL tag, .snil]:=by rw[hA3,hrc,<-hn2,Kb,if_pos rfl]
 have rp3:=ga3.cells rp2;have rq3:=ga3.cells rq2;have G3:=h.g.trans (ga2.trans ga3);have rcq:rc≠q:=fun e=>Jd rq2 (by rw[<-e];exact rcn);have rcp:rc≠p:=fun e=>Jd rp2 (by rw[<-e];exact rcn);have rcS:S.row rc= .none:=Classical.byContradiction fun c=>(by rw[ga2.same rc c];exact c:A2.row rc≠ .none) rcn;rw[happ,JbF,Jcn,<-hA3,Jiy];have F:(f++[frO [109,97,116,99,104] k at_ pv .snil 3]).flatten.length=f.length*12+12:=by
  have:=JC hf;simp[this]
 have hle9:f.length*12+9+1<=(f++[frO [109,97,116,99,104] k at_ pv .snil 3]).flatten.length:=by omega
 have sp9:splice (f++[frO [109,97,116,99,104] k at_ pv .snil 3]).flatten (f.length*12+9) [.sl rc 0 1 2]=(f++[frO [109,97,116,99,104] k at_ pv (.sl rc 0 1 2) 3]).flatten:=Jmi hf (by simp);simp only[XN,simprocAttr,rq3,hle9,e18];rw[sp9];obtain⟨A4,hA4⟩:=exE (A3.wr q tq fun u=>Row.cells u (f++[frO [109,97,116,99,104] k at_ pv (.sl rc 0 1 2) 3]).flatten);have r4:A4.row q= .cells A3.t (f++[frO [109,97,116,99,104] k at_ pv (.sl rc 0 1 2) 3]).flatten:=by rw[hA4,Jo,if_pos rfl]
 have k4:∀r,r≠q->A4.row r=A3.row r:=fun r e=>by rw[hA4,Jo,if_neg e]
 have g4:Gr Sb A4:=by rw[hA4];exact G3.wr qn (Jd rq3) (by rw[rq3];rfl) (Ja _)
 rw[<-hA4];clear hA4;have F4:(f++[frO [109,97,116,99,104] k at_ pv (.sl rc 0 1 2) 3]).flatten.length=f.length*12+12:=by
  have:=JC hf;simp[this]
 have hle10:f.length*12+10+1<=(f++[frO [109,97,116,99,104] k at_ pv (.sl rc 0 1 2) 3]).flatten.length:=by omega
 have sp10:splice (f++[frO [109,97,116,99,104] k at_ pv (.sl rc 0 1 2) 3]).flatten (f.length*12+10) [.int .i64 2]=(f++[frO [109,97,116,99,104] k at_ pv (.sl rc 0 1 2) 2]).flatten:=Jmi hf (by simp);rw[Jb];simp only[XN,simprocAttr,r4,hle10];rw[sp10];rw[Jb];simp only[XZ,simprocAttr];refine fin _ _ (fun r e hW=> ?_) fun _=>⟨rfl,rc,rcS,⟨_,by rw[Jo,if_neg rcq,k4 rc rcq,c3]⟩,⟨g4.wr qn (Jd r4) (by rw[r4];rfl) (Ja _),h.pn,⟨tp,by rw[Jo,if_neg (Ne.symm qp),k4 p (Ne.symm qp),rp3]⟩,⟨?_, .inr ⟨q,A4.t,qn,by rw[Jo,if_pos rfl], ?_⟩⟩,h.am⟩⟩
 ·have rq:r≠q:=fun c=>hW (by rw[c];exact hq);rw[Jo,if_neg rq,k4 r rq,(ga2.trans ga3).same r e]
 ·intro a ha;rcases List.mem_append.1 ha with ha|ha
  ·exact hf a ha
  ·rw[List.mem_singleton.1 ha];rfl
 ·rcases h.m.2 with⟨_,c⟩|⟨q',t',k1,k2,k3⟩
  ·simp at c
  ·have e:q'=q:=by rcases k3 with c|c<;>(rw[c]at hq;injection hq)
   subst e;simpa using k3
structure PJ (Sb S:St) (p q:Pt) (ov:V) (fs:List (List V)) (J:List V):Prop where
 g:Gr Sb S
 pn:Sb.row p= .none
 qn:Sb.row q= .none
 qp:q≠p
 c:∃t,S.row p= .cells t [ov, .snil, .snil, .int .i64 0]
 o:∃t,S.row q= .cells t (fs.flatten++J)
 l:∀e∈fs,e.length=12
 v:ov= .sl q 0 fs.length 12\/∃m,fs.length<=m/\ov= .slx q 0 fs.length 12 m
theorem PJ.gr {Sb S S':St}{p q:Pt}{ov:V}{fs:List (List V)}{J:List V}(h:PJ Sb S p q ov fs J)(g:Gr S S'):PJ Sb S' p q ov fs J:=⟨h.g.trans g,h.pn,h.qn,h.qp,h.c.imp fun t c=>g.cells c,h.o.imp fun t c=>g.cells c,h.l,h.v⟩
theorem splJ {f:List (List V)}{e J:List V}{j:Nat}{x:V}(hf:∀a∈f,a.length=12)(hj:j<e.length):splice ((f++[e]).flatten++J) (f.length*12+j) [x]=(f++[splice e j [x]]).flatten++J:=by
 have hl:=JC hf;have hj':j+1<=e.length:=hj;simp only[splice,List.flatten_append,List.flatten_cons,List.flatten_nil,List.append_nil,List.length_cons,List.length_nil,<-hl,List.append_assoc];rw[List.take_append,List.take_of_length_le (by omega),List.drop_append,List.drop_eq_nil_of_le (by omega),show f.flatten.length+j-f.flatten.length=j by omega,show f.flatten.length+j+(0+1)-f.flatten.length=j+(0+1) by omega,List.take_append_of_le_length (by omega),List.drop_append_of_le_length (by omega)];simp
theorem ldJ {f:List (List V)}{e J:List V}{j t:Nat}(hf:∀a∈f,a.length=12)(hj:j<e.length):ld1 (.cells t ((f++[e]).flatten++J)) (f.length*12+j)=some (e[j], .no):=by
 have hl:=JC hf;have:((f++[e]).flatten++J)[f.length*12+j]? =some e[j]:=by
  rw[List.flatten_append,List.append_assoc,List.getElem?_append_right (by omega),hl,show f.length*12+j-f.length*12=j by omega];simp[List.getElem?_append_left,hj]
 rw[jx,this];rfl
abbrev frB (w:Str)(k at_:Int)(pv b cv:V)(way:Int):List V:=[ofL w, .int .i64 k, .int .i64 at_,ofL [],ofL [],pv,b, .snil, .bool false,cv, .int .i64 way,ofL []]
theorem putB {Sb S:St}{p q:Pt}{ov:V}{f:List (List V)}{J:List V}{w:Str}{k at_ k1 at1:Int}{pv cv pv1 b1 el1 cv1:V}{he1:Bool}(h:PJ Sb S p q ov (f++[frB w k at_ pv .snil cv 0]) J)(hn:f.length<12)
  (s0:pv1.sc=true) (s1:b1.sc=true) (s2:el1.sc=true) (s3:cv1.sc=true):
  Does (tabT tabD) Jz [.ptr p 0, .agg [.int .i64 k1, .int .i64 at1,ofL [],ofL [],pv1,b1,el1, .bool he1,cv1]] S fun v S'=>Ch (fun r=>r=q) S S'/\v= .bool true/\∃rb,S.row rb= .none/\(∃t,S'.row rb= .cells t [.int .i64 k1, .int .i64 at1,ofL [],ofL [],pv1,b1,el1, .bool he1,cv1])/\PJ Sb S' p q ov (f++[frB w k at_ pv (.sl rb 0 1 9) cv 0]) J:=by
 refine YU tabM Ym rfl h.g.wf fun K fin=> ?_;obtain⟨tp,rp⟩:=h.c;obtain⟨tq,rq⟩:=h.o;have hw:=h.g.wf;have c0:pv1.cells=some [pv1]:=by cases pv1<;>first|rfl|(cases s0;done)
 have c1:b1.cells=some [b1]:=by cases b1<;>first|rfl|(cases s1;done)
 have c2:el1.cells=some [el1]:=by cases el1<;>first|rfl|(cases s2;done)
 have c3:cv1.cells=some [cv1]:=by cases cv1<;>first|rfl|(cases s3;done)
 have hf:∀a∈f,a.length=12:=fun a ha=>h.l a (List.mem_append_left _ ha);have hL:(f++[frB w k at_ pv .snil cv 0]).length=f.length+1:=by simp
 have hv:=h.v;rw[hL]at hv;have lo:lenLV ov=some (.int .i64 ((f.length+1:Nat):Int), .no):=by rcases hv with e|⟨m,_,e⟩<;>(rw[e];rfl)
 have io:iaddrSV 12 ov (.int .i64 (f.length:Nat))=some (.ptr q (f.length*12), .no):=by
  rcases hv with e|⟨m,_,e⟩
  ·rw[e,Yg,if_pos (by omega)];simp
  ·rw[e,Yn,if_pos (by omega)];simp
 have hne:¬((f.length+1:Nat):Int)=0:=by omega
 have hsub:IntKind.i64.wrap (((f.length+1:Nat):Int)-1)=((f.length:Nat):Int):=by rw[Jx (by omega) (by omega)];omega
 obtain⟨n0,hn0⟩:=nxE S;simp only[JL,XY,simprocAttr];rw[Jb];simp only[XY,simprocAttr,hn0,s0,s1,s2,s3,c0,c1,c2,c3];refine JM ?_;intro S1 hS1;have G1:Gr S S1:=by rw[hS1];exact Gr.new hw (Ja _)
 obtain⟨p3,hp3⟩:=exE (up 0 n0);obtain⟨t3,r3⟩:∃t,S1.row p3= .cells t [.int .i64 k1, .int .i64 at1,ofL [],ofL [],pv1,b1,el1, .bool he1,cv1]:=⟨_,by rw[hS1,hp3];simp only[XZ,simprocAttr,hn0];rfl⟩
 rw[<-hp3];clear hS1;have rp1:=G1.cells rp;have rq1:=G1.cells rq;have w1:=G1.wf;obtain⟨n1,hn1⟩:=nxE S1;have o3:=fun k=>nes (JE w1 hn1 (Jd r3) k);have op1:=fun k=>nes (JE w1 hn1 (Jd rp1) k);have oq1:=fun k=>nes (JE w1 hn1 (Jd rq1) k);have d10:ld1 (S1.row q) (f.length*12+10)=some (.int .i64 0, .no):=by rw[rq1];exact ldJ hf (by simp)
 have d6:ld1 (S1.row q) (f.length*12+6)=some (.snil, .no):=by rw[rq1];exact ldJ hf (by simp)
 have e15:f.length*12+1+5=f.length*12+6:=rfl;have l0:lenLV .snil=some (.int .i64 0, .no):=rfl;rw[Jl,Jb];simp only[XY,simprocAttr,rp1,lo,hne];rw[Jb];simp only[XY,simprocAttr,rp1,lo,hsub,io];rw[Jl,Jb];simp only[XY,simprocAttr,d10];rw[Jb];simp only[XY,simprocAttr,d6,e15,l0,r3,hn1,o3];obtain⟨A2,hA2⟩:=exE (S1.new fun t=>Row.cells t nd0);have ga2:Gr S1 A2:=by rw[hA2];exact Gr.new w1 (Ja _)
 have hone:SlAt (fun r=>r=up 0 n1) A2 (.slx (up 0 n1) 0 1 9 1) 9 [nd0]:=by
  have:=kP (st:=S1) (z:=9) (e:=nd0) rfl
  rwa [hn1,<-hA2]at this
 rw[<-hA2];clear hA2;have rp2:=ga2.cells rp1;have rq2:=ga2.cells rq1;have happ:=Jhw hone (fun e he=>by rw[List.mem_singleton.1 he];rfl) (by simp) (by simp);obtain⟨n2,hn2⟩:=nxE A2;simp only[List.length_cons,List.length_nil,List.flatten_cons,List.flatten_nil,List.append_nil,Nat.zero_add,hn2]at happ;obtain⟨rb,hrb⟩:=exE (up 0 n2);rw[<-hrb]at happ;have rbn:A2.row rb= .none:=by rw[hrb];exact nx0 ga2.wf hn2 0
 obtain⟨A3,hA3⟩:=exE (A2.new fun t=>Row.cells t nd0);have ga3:Gr A2 A3:=by rw[hA3];exact Gr.new ga2.wf (Ja _)
 have b3:A3.row rb= .cells A2.t nd0:=by rw[hA3,hrb,<-hn2,Kb,if_pos rfl]
 have rp3:=ga3.cells rp2;have rq3:=ga3.cells rq2;have hib:iaddrSV 9 (.sl rb 0 1 9) (.int .i64 0)=some (.ptr rb 0, .no):=rfl;have hqb:q≠rb:=fun e=>Jd rq2 (by rw[e];exact rbn);have hpb:p≠rb:=fun e=>Jd rp2 (by rw[e];exact rbn);rw[happ,JbF,Jcn,<-hA3,Jiy];have hle:0+9<=nd0.length:=by decide
 have F:((f++[frB w k at_ pv .snil cv 0]).flatten++J).length=f.length*12+12+J.length:=by
  have:=JC hf;simp[this];omega
 have hle2:f.length*12+6+1<=((f++[frB w k at_ pv .snil cv 0]).flatten++J).length:=by omega
 have hspl:splice ((f++[frB w k at_ pv .snil cv 0]).flatten++J) (f.length*12+6) [V.sl rb 0 1 9]=(f++[frB w k at_ pv (.sl rb 0 1 9) cv 0]).flatten++J:=splJ hf (by simp);simp only[XN,simprocAttr,hib,b3,s0,s1,s2,s3,c0,c1,c2,c3,hqb,rq3,hle2,e15];obtain⟨nd,hnd⟩:∃nd:List V,nd=[.int .i64 k1, .int .i64 at1,ofL [],ofL [],pv1,b1,el1, .bool he1,cv1]:=⟨_,rfl⟩
 have hsn:splice nd0 0 nd=nd:=by rw[hnd];rfl
 rw[<-hnd]at fin⊢;have rbS:S.row rb= .none:=Classical.byContradiction fun c=>(by rw[(G1.trans ga2).same rb c];exact c:A2.row rb≠ .none) rbn;have g4:Gr Sb (A3.wr rb A2.t fun u=>Row.cells u (splice nd0 0 nd)):=((h.g.trans G1).trans (ga2.trans ga3)).wr (Classical.byContradiction fun c=>(by rw[h.g.same rb c];exact c:S.row rb≠ .none) rbS) (Jd b3) (by rw[b3];rfl) (Ja _);refine⟨jD (QU (v:= .ptr rb 0) (w:= .ptr q (f.length*12+6)) (q:=q) (by simp only[XN,simprocAttr]) (by simp only[XN,simprocAttr]) rfl (fun e=>by injection e with e;exact hqb e.symm)) (QU (v:= .ptr q (f.length*12+6)) (w:= .ptr rb 0) (q:=rb) (by simp only[XN,simprocAttr]) (by simp only[XN,simprocAttr]) rfl (fun e=>by injection e with e;exact hqb e)), ?_⟩;simp only[XM,simprocAttr];rw[hspl];obtain⟨A4,hA4⟩:=exE (A3.wr rb A2.t fun u=>Row.cells u (splice nd0 0 nd));have k4:∀r,r≠rb->A4.row r=A3.row r:=fun r e=>by rw[hA4];simp only[Jo,e,if_false]
 have b4:A4.row rb= .cells A3.t nd:=by rw[hA4,Jo,if_pos rfl,hsn]
 rw[<-hA4]at g4⊢;clear hA4;have rq4:A4.row q= .cells tq ((f++[frB w k at_ pv .snil cv 0]).flatten++J):=(k4 q hqb).trans rq3;refine fin _ _ (fun r e hW=> ?_) fun _=>⟨rfl,rb,rbS,⟨_,by rw[Jo,if_neg (Ne.symm hqb)];exact b4⟩,⟨g4.wr h.qn (Jd rq4) (by rw[rq4];rfl) (Ja _),h.pn,h.qn,h.qp,⟨tp,by rw[Jo,if_neg (Ne.symm h.qp),k4 p hpb,rp3]⟩,⟨_,by rw[Jo,if_pos rfl]⟩,fun a ha=> ?_, ?_⟩⟩
 ·have hrb:r≠rb:=fun x=>e (by rw[x];exact rbS);rw[Jo,if_neg hW,k4 r hrb,(ga2.trans ga3).same r (by rw[G1.same r e];exact e),G1.same r e]
 ·rcases List.mem_append.1 ha with ha|ha
  ·exact hf a ha
  ·rw[List.mem_singleton.1 ha];rfl
 ·have e:(f++[frB w k at_ pv (.sl rb 0 1 9) cv 0]).length=f.length+1:=by simp
  rw[e];exact hv
theorem putK {Sb S:St}{p q rc:Pt}{tag:Str}{ov:V}{f:List (List V)}{J:List V}{w:Str}{k at_ k1 at1:Int}{pv cv pv1 b1 el1 cv1:V}{he1:Bool}(h:PJ Sb S p q ov (f++[frB w k at_ pv .snil (.sl rc 0 1 2) 2]) J)(hrc:∃t,S.row rc= .cells t [ofL tag, .snil])(rcn:Sb.row rc= .none)(rcq:rc≠q)(rcp:rc≠p)(hn:f.length<12)
  (s0:pv1.sc=true) (s1:b1.sc=true) (s2:el1.sc=true) (s3:cv1.sc=true):
  Does (tabT tabD) Jz [.ptr p 0, .agg [.int .i64 k1, .int .i64 at1,ofL [],ofL [],pv1,b1,el1, .bool he1,cv1]] S fun v S'=>Ch (fun r=>r=rc) S S'/\v= .bool true/\∃rb,S.row rb= .none/\(∃t,S'.row rb= .cells t [.int .i64 k1, .int .i64 at1,ofL [],ofL [],pv1,b1,el1, .bool he1,cv1])/\(∃t,S'.row rc= .cells t [ofL tag, .sl rb 0 1 9])/\PJ Sb S' p q ov (f++[frB w k at_ pv .snil (.sl rc 0 1 2) 2]) J:=by
 refine YU tabM Ym rfl h.g.wf fun K fin=> ?_;obtain⟨tp,rp⟩:=h.c;obtain⟨tq,rq⟩:=h.o;have hw:=h.g.wf;have c0:pv1.cells=some [pv1]:=by cases pv1<;>first|rfl|(cases s0;done)
 have c1:b1.cells=some [b1]:=by cases b1<;>first|rfl|(cases s1;done)
 have c2:el1.cells=some [el1]:=by cases el1<;>first|rfl|(cases s2;done)
 have c3:cv1.cells=some [cv1]:=by cases cv1<;>first|rfl|(cases s3;done)
 have hf:∀a∈f,a.length=12:=fun a ha=>h.l a (List.mem_append_left _ ha);have hL:(f++[frB w k at_ pv .snil (.sl rc 0 1 2) 2]).length=f.length+1:=by simp
 have hv:=h.v;rw[hL]at hv;have lo:lenLV ov=some (.int .i64 ((f.length+1:Nat):Int), .no):=by rcases hv with e|⟨m,_,e⟩<;>(rw[e];rfl)
 have io:iaddrSV 12 ov (.int .i64 (f.length:Nat))=some (.ptr q (f.length*12), .no):=by
  rcases hv with e|⟨m,_,e⟩
  ·rw[e,Yg,if_pos (by omega)];simp
  ·rw[e,Yn,if_pos (by omega)];simp
 have hne:¬((f.length+1:Nat):Int)=0:=by omega
 have hsub:IntKind.i64.wrap (((f.length+1:Nat):Int)-1)=((f.length:Nat):Int):=by rw[Jx (by omega) (by omega)];omega
 obtain⟨n0,hn0⟩:=nxE S;simp only[JL,XY,simprocAttr];rw[Jb];simp only[XY,simprocAttr,hn0,s0,s1,s2,s3,c0,c1,c2,c3];refine JM ?_;intro S1 hS1;have G1:Gr S S1:=by rw[hS1];exact Gr.new hw (Ja _)
 obtain⟨p3,hp3⟩:=exE (up 0 n0);obtain⟨t3,r3⟩:∃t,S1.row p3= .cells t [.int .i64 k1, .int .i64 at1,ofL [],ofL [],pv1,b1,el1, .bool he1,cv1]:=⟨_,by rw[hS1,hp3];simp only[XZ,simprocAttr,hn0];rfl⟩
 rw[<-hp3];clear hS1;have rp1:=G1.cells rp;have rq1:=G1.cells rq;have w1:=G1.wf;obtain⟨n1,hn1⟩:=nxE S1;have o3:=fun k=>nes (JE w1 hn1 (Jd r3) k);have op1:=fun k=>nes (JE w1 hn1 (Jd rp1) k);have oq1:=fun k=>nes (JE w1 hn1 (Jd rq1) k);have d10:ld1 (S1.row q) (f.length*12+10)=some (.int .i64 2, .no):=by rw[rq1];exact ldJ hf (by simp)
 have d9:ld1 (S1.row q) (f.length*12+9)=some (.sl rc 0 1 2, .no):=by rw[rq1];exact ldJ hf (by simp)
 have e15:f.length*12+1+8=f.length*12+9:=rfl;obtain⟨tc,hrc⟩:=hrc;have rc1:=G1.cells hrc;have lc:lenLV (.sl rc 0 1 2)=some (.int .i64 1, .no):=rfl;have ic:iaddrSV 2 (.sl rc 0 1 2) (.int .i64 0)=some (.ptr rc 0, .no):=rfl;have hs1:IntKind.i64.wrap ((1:Int)-1)=0:=by rw[Jx (by omega) (by omega)];rfl
 have l0:lenLV .snil=some (.int .i64 0, .no):=rfl;rw[Jl,Jb];simp only[XY,simprocAttr,rp1,lo,hne];rw[Jb];simp only[XY,simprocAttr,rp1,lo,hsub,io];rw[Jl,Jb];simp only[XY,simprocAttr,d10];rw[Jb];simp only[XY,simprocAttr];rw[Jb];simp only[XY,simprocAttr];rw[Jb];simp only[XY,simprocAttr];rw[Jb];simp only[XY,simprocAttr,d9,e15,lc,hs1,ic];have l0:lenLV .snil=some (.int .i64 0, .no):=rfl;simp only[XY,simprocAttr,rc1,l0,r3,hn1,o3];obtain⟨A2,hA2⟩:=exE (S1.new fun t=>Row.cells t nd0);have ga2:Gr S1 A2:=by rw[hA2];exact Gr.new w1 (Ja _)
 have hone:SlAt (fun r=>r=up 0 n1) A2 (.slx (up 0 n1) 0 1 9 1) 9 [nd0]:=by
  have:=kP (st:=S1) (z:=9) (e:=nd0) rfl
  rwa [hn1,<-hA2]at this
 rw[<-hA2];clear hA2;have rp2:=ga2.cells rp1;have rq2:=ga2.cells rq1;have rc2:=ga2.cells rc1;have happ:=Jhw hone (fun e he=>by rw[List.mem_singleton.1 he];rfl) (by simp) (by simp);obtain⟨n2,hn2⟩:=nxE A2;simp only[List.length_cons,List.length_nil,List.flatten_cons,List.flatten_nil,List.append_nil,Nat.zero_add,hn2]at happ;obtain⟨rb,hrb⟩:=exE (up 0 n2);rw[<-hrb]at happ;have rbn:A2.row rb= .none:=by rw[hrb];exact nx0 ga2.wf hn2 0
 obtain⟨A3,hA3⟩:=exE (A2.new fun t=>Row.cells t nd0);have ga3:Gr A2 A3:=by rw[hA3];exact Gr.new ga2.wf (Ja _)
 have b3:A3.row rb= .cells A2.t nd0:=by rw[hA3,hrb,<-hn2,Kb,if_pos rfl]
 have rp3:=ga3.cells rp2;have rq3:=ga3.cells rq2;have rc3:=ga3.cells rc2;have hib:iaddrSV 9 (.sl rb 0 1 9) (.int .i64 0)=some (.ptr rb 0, .no):=rfl;have hqb:q≠rb:=fun e=>Jd rq2 (by rw[e];exact rbn);have hpb:p≠rb:=fun e=>Jd rp2 (by rw[e];exact rbn);have hcb:rc≠rb:=fun e=>Jd rc2 (by rw[e];exact rbn);rw[happ,JbF,Jcn,<-hA3,Jiy];have hle:0+9<=nd0.length:=by decide
 simp only[XN,simprocAttr,hib,b3,s0,s1,s2,s3,c0,c1,c2,c3,hcb,rc3];obtain⟨nd,hnd⟩:∃nd:List V,nd=[.int .i64 k1, .int .i64 at1,ofL [],ofL [],pv1,b1,el1, .bool he1,cv1]:=⟨_,rfl⟩
 have hsn:splice nd0 0 nd=nd:=by rw[hnd];rfl
 rw[<-hnd]at fin⊢;have rbS:S.row rb= .none:=Classical.byContradiction fun c=>(by rw[(G1.trans ga2).same rb c];exact c:A2.row rb≠ .none) rbn;have g4:Gr Sb (A3.wr rb A2.t fun u=>Row.cells u (splice nd0 0 nd)):=((h.g.trans G1).trans (ga2.trans ga3)).wr (Classical.byContradiction fun c=>(by rw[h.g.same rb c];exact c:S.row rb≠ .none) rbS) (Jd b3) (by rw[b3];rfl) (Ja _);refine⟨jD (QU (v:= .ptr rb 0) (w:= .ptr rc 1) (q:=rc) (by simp only[XN,simprocAttr]) (by simp only[XN,simprocAttr]) rfl (fun e=>by injection e with e;exact hcb e.symm)) (QU (v:= .ptr rc 1) (w:= .ptr rb 0) (q:=rb) (by simp only[XN,simprocAttr]) (by simp only[XN,simprocAttr]) rfl (fun e=>by injection e with e;exact hcb e)), ?_⟩;simp only[XM,simprocAttr];have hsp:splice [ofL tag, .snil] 1 [V.sl rb 0 1 9]=[ofL tag, .sl rb 0 1 9]:=rfl;rw[hsp];obtain⟨A4,hA4⟩:=exE (A3.wr rb A2.t fun u=>Row.cells u (splice nd0 0 nd));have k4:∀r,r≠rb->A4.row r=A3.row r:=fun r e=>by rw[hA4];simp only[Jo,e,if_false]
 have b4:A4.row rb= .cells A3.t nd:=by rw[hA4,Jo,if_pos rfl,hsn]
 rw[<-hA4]at g4⊢;clear hA4;have rc4:A4.row rc= .cells tc [ofL tag, .snil]:=(k4 rc hcb).trans rc3;refine fin _ _ (fun r e hW=> ?_) fun _=>⟨rfl,rb,rbS,⟨_,by rw[Jo,if_neg (Ne.symm hcb)];exact b4⟩,⟨_,by rw[Jo,if_pos rfl]⟩,⟨g4.wr rcn (Jd rc4) (by rw[rc4];rfl) (Ja _),h.pn,h.qn,h.qp,⟨tp,by rw[Jo,if_neg (Ne.symm rcp),k4 p hpb,rp3]⟩,⟨tq,by rw[Jo,if_neg (Ne.symm rcq),k4 q hqb,rq3]⟩,h.l,h.v⟩⟩
 have hrb:r≠rb:=fun x=>e (by rw[x];exact rbS);rw[Jo,if_neg hW,k4 r hrb,(ga2.trans ga3).same r (by rw[G1.same r e];exact e),G1.same r e]
abbrev nd9 (k at_:Int)(pv b el:V)(he:Bool)(cv:V):List V:=[.int .i64 k, .int .i64 at_,ofL [],ofL [],pv,b,el, .bool he,cv]
structure PZ (Sb S:St) (p:Pt) (ov mv:V) (main:List (List V)):Prop where
 g:Gr Sb S
 pn:Sb.row p= .none
 c:∃t,S.row p= .cells t [ov,mv, .snil, .int .i64 0]
 m:SlF Sb S mv 9 main
 am:rowOf mv≠some p
 lo:lenLV ov=some (.int .i64 0, .no)
theorem PZ.gr {Sb S S':St}{p:Pt}{ov mv:V}{main:List (List V)}(h:PZ Sb S p ov mv main)(g:Gr S S'):PZ Sb S' p ov mv main:=⟨h.g.trans g,h.pn,h.c.imp fun t c=>g.cells c,h.m.gr g,h.am,h.lo⟩
theorem putZ {Sb S:St}{p:Pt}{ov mv:V}{main:List (List V)}{k at_:Int}{pv b el cv:V}{he:Bool}(h:PZ Sb S p ov mv main)(s0:pv.sc=true)(s1:b.sc=true)(s2:el.sc=true)(s3:cv.sc=true)(hn:main.length<10000):
  Does (tabT tabD) Jz [.ptr p 0, .agg (nd9 k at_ pv b el he cv)] S fun v S'=>Ch (fun r=>r=p\/rowOf mv=some r) S S'/\v= .bool true/\∃mv',PZ Sb S' p ov mv' (main++[nd9 k at_ pv b el he cv])/\∀q,rowOf mv'=some q->S.row q= .none:=by
 refine YU tabM Ym rfl h.g.wf fun K fin=> ?_;obtain⟨tp,rp⟩:=h.c;have hw:=h.g.wf;obtain⟨n0,hn0⟩:=nxE S;have op:=fun k=>nes (JE hw hn0 (Jd rp) k);have l0:=h.lo;have c0:pv.cells=some [pv]:=by cases pv<;>first|rfl|(cases s0;done)
 have c1:b.cells=some [b]:=by cases b<;>first|rfl|(cases s1;done)
 have c2:el.cells=some [el]:=by cases el<;>first|rfl|(cases s2;done)
 have c3:cv.cells=some [cv]:=by cases cv<;>first|rfl|(cases s3;done)
 simp only[JL,XY,simprocAttr];rw[Jb];simp only[XY,simprocAttr,hn0,s0,s1,s2,s3,c0,c1,c2,c3];refine JM ?_;intro S1 hS1;have G1:Gr S S1:=by rw[hS1];exact Gr.new hw (Ja _)
 obtain⟨p3,hp3⟩:=exE (up 0 n0);obtain⟨t3,r3⟩:∃t,S1.row p3= .cells t (nd9 k at_ pv b el he cv):=⟨_,by rw[hS1,hp3];simp only[XZ,simprocAttr,hn0];rfl⟩
 have p3n:S.row p3= .none:=by rw[hp3];exact nx0 hw hn0 0
 rw[<-hp3];have rp1:=G1.cells rp;clear hS1;have hm1:=h.m.gr G1;have lm:=hm1.at.len;have w1:=G1.wf;obtain⟨n1,hn1⟩:=nxE S1;have o3:=fun k=>nes (JE w1 hn1 (Jd r3) k);have op1:=fun k=>nes (JE w1 hn1 (Jd rp1) k);rw[Jl,Jb];simp only[XY,simprocAttr,rp1,l0];rw[Jb];simp only[XY,simprocAttr,rp1,r3,hn1,o3,op1,lm];obtain⟨A2,hA2⟩:=exE (S1.new fun t=>Row.cells t nd0);have ga2:Gr S1 A2:=by rw[hA2];exact Gr.new w1 (Ja _)
 have hone:SlAt (fun r=>r=up 0 n1) A2 (.slx (up 0 n1) 0 1 9 1) 9 [nd0]:=by
  have:=kP (st:=S1) (z:=9) (e:=nd0) rfl
  rwa [hn1,<-hA2]at this
 rw[<-hA2];clear hA2;have rp2:=ga2.cells rp1;have r32:=ga2.cells r3;refine Jab (S0:=Sb) (h.g.trans (G1.trans ga2)) (hm1.gr ga2) hone (fun e he=>by rw[List.mem_singleton.1 he];rfl) (by simp) (by simp) (by simp;omega) ?_;intro A3 mv3 g3 h3 rv3 kp3;have rp3:A3.row p= .cells tp [ov,mv, .snil, .int .i64 0]:=(kp3 p (Jd rp2) h.am).trans rp2;obtain⟨q,tq,q1,q2,q3⟩:∃r t,Sb.row r= .none/\A3.row r= .cells t (main++[nd0]).flatten/\(mv3= .sl r 0 (main++[nd0]).length 9\/mv3= .slx r 0 (main++[nd0]).length 9 (main++[nd0]).length):=by
  rcases h3.2 with⟨e,_⟩|h
  ·rw[e]at rv3;cases rv3
  ·exact h
 have rq:rowOf mv3=some q:=by rcases q3 with e|e<;>(rw[e];rfl)
 have qp:q≠p:=fun e=>by
  rw[rq]at rv3;injection rv3 with rv3;rw[<-e,rv3,Q3 ga2.wf]at rp2
  cases rp2
 have hL:(main++[nd0]).length=main.length+1:=by simp
 have hi:iaddrSV 9 mv3 (.int .i64 (main.length:Nat))=some (.ptr q (main.length*9), .no):=by
  rcases q3 with e|e
  ·rw[e,Yg,if_pos (by omega)];simp
  ·rw[e,Yn,if_pos (by omega)];simp
 have hfl:(main++[nd0]).flatten.length=(main.length+1)*9:=by rw[JC h3.1,hL]
 have hle:main.length*9+9<=(main++[nd0]).flatten.length:=by rw[hfl];omega
 have sc3:=h3.at.sc;have cl3:=h3.at.cells;simp only[XN,simprocAttr,hi,q2,rp3,hle,s0,s1,s2,s3,c0,c1,c2,c3];obtain⟨A4,hA4⟩:=exE (A3.wr q tq fun u=>Row.cells u (splice (main++[nd0]).flatten (main.length*9) [V.int IntKind.i64 k,V.int IntKind.i64 at_,ofL [],ofL [],pv,b,el,V.bool he,cv]));have r4:∃t,A4.row q= .cells t (main++[nd9 k at_ pv b el he cv]).flatten:=⟨_,by rw[hA4,Jo,if_pos rfl,JjL h.m.1 rfl rfl]⟩
 have k4:∀r,r≠q->A4.row r=A3.row r:=fun r e=>by rw[hA4];simp only[Jo,e,if_false]
 have g4:Gr Sb A4:=by rw[hA4];exact g3.wr q1 (Jd q2) (by rw[q2];rfl) (Ja _)
 rw[<-hA4];clear hA4;have rp4:A4.row p= .cells tp [ov,mv, .snil, .int .i64 0]:=(k4 p (fun e=>qp e.symm)).trans rp3;simp only[XN,simprocAttr,rp4,cl3,sc3];refine⟨jD (QU (v:= .ptr q (main.length*9)) (w:= .ptr p 1) (q:=p) (by simp only[XN,simprocAttr]) (by simp only[XN,simprocAttr]) rfl (fun e=>by injection e with e;exact qp e)) (QU (v:= .ptr p 1) (w:= .ptr q (main.length*9)) (q:=q) (by simp only[XN,simprocAttr]) (by simp only[XN,simprocAttr]) rfl (fun e=>by injection e with e;exact qp e.symm)), ?_⟩;simp only[XZ,simprocAttr];refine fin _ _ (fun r e hW=> ?_) fun _=>⟨rfl,mv3,⟨g4.wr h.pn (Jd rp4) (by rw[rp4];rfl) (Ja _),h.pn,⟨_,by simp only[Jo,if_true];rfl⟩, ?_,(fun e=>qp (by rw[rq]at e;injection e)),h.lo⟩, ?_⟩
 ·have hp:r≠p:=fun x=>hW (.inl x);have hq:r≠q:=fun x=>by
   rw[rq]at rv3;injection rv3 with rv3;have:=(G1.trans ga2).same r e;rw[x,rv3,Q3 ga2.wf]at this;rw[x,rv3]at e;exact e this.symm
  simp only[Jo,hp,if_false];rw[k4 r hq,kp3 r (by rw[(G1.trans ga2).same r e];exact e) fun x=>hW (.inr x),(G1.trans ga2).same r e]
 ·obtain⟨t4,r4⟩:=r4;refine⟨fun x hx=> ?_, .inr ⟨q,t4,q1,by simp only[Jo,qp,if_false];exact r4, ?_⟩⟩
  ·rcases List.mem_append.1 hx with hx|hx
   ·exact h.m.1 x hx
   ·rw[List.mem_singleton.1 hx];rfl
  ·have e:(main++[nd9 k at_ pv b el he cv]).length=(main++[nd0]).length:=by simp
   rw[e];exact q3
 ·intro x hx;rw[rv3]at hx;injection hx with hx;rw[<-hx];exact Classical.byContradiction fun c=>c (by
   have:=(G1.trans ga2).same _ c;rw[Q3 ga2.wf]at this;exact this.symm)
theorem ldnJ {f:List (List V)}{e J:List V}{t:Nat}(hf:∀a∈f,a.length=12)(he:e.length=12):ldn (.cells t ((f++[e]).flatten++J)) (f.length*12) 12=some (.agg e, .no):=by
 have hl:=JC hf;have h2:((f++[e]).flatten++J).drop (f.length*12)=e++J:=by
  rw[<-hl];simp
 have h3:(e++J).take 12=e:=by rw[<-he];simp
 have h4:f.length*12+12<=((f++[e]).flatten++J).length:=by
  have:((f++[e]).flatten++J).length=f.length*12+12+J.length:=by simp[hl,he];omega
  omega
 rw[jy,if_pos h4,h2,h3]
theorem PJ.cut {Sb S:St}{p q:Pt}{ov:V}{f:List (List V)}{e J:List V}(h:PJ Sb S p q ov (f++[e]) J):∃ov',(∀S,cutLV S 12 ov none (some (.int .i64 (f.length:Nat))) none=some (ov', .no))/\(ov'= .sl q 0 f.length 12\/∃m,f.length<=m/\ov'= .slx q 0 f.length 12 m):=by
 have hL:(f++[e]).length=f.length+1:=by simp
 have hv:=h.v;rw[hL]at hv;rcases hv with c|⟨m,hm,c⟩
 ·refine⟨.sl q 0 f.length 12,fun S=> ?_, .inl rfl⟩;rw[c];simp only[cutLV,cutSl,optNat,kC,Option.bind_eq_bind,Option.bind_some,Int.natCast_nonneg,if_true,Int.toNat_natCast];simp
 ·refine⟨.slx q 0 f.length 12 m,fun S=> ?_, .inr ⟨m,by omega,rfl⟩⟩;rw[c];simp only[cutLV,cutSl,optNat,kC,Option.bind_eq_bind,Option.bind_some,Int.natCast_nonneg,if_true,Int.toNat_natCast];simp;omega
theorem closeJ {Sb S:St}{p q:Pt}{ov:V}{f:List (List V)}{J:List V}{w:Str}{k at_ way:Int}{pv b cv:V}{P:St->St->Prop}(h:PJ Sb S p q ov (f++[frB w k at_ pv b cv way]) J)(hn:f.length<12)(hwd:¬w=[100,101,102,105,110,101])(s0:pv.sc=true)(s1:b.sc=true)(s3:cv.sc=true)
  (kput:∀ov' S1,Ch (fun r=>r=p) S S1->PJ Sb S1 p q ov' f (frB w k at_ pv b cv way++J)->Does (tabT tabD) Jz [.ptr p 0, .agg (nd9 k at_ pv b .snil false cv)] S1 fun _ S'=>P S1 S'):
  Does (tabT tabD) jr [.ptr p 0] S fun v S'=>v= .int .i64 0/\∃S1,Ch (fun r=>r=p) S S1/\P S1 S':=by
 refine JA jc rfl ?_;obtain⟨tp,rp⟩:=h.c;obtain⟨tq,rq⟩:=h.o;have hw:=h.g.wf;have c0:pv.cells=some [pv]:=by cases pv<;>first|rfl|(cases s0;done)
 have c1:b.cells=some [b]:=by cases b<;>first|rfl|(cases s1;done)
 have c3:cv.cells=some [cv]:=by cases cv<;>first|rfl|(cases s3;done)
 have hf:∀a∈f,a.length=12:=fun a ha=>h.l a (List.mem_append_left _ ha);have hL:(f++[frB w k at_ pv b cv way]).length=f.length+1:=by simp
 have hv:=h.v;rw[hL]at hv;have lo:lenLV ov=some (.int .i64 ((f.length+1:Nat):Int), .no):=by rcases hv with e|⟨m,_,e⟩<;>(rw[e];rfl)
 have io:iaddrSV 12 ov (.int .i64 (f.length:Nat))=some (.ptr q (f.length*12), .no):=by
  rcases hv with e|⟨m,_,e⟩
  ·rw[e,Yg,if_pos (by omega)];simp
  ·rw[e,Yn,if_pos (by omega)];simp
 have hne:¬((f.length+1:Nat):Int)=0:=by omega
 have hsub:IntKind.i64.wrap (((f.length+1:Nat):Int)-1)=((f.length:Nat):Int):=by rw[Jx (by omega) (by omega)];omega
 obtain⟨ov',hcut,hov'⟩:=h.cut;have sov':ov'.sc=true/\ov'.cells=some [ov']:=by rcases hov' with e|⟨m,_,e⟩<;>(rw[e];exact⟨rfl,rfl⟩)
 obtain⟨d1,d2⟩:=sov';have dn:ldn (S.row q) (f.length*12) 12=some (.agg (frB w k at_ pv b cv way), .no):=by rw[rq];exact ldnJ hf rfl
 obtain⟨n0,hn0⟩:=nxE S;have op:=fun k=>nes (JE hw hn0 (Jd rp) k);simp only[JU,XY,simprocAttr];rw[Jb];simp only[XY,simprocAttr];rw[Jl,Jb];simp only[XY,simprocAttr,rp,lo,hne];rw[Jb];simp only[XY,simprocAttr,rp,lo,hsub,io,dn,hn0,s0,s1,s3,c0,c1,c3];refine JM ?_;intro S1 hS1;have G1:Gr S S1:=by rw[hS1];exact(Gr.refl hw).nw hn0 (Ja _) (Ja _)
 obtain⟨p3,hp3⟩:=exE (up 0 n0);obtain⟨t3,r3⟩:∃t,S1.row p3= .cells t (frB w k at_ pv b cv way):=⟨_,by rw[hS1,hp3];simp only[XZ,simprocAttr,hn0];rfl⟩
 have p3n:S.row p3= .none:=by rw[hp3];exact nx0 hw hn0 0
 rw[<-hp3];clear hS1;have rp1:=G1.cells rp;have rq1:=G1.cells rq;have p3p:p3≠p:=fun e=>Jd rp (by rw[<-e];exact p3n);rw[Jb];simp only[XY,simprocAttr,rp1,lo,hsub,hcut,d1,d2];obtain⟨S2,hS2⟩:∃S2,S2=S1.wr p tp fun u=>Row.cells u [ov', .snil, .snil, .int .i64 0]:=⟨_,rfl⟩
 have C2:Ch (fun r=>r=p) S S2:=by rw[hS2];exact(Ch.of _ G1).wr (Jd rp1) (by rw[rp1];rfl) (.inl rfl) (Ja _)
 have g2:Gr Sb S2:=by rw[hS2];exact(h.g.trans G1).wr h.pn (Jd rp1) (by rw[rp1];rfl) (Ja _)
 have r32:S2.row p3= .cells t3 (frB w k at_ pv b cv way):=by rw[hS2,Jo,if_neg p3p,r3]
 have rp2:S2.row p= .cells S1.t [ov', .snil, .snil, .int .i64 0]:=by rw[hS2,Jo,if_pos rfl]
 have rq2:S2.row q= .cells tq ((f++[frB w k at_ pv b cv way]).flatten++J):=by rw[hS2,Jo,if_neg h.qp,rq1]
 rw[<-hS2];clear hS2;have P2:PJ Sb S2 p q ov' f (frB w k at_ pv b cv way++J):=⟨g2,h.pn,h.qn,h.qp,⟨_,rp2⟩,⟨tq,by rw[rq2];simp only[List.flatten_append,List.flatten_cons,List.flatten_nil,List.append_nil,List.append_assoc]⟩,hf,hov'⟩
 simp only[XZ,simprocAttr,r32,hwd];refine Je (kput ov' S2 C2 P2) ?_;intro v S3 hP;simp only[XZ,simprocAttr];exact⟨S2,C2,hP⟩
theorem PO.toPJ {Sb S:St}{p:Pt}{ov:V}{f:List (List V)}{e:List V}(h:PO Sb S p ov (f++[e])):∃q,rowOf ov=some q/\PJ Sb S p q ov (f++[e]) []:=by
 obtain⟨q,t,h1,h2,h3,h4,_⟩:=h.top;refine⟨q,h1,h.g,h.pn,h3,h2,h.c,⟨t,by rw[h4,List.append_nil]⟩,h.m.1, ?_⟩;rcases h.m.2 with⟨_,c⟩|⟨q',t',k1,k2,k3⟩
 ·simp at c
 ·have e:q'=q:=by rcases k3 with c|c<;>(rw[c]at h1;injection h1)
  subst e;rcases k3 with c|c
  ·exact .inl c
  ·exact .inr ⟨_,Nat.le_refl _,c⟩
theorem Jpj {Sb S:St}{p q:Pt}{ov:V}{f:List (List V)}{J:List V}{w:Str}{k at_ way at1:Int}{pv b cv:V}{P:St->St->Prop}(h:PJ Sb S p q ov (f++[frB w k at_ pv b cv way]) J)(hn:f.length<12)(hwd:¬w=[100,101,102,105,110,101])(s0:pv.sc=true)(s1:b.sc=true)(s3:cv.sc=true)
  (kput:∀ov' S1,Ch (fun r=>r=p) S S1->PJ Sb S1 p q ov' f (frB w k at_ pv b cv way++J)->Does (tabT tabD) Jz [.ptr p 0, .agg (nd9 k at_ pv b .snil false cv)] S1 fun _ S'=>P S1 S'):
  Does (tabT tabD) Jy [.ptr p 0,ofL [101,110,100], .agg (ndN 2 at1 [] [] .snil)] S fun v S'=>v= .int .i64 0/\∃S1,Ch (fun r=>r=p) S S1/\P S1 S':=by
 refine JA Qu rfl ?_;have hw:=h.g.wf;obtain⟨n0,hn0⟩:=nxE S;simp only[JB,XY,simprocAttr];rw[Jb];simp only[XY,simprocAttr,hn0];refine JM ?_;intro S1 hS1;have G1:Gr S S1:=by rw[hS1];exact Gr.new hw (Ja _)
 obtain⟨p3,hp3⟩:=exE (up 0 n0);obtain⟨t3,r3⟩:∃t,S1.row p3= .cells t (ndN 2 at1 [] [] .snil):=⟨_,by rw[hS1,hp3];simp only[XZ,simprocAttr,hn0];rfl⟩
 rw[<-hp3];clear hS1;simp only[XZ,simprocAttr,List.cons.injEq,and_false,false_and,and_true,true_and,List.cons_ne_nil,reduceCtorEq,r3];refine Je (closeJ (P:=P) (h.gr G1) hn hwd s0 s1 s3 fun ov' S2 C2 P2=>kput ov' S2 ((Ch.of _ G1).trans C2 fun r w=> .inl w) P2) ?_;rintro _ S3 ⟨rfl,S2,C2,hP⟩;simp only[XZ,simprocAttr];exact⟨S2,(Ch.of _ G1).trans C2 fun r w=> .inl w,hP⟩
theorem placeK {Sb S:St}{p:Pt}{ov:V}{f:List (List V)}{k at_ at1:Int}{pv:V}{tag:Str}(h:PO Sb S p ov (f++[frO [109,97,116,99,104] k at_ pv .snil 3]))(hn:f.length<12):
  Does (tabT tabD) Jy [.ptr p 0,ofL [99,97,115,101], .agg (ndN 2 at1 [] tag .snil)] S fun v S'=>Ch (fun r=>rowOf ov=some r) S S'/\v= .int .i64 0/\∃rc,S.row rc= .none/\(∃t,S'.row rc= .cells t [ofL tag, .snil])/\PO Sb S' p ov (f++[frO [109,97,116,99,104] k at_ pv (.sl rc 0 1 2) 2]):=by
 refine YU tabM Qu rfl h.g.wf fun K fin=> ?_;have hw:=h.g.wf;obtain⟨n0,hn0⟩:=nxE S;simp only[JB,XY,simprocAttr];rw[Jb];simp only[XY,simprocAttr,hn0];refine JM ?_;intro S1 hS1;have G1:Gr S S1:=by rw[hS1];exact Gr.new hw (Ja _)
 obtain⟨p3,hp3⟩:=exE (up 0 n0);obtain⟨t3,r3⟩:∃t,S1.row p3= .cells t (ndN 2 at1 [] tag .snil):=⟨_,by rw[hS1,hp3];simp only[XZ,simprocAttr,hn0];rfl⟩
 rw[<-hp3];clear hS1;simp only[XZ,simprocAttr,List.cons.injEq,and_false,false_and,and_true,true_and,List.cons_ne_nil,reduceCtorEq,r3];refine Je (otherO (h.gr G1) hn) ?_;rintro _ S3 ⟨C3,rfl,rc,n3,c3,P3⟩;simp only[XZ,simprocAttr];refine fin _ _ (fun r e hW=> ?_) fun _=>⟨rfl,rc,Classical.byContradiction fun c=>c (by rw[<-G1.same rc c];exact n3),c3,P3⟩
 rw[C3.same r (by rw[G1.same r e];exact e) hW,G1.same r e]
theorem placeA {S:St}{p:Pt}{at1:Int}{pv:V}{P:St->St->Prop}(hw:WF S)(s0:pv.sc=true)(kput:∀S1,Gr S S1->Does (tabT tabD) Jz [.ptr p 0, .agg (nd9 2 at1 pv .snil .snil false .snil)] S1 fun v S'=>v= .bool true/\P S1 S'):
  Does (tabT tabD) Jy [.ptr p 0,ofL [], .agg (ndN 2 at1 [] [] pv)] S fun v S'=>v= .int .i64 0/\∃S1,Gr S S1/\P S1 S':=by
 refine JA Qu rfl ?_;have c0:pv.cells=some [pv]:=by cases pv<;>first|rfl|(cases s0;done)
 obtain⟨n0,hn0⟩:=nxE S;simp only[JB,XY,simprocAttr];rw[Jb];simp only[XY,simprocAttr,hn0,s0,c0];refine JM ?_;intro S1 hS1;have G1:Gr S S1:=by rw[hS1];exact Gr.new hw (Ja _)
 obtain⟨p3,hp3⟩:=exE (up 0 n0);obtain⟨t3,r3⟩:∃t,S1.row p3= .cells t (nd9 2 at1 pv .snil .snil false .snil):=⟨_,by rw[hS1,hp3];simp only[XZ,simprocAttr,hn0];rfl⟩
 rw[<-hp3];clear hS1;simp only[XZ,simprocAttr,List.nil_eq,List.cons.injEq,and_false,false_and,and_true,true_and,List.cons_ne_nil,reduceCtorEq,r3];refine Je (kput S1 G1) ?_;rintro _ S3 ⟨rfl,hP⟩;simp only[XZ,simprocAttr];exact⟨S1,G1,hP⟩
def PvH (S:St)(p:Pt)(X:Pt->Prop)(F:St->V->Bool)(at_:Int)(pv:V):Prop:=
 ∃(χ:Rn) (a:St) (r:Pt) (u:Nat),pv= .slx (χ r) 0 1 1 1/\Hold χ a S/\F a (.slx r 0 1 1 1)=true/\r.num<a.nx.num/\r≠ .h/\a.row r≠ .none/\χ.s 0= .int .i64 at_/\a.row .h= .dead u/\χ .h=p/\∀x:Pt,x≠ .h->a.row x≠ .none->¬X (χ x)
theorem PvH.ch {S S':St}{p:Pt}{X X' W:Pt->Prop}{F:St->V->Bool}{at_:Int}{pv:V}(h:PvH S p X F at_ pv)(C:Ch W S S')(hW:∀r,W r->r=p\/X r)(hX:∀r,X' r->X r\/S.row r= .none):PvH S' p X' F at_ pv:=by
 obtain⟨χ,a,r,u,e,H,h1,h2,h2',h2'',h3,h4,h5,h6⟩:=h;have live:∀q,a.row q≠ .none->S.row (χ q)≠ .none:=fun q hq=>JdF (H.row q (H.none hq)) hq;refine⟨χ,a,r,u,e,H.keep' C.mono fun q hq hd=> ?_,h1,h2,h2',h2'',h3,h4,h5,fun x x0 hx w=> ?_⟩
 ·have q0:q≠ .h:=fun e=>hd u (by rw[e];exact h4);refine C.same _ (live q hq) fun w=> ?_;rcases hW _ w with w|w
  ·exact q0 (H.inj q .h (by rw[w,h5]))
  ·exact h6 q q0 hq w
 ·rcases hX _ w with w|w
  ·exact h6 x x0 hx w
  ·exact live x hx w
def CaseH (Sp S:St)(p q:Pt)(cv:V)(F:St->V->Bool)(k:Nat)(e:List V):Prop:=
 ∃(rb:Pt) (at_:Int) (pv:V),e=[ofL (tagS k), .sl rb 0 1 9]/\(∃t,S.row rb= .cells t (ndN 2 at_ [] [] pv))/\Sp.row rb= .none/\rb≠p/\rb≠q/\rowOf cv≠some rb/\PvH S p (fun r=>Sp.row r≠ .none\/r=q\/rowOf cv=some r\/r=rb) F at_ pv
theorem CaseH.ch {Sp S S':St}{p q:Pt}{cv cv':V}{F:St->V->Bool}{k:Nat}{e:List V}{W:Pt->Prop}(h:CaseH Sp S p q cv F k e)(C:Ch W S S')(hW:∀r,W r->r=p\/r=q\/rowOf cv=some r)(hv:∀r,rowOf cv'=some r->S.row r= .none\/rowOf cv=some r):CaseH Sp S' p q cv' F k e:=by
 obtain⟨rb,at_,pv,e1,⟨t,e2⟩,e3,e4,e5,e6,e7⟩:=h;refine⟨rb,at_,pv,e1,⟨t, ?_⟩,e3,e4,e5,fun x=> ?_,e7.ch C (fun r w=> ?_) fun r w=> ?_⟩
 ·rw[C.same rb (Jd e2) fun w=> ?_,e2];rcases hW _ w with w|w|w
  ·exact e4 w
  ·exact e5 w
  ·exact e6 w
 ·rcases hv _ x with y|y
  ·exact Jd e2 y
  ·exact e6 y
 ·rcases hW _ w with w|w|w
  ·exact .inl w
  ·exact .inr (.inr (.inl w))
  ·exact .inr (.inr (.inr (.inl w)))
 ·rcases w with w|w|w|w
  ·exact .inl (.inl w)
  ·exact .inl (.inr (.inl w))
  ·rcases hv _ w with y|y
   ·exact .inr y
   ·exact .inl (.inr (.inr (.inl y)))
  ·exact .inl (.inr (.inr (.inr w)))
def Cases (Sp S:St)(p q:Pt)(cv:V)(F:St->V->Bool)(ks:List Nat)(cs:List (List V)):Prop:=cs.length=ks.length/\∀i (h:i<cs.length) (h':i<ks.length),CaseH Sp S p q cv F ks[i] cs[i]
theorem Cases.ch {Sp S S':St}{p q:Pt}{cv cv':V}{F:St->V->Bool}{ks:List Nat}{cs:List (List V)}{W:Pt->Prop}(h:Cases Sp S p q cv F ks cs)(C:Ch W S S')(hW:∀r,W r->r=p\/r=q\/rowOf cv=some r)(hv:∀r,rowOf cv'=some r->S.row r= .none\/rowOf cv=some r):Cases Sp S' p q cv' F ks cs:=
 ⟨h.1,fun i a b=>(h.2 i a b).ch C hW hv⟩
structure MS (Sp Sb S:St) (p q:Pt) (pv0:V) (way:Int) (cv:V) (cs:List (List V)) (F0 F:St->V->Bool) (ks:List Nat):Prop where
 P:PM Sb S p q 0 pv0 way cv cs
 h0:PvH S p (fun r=>Sp.row r≠ .none\/r=q\/rowOf cv=some r) F0 0 pv0
 cs:Cases Sp S p q cv F ks cs
structure PEnd0 (Sb S:St) (p:Pt) (mv:V):Prop where
 wf:WF S
 c:∃t ov,S.row p= .cells t [ov,mv, .snil, .int .i64 0]/\lenLV ov=some (.int .i64 0, .no)
 m:mv.sc=true
theorem Jtq (st:St)(r:Pt)(z:Nat):appV st z (.slx r 0 1 z 1) .snil=some (.slx r 0 1 z 1, .no):=by
 unfold appV JV;simp[slen,JD,allSc]
theorem parseC0 {l:List UInt8}{ps:List Prt}{S:St}{R:St->V->Prop}(hw:WF S)(hl:splitR l=(ps,0))(hps:ps.length<1000)
  (hs:∀(Sb S1:St) (p:Pt),Gr S Sb->Gr Sb S1->Sb.row p= .none->(∃t,S1.row p= .cells t [.snil, .snil, .snil, .int .i64 0])->StepsD Sb p ps S1 fun S2=>∃mv,PEnd0 Sb S2 p mv/\R S2 mv):
  Does (tabT tabD) jj [ofL l] S fun v S'=>(∀q,S.row q≠ .none->S'.row q=S.row q)/\∃mv S2 r,R S2 mv/\Gr S2 S'/\v= .tup [.slx r 0 1 2 1, .int .i64 0, .int .i64 0]/\S2.row r= .none/\∃t,S'.row r= .cells t [ofL [],mv]:=by
 refine JA Ja5 rfl ?_;simp only[KY,XY,simprocAttr];rw[Jb];simp only[XY,simprocAttr];rw[Jb];simp only[XY,simprocAttr];refine Je (splitC l S hw) ?_;rintro _ Sb ⟨gb,u,rfl,hu⟩;rw[hl]at hu⊢;have hu:RecsAt S Sb u 3 ps.length (cellsP ps):=hu;simp only[XY,simprocAttr];rw[Jl,Jb];simp only[XY,simprocAttr];obtain⟨n0,hn0⟩:=nxE Sb;have wb:=gb.wf;rw[Jb];simp only[XY,simprocAttr,hn0];refine JM ?_;intro S1 hS1;have G1:Gr Sb S1:=by rw[hS1];exact Gr.new wb (Ja _)
 obtain⟨p,hp⟩:=exE (up 0 n0);have rp:∃t,S1.row p= .cells t [.snil, .snil, .snil, .int .i64 0]:=⟨_,by rw[hS1,hp];simp only[XZ,simprocAttr,hn0];rfl⟩
 have pn:Sb.row p= .none:=by rw[hp];exact nx0 wb hn0 0
 rw[<-hp];clear hS1;have st:=hs Sb S1 p gb G1 pn rp;rw[Jl,Jb];simp only[XY,simprocAttr];have hsl:=JqS hu;have ul:lenLV u=some (.int .i64 (ps.length:Nat), .no):=by rw[hsl.len,List.length_map]
 obtain⟨Q,hQ⟩:∃Q:St->Prop,Q=fun S2=>∃mv,PEnd0 Sb S2 p mv/\R S2 mv:=⟨_,rfl⟩
 rw[<-hQ]at st;obtain⟨L,hL⟩:=loE fun j fr S2=>∃(i:Nat),j+i=ps.length/\fr 0=ofL l/\fr 5=u/\fr 7= .ptr p 0/\fr 8= .int .i64 i/\(∀q,Sb.row q≠ .none->S2.row q=Sb.row q)/\WF S2/\StepsD Sb p (ps.drop i) S2 Q;refine JK L ps.length (by omega) ((hL _ _ _).2 ⟨0,by omega,rfl,rfl,rfl,by simp only[XZ,simprocAttr]<;>rfl,G1.same,G1.wf,st⟩) ?_;clear st rp;intro j fr S2 hLj;obtain⟨i,hj,f0,f5,f7,f8,old,w2,st⟩:=(hL _ _ _).1 hLj;by_cases hi:i<ps.length
 ·have hi':(i:Int)<ps.length:=by omega
  have hadd1:IntKind.i64.wrap ((i:Int)+1)=((i+1:Nat):Int):=by rw[Jx (by omega) (by omega)];rfl
  rw[List.drop_eq_getElem_cons hi]at st;obtain⟨x,hx⟩:∃x,x=ps[i]:=⟨_,rfl⟩
  rw[<-hx]at st;have hs2:SlAt (fun _=>True) S2 u 3 (ps.map cell3):=hsl.imp fun r e _=>⟨trivial,old r e⟩
  obtain⟨r,o,a1,_,_,a2,a3⟩:=hs2.elem (i:=i) (by simpa using hi);have a2:ldn (S2.row r) o 3=some (.agg [.bool x.1,ofL x.2.1, .int .i64 x.2.2], .no):=by rw[a2];simp[cell3,hx]
  have a4:=a3 0 (by simp[cell3]);have a4:ld1 (S2.row r) o=some (.bool x.1, .no):=by rw[show o=o+0 from rfl,a4];simp[cell3,hx]
  unfold StepsD at st;rw[Jl,Jb];simp only[XY,simprocAttr,f5,f7,f8,ul,hi']
  cases hx1:x.1 with
  | true=>
    rw[hx1]at st a2 a4;simp only[if_true]at st;rw[Jl];simp only[XY,simprocAttr,f0,f5,f7,f8,a1];rw[Jb];simp only[XY,simprocAttr,f0,f5,f7,f8,a1];rw[Jl,Jb];simp only[XY,simprocAttr,f0,f5,f7,f8,a1,a2,a4];refine Je st ?_;rintro _ S3 ⟨rfl,w3,k3,st3⟩;simp only[XZ,simprocAttr,f0,f5,f7,f8,hadd1];exact⟨ps.length-(i+1),by omega,(hL _ _ _).2 ⟨i+1,by omega,f0,f5,f7,rfl,fun q e=>by rw[k3 q e,old q e],w3,st3⟩⟩
  | false=>
    rw[hx1]at st a2 a4;simp only[Bool.false_eq_true,if_false]at st;rw[Jl];simp only[XY,simprocAttr,f0,f5,f7,f8,a1];rw[Jb];simp only[XY,simprocAttr,f0,f5,f7,f8,a1];rw[Jl,Jb];simp only[XY,simprocAttr,f0,f5,f7,f8,a1,a2,a4];refine Je st ?_;rintro _ S3 ⟨rfl,w3,k3,st3⟩;simp only[XZ,simprocAttr,f0,f5,f7,f8,hadd1];exact⟨ps.length-(i+1),by omega,(hL _ _ _).2 ⟨i+1,by omega,f0,f5,f7,rfl,fun q e=>by rw[k3 q e,old q e],w3,st3⟩⟩
 ·have hi':¬(i:Int)<ps.length:=by omega
  rw[List.drop_eq_nil_of_le (by omega)]at st;have st:Q S2:=st;rw[hQ]at st;obtain⟨mv,pe,hR⟩:=st;obtain⟨t2,ov,c2,o0⟩:=pe.c;have msc:=pe.m;have mcl:mv.cells=some [mv]:=by cases mv<;>first|rfl|(cases msc;done)
  obtain⟨n2,hn2⟩:=nxE S2;have op2:=fun k=>nes (JE w2 hn2 (Jd c2) k);rw[Jl,Jb];simp only[XY,simprocAttr,f5,f8,ul,hi',f7,c2,o0];rw[Jl,Jb];simp only[XY,simprocAttr,f7,c2,o0];rw[Jb];simp only[XY,simprocAttr,f7,c2,hn2,op2,msc,mcl];obtain⟨A3,hA3⟩:=exE (S2.new fun t=>Row.cells t [ofL [],mv]);have G3:Gr S2 A3:=by rw[hA3];exact Gr.new w2 (Ja _)
  have r3:∃t,A3.row (up 0 n2)= .cells t [ofL [],mv]:=⟨_,by rw[hA3,<-hn2,Ka]⟩
  have n3:S2.row (up 0 n2)= .none:=nx0 w2 hn2 0;rw[<-hA3];clear hA3;simp only[XZ,simprocAttr,Jtq];exact⟨fun q e=>by rw[G3.same q (by rw[old q (by rw[gb.same q e];exact e),gb.same q e];exact e),old q (by rw[gb.same q e];exact e),gb.same q e],mv,S2,_,hR,G3,rfl,n3,r3⟩
abbrev rgW :Str:=[114,97,110,103,101]
abbrev wtW :Str:=[119,105,116,104]
abbrev mtW :Str:=[109,97,116,99,104]
theorem Jpk :actB (ofL rgS) (ofL rgW) 7 (ofL []) (pf1 fDot)=true:=by kernel_rfl
theorem Jtr :actB (ofL wtS) (ofL wtW) 6 (ofL []) (pf1 fDot)=true:=by kernel_rfl
theorem Jts :actB (ofL mtS) (ofL mtW) 8 (ofL []) (pf1 fDot)=true:=by kernel_rfl
theorem Jpl :actB (ofL adS) (ofL []) 2 (ofL []) (pf1 fAdd)=true:=by kernel_rfl
theorem Jtt :actB (ofL ckS) (ofL [99,97,115,101]) 2 (ofL [107]) pfNil=true:=by kernel_rfl
theorem Jtu :actB (ofL mEnd) (ofL [101,110,100]) 2 (ofL []) pfNil=true:=by kernel_rfl
theorem JdJ {q:Pt}(h:q≠ .h):1<=q.num:=by
 cases hq:q.num with
 |zero=>exact absurd (Pt.num_inj (by rw[hq];rfl)) h
 |succ n=>omega
theorem dotFrz {S0 S:St}{ψ:Rn}{a:St}{pv:V}(H:Hold ψ a S)(hf:∀q:Pt,1<=q.num->S0.row (ψ q)= .none)(h:pf1 fDot a pv=true):(mv ψ pv).sc=true/\Frz (fun S=>DotP S (mv ψ pv)) S fun r=>S0.row r≠ .none:=by
 obtain⟨h1,r,t,l,u,rfl,hr,har,hah⟩:=Jpi h;unfold fDot at h1;simp only at h1
 split at h1
 ·rename_i t1 r2 e1
  split at h1
  ·rename_i t2 e2
   have p1:r≠ .h:=fun e=>by rw[e,hah]at har;cases har
   have p2:r2≠ .h:=fun e=>by rw[e,hah]at e2;cases e2
   have a1:=H.row r (H.none (by rw[e1];exact fun e=>by cases e));rw[e1]at a1;obtain⟨u1,a1,_⟩:=a1;have a2:=H.row r2 (H.none (by rw[e2];exact fun e=>by cases e));rw[e2]at a2;obtain⟨u2,a2,_⟩:=a2;simp only[List.map_cons,List.map_nil,mv]at a1 a2;refine⟨by rw[mv];rfl,((Frz.row a1 (X:=fun r=>S0.row r≠ .none) fun c=>c (hf _ (JdJ p1))).and (Frz.row a2 fun c=>c (hf _ (JdJ p2)))).imp fun S' ⟨⟨v1,b1⟩,v2,b2⟩=>⟨ψ r,ψ r2,v1,v2,by rw[mv],b1,b2⟩⟩
  ·cases h1
 ·cases h1
theorem addFrz {S0 S:St}{ψ:Rn}{a:St}{pv:V}(H:Hold ψ a S)(hf:∀q:Pt,1<=q.num->S0.row (ψ q)= .none)(h:pf1 fAdd a pv=true):(mv ψ pv).sc=true/\Frz (fun S=>AddP S (mv ψ pv)) S fun r=>S0.row r≠ .none:=by
 obtain⟨h1,r,t,l,u,rfl,hr,har,hah⟩:=Jpi h;unfold fAdd at h1;simp only at h1
 split at h1
 ·rename_i t1 r2 e1
  split at h1
  ·rename_i t2 s e2
   have hs:=kH h1;subst hs;have p1:r≠ .h:=fun e=>by rw[e,hah]at har;cases har
   have p2:r2≠ .h:=fun e=>by rw[e,hah]at e2;cases e2
   have a1:=H.row r (H.none (by rw[e1];exact fun e=>by cases e));rw[e1]at a1;obtain⟨u1,a1,_⟩:=a1;have a2:=H.row r2 (H.none (by rw[e2];exact fun e=>by cases e));rw[e2]at a2;obtain⟨u2,a2,_⟩:=a2;simp only[List.map_cons,List.map_nil,mv,KU ψ (ofL [97,100,100]) rfl]at a1 a2;refine⟨by rw[mv];rfl,((Frz.row a1 (X:=fun r=>S0.row r≠ .none) fun c=>c (hf _ (JdJ p1))).and (Frz.row a2 fun c=>c (hf _ (JdJ p2)))).imp fun S' ⟨⟨v1,b1⟩,v2,b2⟩=>⟨ψ r,ψ r2,v1,v2,by rw[mv],b1,b2⟩⟩
  ·cases h1
 ·cases h1
def PT (Sb S:St)(p y:Pt)(f:List (List V)):Prop:=(f=[]/\∃ov,PZ Sb S p ov .snil [])\/∃ov J,PJ Sb S p y ov f J
theorem PT.gr {Sb S S':St}{p y:Pt}{f:List (List V)}(h:PT Sb S p y f)(g:Gr S S'):PT Sb S' p y f:=by
 rcases h with⟨e,ov,z⟩|⟨ov,J,z⟩
 ·exact .inl ⟨e,ov,z.gr g⟩
 ·exact .inr ⟨ov,J,z.gr g⟩
theorem PT.g {Sb S:St}{p y:Pt}{f:List (List V)}(h:PT Sb S p y f):Gr Sb S:=by
 rcases h with⟨e,ov,z⟩|⟨ov,J,z⟩
 ·exact z.g
 ·exact z.g
theorem PT.zero {Sb S:St}{p y:Pt}(h:PT Sb S p y []):∃ov,PZ Sb S p ov .snil []:=by
 rcases h with⟨_,z⟩|⟨ov,J,z⟩
 ·exact z
 ·refine⟨ov,z.g,z.pn,z.c,SlF.nil _ _ _,(fun e=>by cases e), ?_⟩;rcases z.v with e|⟨m,_,e⟩<;>(rw[e];rfl)
theorem PT.some {Sb S:St}{p y:Pt}{f:List (List V)}{e:List V}(h:PT Sb S p y (f++[e])):∃ov J,PJ Sb S p y ov (f++[e]) J:=by
 rcases h with⟨c,_⟩|h
 ·simp at c
 ·exact h
theorem PO.pt {Sb S:St}{p:Pt}{ov:V}{f:List (List V)}(h:PO Sb S p ov f):∃y,(y=p\/rowOf ov=Option.some y)/\PT Sb S p y f:=by
 rcases List.eq_nil_or_concat f with rfl|⟨f',e,rfl⟩
 ·refine⟨p, .inl rfl, .inl ⟨rfl,ov,h.g,h.pn,h.c,SlF.nil _ _ _,(fun e=>by cases e), ?_⟩⟩;have:=h.m.at.len;exact this
 ·rw[List.concat_eq_append]at h;obtain⟨q,h1,h2⟩:=h.toPJ;exact⟨q, .inr h1, .inr ⟨ov,[],by rw[List.concat_eq_append];exact h2⟩⟩
inductive Blk :List Nat->List Prt->Prop
 |add (c:Nat):Blk [] [(true,adS,c)]
 |way (w c d:Nat) {r:List Nat} {l:List Prt} (h:Blk r l):Blk (w::r) (opP c w++(l++[(true,mEnd,d)]))
theorem JeX (w:Nat):∀(r:List Nat) (c:Nat),endsP (w::r) c=endsP r c++[(true,mEnd,c+7*r.length)]
 |[],c=>rfl
 | v::r,c=>by
   rw[endsP,JeX v r (c+7),endsP,List.cons_append,List.length_cons,show c+7+7*r.length=c+7*(r.length+1) by omega]
theorem Jpm :∀(ws:List Nat) (c d e:Nat),Blk ws (opsP ws c++((true,adS,d)::endsP ws e))
 |[],c,d,e=>Blk.add d
 | w::r,c,d,e=>by
   rw[JeX,opsP,List.append_assoc];have:=Blk.way w c (e+7*r.length) (Jpm r (c+(opS w).length) d e);simpa using this
abbrev PutQ (Sb:St)(p:Pt)(tail:List Prt)(Q:St->Prop)(S1:St)(S':St):Prop:=WF S'/\(∀r,Sb.row r≠ .none->S'.row r=S1.row r)/\StepsD Sb p tail S' Q
def Sc9 (e:List V):Prop:=∃(k1 at1:Int) (pv1 b1 el1:V) (he1:Bool) (cv1:V),e=nd9 k1 at1 pv1 b1 el1 he1 cv1/\pv1.sc=true/\b1.sc=true/\el1.sc=true/\cv1.sc=true
theorem endB {Sb S:St}{p q:Pt}{ov:V}{f:List (List V)}{J:List V}{w:Str}{k at_ way:Int}{pv b cv:V}{d:Nat}{tail:List Prt}{Q:St->Prop}(h:PJ Sb S p q ov (f++[frB w k at_ pv b cv way]) J)(hn:f.length<12)(hwd:¬w=[100,101,102,105,110,101])(s0:pv.sc=true)(s1:b.sc=true)(s3:cv.sc=true)
  (kput:∀ov' J' S1,Ch (fun r=>r=p) S S1->PJ Sb S1 p q ov' f J'->Does (tabT tabD) Jz [.ptr p 0, .agg (nd9 k at_ pv b .snil false cv)] S1 fun _ S'=>PutQ Sb p tail Q S1 S'):
  StepsD Sb p ((true,mEnd,d)::tail) S Q:=by
 rw[StepsD];refine actC (Q:=fun v S'=>v= .int .i64 0/\WF S'/\(∀q,Sb.row q≠ .none->S'.row q=S.row q)/\StepsD Sb p tail S' Q) Jtu rfl rfl rfl h.g.wf (Jd h.c.choose_spec) fun S1 χ a pv1 g1 eh Ha fr hx hpv=> ?_;have e1:pv1= .snil:=by
  unfold pfNil at hpv
  split at hpv
  ·rfl
  ·cases hpv
 subst e1;simp only[mv];refine(Jpj (P:=fun S1 S'=>(∀r,Sb.row r≠ .none->S1.row r=S.row r)/\PutQ Sb p tail Q S1 S') (at1:=d) (h.gr g1) hn hwd s0 s1 s3 fun ov' S2 C2 P2=>(kput ov' _ S2 ((Ch.of _ g1).trans C2 fun r w=> .inl w) P2).mono fun v S' k=>⟨fun r hr=>by rw[P2.g.same r hr,h.g.same r hr],k⟩).mono fun v S' ⟨e,S2,C2,k0,k1,k2,k3⟩=>⟨e,k1,fun r hr=>by rw[k2 r hr,k0 r hr],k3⟩
theorem PO.sub {Sb S:St}{p:Pt}{ov:V}{f:List (List V)}(h:PO Sb S p ov f){r:Pt}(hr:r=p\/rowOf ov=some r):S.row r≠ .none:=by
 rcases hr with rfl|hr
 ·exact Jd h.c.choose_spec
 ·exact h.m.some hr
theorem PT.row {Sb S:St}{p y:Pt}{f:List (List V)}{e:List V}(h:PT Sb S p y (f++[e])):S.row y≠ .none:=by
 obtain⟨ov,J,z⟩:=h.some;exact Jd z.o.choose_spec
theorem JkG {S:St}{r:Pt}{z t:Nat}{e:List V}(hz:e.length=z)(h:S.row r= .cells t e):SlAt (fun _=>True) S (.sl r 0 1 z) z [e]:=
 ⟨fun x hx=>by rw[List.mem_singleton.1 hx];exact hz, .inr ⟨r,0,trivial, .inl rfl,e, .inl ⟨t,h⟩,by simp[hz],by simp[<-hz]⟩⟩
theorem wayB {Sb S0 S1 S2 S3:St}{p y:Pt}{ov ov2:V}{f:List (List V)}{w:Str}{k at_:Int}{pv:V}{v:Nat}{r:List Nat}{e:List V}{d:Nat}{tail:List Prt}{Q:St->Prop}
  (g1:Gr S0 S1) (h1:PO Sb S1 p ov f) (hpv:Frz (fun S=>DotP S pv) S1 fun r=>S0.row r≠ .none) (h0:PO Sb S0 p ov f)
  (C2:Ch (fun r=>r=p\/rowOf ov=some r) S1 S2) (h2:PO Sb S2 p ov2 (f++[frO w k at_ pv .snil 0])) (f2:∀r,rowOf ov2=some r->S1.row r= .none)
  (C3:Ch (fun r=>r=p\/rowOf ov2=some r) S2 S3) (h3:PT Sb S3 p y (f++[frO w k at_ pv .snil 0])) (hy:(y=p\/rowOf ov2=some y)\/S2.row y= .none)
  (he:Sc9 e) (hN:Frz (fun S=>NT S r e) S3 fun r=>S2.row r≠ .none\/r=y) (hn:f.length<12) (spv:pv.sc=true) (hwd:¬w=[100,101,102,105,110,101])
  (hv:(v<2/\k=7)\/(v=2/\k=6))
  (kont:∀S1 y e,Sc9 e->Ch (fun r=>r=p\/rowOf ov=some r) S0 S1->PT Sb S1 p y f->((y=p\/rowOf ov=some y)\/S0.row y= .none)->Frz (fun S=>NT S (v::r) e) S1 (fun r=>S0.row r≠ .none\/r=y)->Does (tabT tabD) Jz [.ptr p 0, .agg e] S1 fun v S'=>v= .bool true/\PutQ Sb p tail Q S1 S'):
  Does (tabT tabD) Jz [.ptr p 0, .agg e] S3 fun v S'=>v= .bool true/\PutQ Sb p ((true,mEnd,d)::tail) Q S3 S':=by
 obtain⟨ov3,J,P3⟩:=h3.some;have l3:=h3.row;obtain⟨k1,at1,pv1,b1,el1,he1,cv1,rfl,s0,s1,s2,s3⟩:=he;have hy:rowOf ov2=some y\/S2.row y= .none:=by
  rcases hy with(e|e)|e
  ·exact absurd e P3.qp
  ·exact .inl e
  ·exact .inr e
 have y1:S1.row y= .none:=by
  rcases hy with e|e
  ·exact f2 y e
  ·exact C2.fresh e
 have y0:S0.row y= .none:=(Ch.of (fun _=>False) g1).fresh y1;have up:∀r,S0.row r≠ .none->S1.row r≠ .none:=fun r e=>by rw[g1.same r e];exact e
 refine(putB P3 hn s0 s1 s2 s3).mono fun v' S4 ⟨C4,e4,rb,n4,⟨t4,b4⟩,P4⟩=>⟨e4,P4.g.wf,fun r hr=>by rw[P4.g.same r hr,P3.g.same r hr], ?_⟩
 refine endB P4 hn hwd spv rfl rfl fun ov' J' S5 C5 P5=> ?_;have live:∀{A B:St} {W:Pt->Prop},Ch W A B->∀r,A.row r≠ .none->B.row r≠ .none:=fun C r e=>fun c=>e (C.fresh c);have C02:Ch (fun r=>r=p\/rowOf ov=some r) S0 S2:=(Ch.of _ g1).trans C2 fun r w=> .inl w;have C03:Ch (fun r=>r=p\/rowOf ov=some r) S0 S3:=C02.trans C3 fun r w=>by
  rcases w with w|w
  ·exact .inl (.inl w)
  ·exact .inr ((Ch.of (fun _=>False) g1).fresh (f2 r w))
 have C04:Ch (fun r=>r=p\/rowOf ov=some r) S0 S4:=C03.trans C4 fun r w=> .inr (by rw[w];exact y0);have C05:Ch (fun r=>r=p\/rowOf ov=some r) S0 S5:=C04.trans C5 fun r w=> .inl (.inl w);have p0:S0.row p≠ .none:=h0.sub (.inl rfl);have q0:∀r,rowOf ov=some r->S0.row r≠ .none:=fun r e=>h0.sub (.inr e);have D2:Frz (fun S=>DotP S pv) S2 fun r=>S0.row r≠ .none\/rowOf ov2=some r:=hpv.ch C2 (fun r w=>by rcases w with rfl|w;exact p0;exact q0 r w) fun r x=>by
  rcases x with x|x
  ·exact .inl x
  ·exact .inr (f2 r x)
 have D3:Frz (fun S=>DotP S pv) S3 fun r=>S0.row r≠ .none\/r=y:=by
  refine(D2.mon (X':=fun r=>(S0.row r≠ .none\/rowOf ov2=some r)\/r=y) fun r x=> ?_).ch C3 (fun r w=> ?_) fun r x=> ?_
  ·rcases x with x|x
   ·exact .inl x
   ·rw[x];rcases hy with e|e
    ·exact .inl (.inr e)
    ·exact .inr e
  ·rcases w with rfl|w
   ·exact .inl (.inl p0)
   ·exact .inl (.inr w)
  ·rcases x with x|x
   ·exact .inl (.inl (.inl x))
   ·exact .inl (.inr x)
 have N3:Frz (fun S=>NT S r (nd9 k1 at1 pv1 b1 el1 he1 cv1)) S3 fun r=>S0.row r≠ .none\/r=y:=hN.mon fun r x=>by
  rcases x with x|x
  ·exact .inl (.inl (live C02 r x))
  ·exact .inl (.inr x)
 have rby:rb≠y:=fun e=>l3 (by rw[<-e];exact n4);have rb0:S0.row rb= .none:=C03.fresh n4;have B4:Frz (fun S=>∃t,S.row rb= .cells t (nd9 k1 at1 pv1 b1 el1 he1 cv1)) S4 fun r=>S0.row r≠ .none\/r=y:=Frz.row b4 fun c=>by
  rcases c with c|c
  ·exact c rb0
  ·exact rby c
 have D4:=D3.ch (X':=fun r=>S0.row r≠ .none\/r=y) C4 (fun r w=> .inr w) fun r x=> .inl x;have N4:=N3.ch (X':=fun r=>S0.row r≠ .none\/r=y) C4 (fun r w=> .inr w) fun r x=> .inl x;have all4:=(D4.and N4).and B4;have all5:=all4.ch (X':=fun r=>S0.row r≠ .none\/r=y) C5 (fun r w=> .inl (by rw[w];exact p0)) fun r x=> .inl x;refine(kont S5 y (nd9 k at_ pv (.sl rb 0 1 9) .snil false .snil) ⟨k,at_,pv,_,_,_,_,rfl,spv,rfl,rfl,rfl⟩ C05 (.inr ⟨ov',J',P5⟩) (.inr y0) (all5.imp fun S' ⟨⟨hd,hnt⟩,t,hb⟩=> ?_)).mono fun v' S' h=>h.2;refine⟨at_,pv, .sl rb 0 1 9,nd9 k1 at1 pv1 b1 el1 he1 cv1,hd,JkG rfl hb,hnt, ?_⟩;rcases hv with⟨c,rfl⟩|⟨c,rfl⟩
 ·exact .inl ⟨c,rfl⟩
 ·exact .inr (.inl ⟨c,rfl⟩)
theorem wayK {Sb S0 S1 S2 S3:St}{p y rc:Pt}{ov ov2:V}{f:List (List V)}{at_:Int}{pv:V}{r:List Nat}{e:List V}{d:Nat}{tail:List Prt}{Q:St->Prop}
  (g1:Gr S0 S1) (h1:PO Sb S1 p ov f) (hpv:Frz (fun S=>DotP S pv) S1 fun r=>S0.row r≠ .none) (h0:PO Sb S0 p ov f)
  (C2:Ch (fun r=>r=p\/rowOf ov=some r) S1 S2) (h2:PO Sb S2 p ov2 (f++[frO mtW 8 at_ pv (.sl rc 0 1 2) 2])) (f2:∀r,rowOf ov2=some r->S1.row r= .none) (rcn:S1.row rc= .none) (rcc:∃t,S2.row rc= .cells t [ofL [107], .snil]) (rco:rowOf ov2≠some rc)
  (C3:Ch (fun r=>r=p\/rowOf ov2=some r) S2 S3) (h3:PT Sb S3 p y (f++[frO mtW 8 at_ pv (.sl rc 0 1 2) 2])) (hy:(y=p\/rowOf ov2=some y)\/S2.row y= .none)
  (he:Sc9 e) (hN:Frz (fun S=>NT S r e) S3 fun r=>S2.row r≠ .none\/r=y) (hn:f.length<12) (spv:pv.sc=true)
  (kont:∀S1 y e,Sc9 e->Ch (fun r=>r=p\/rowOf ov=some r) S0 S1->PT Sb S1 p y f->((y=p\/rowOf ov=some y)\/S0.row y= .none)->Frz (fun S=>NT S (3::r) e) S1 (fun r=>S0.row r≠ .none\/r=y)->Does (tabT tabD) Jz [.ptr p 0, .agg e] S1 fun v S'=>v= .bool true/\PutQ Sb p tail Q S1 S'):
  Does (tabT tabD) Jz [.ptr p 0, .agg e] S3 fun v S'=>v= .bool true/\PutQ Sb p ((true,mEnd,d)::tail) Q S3 S':=by
 obtain⟨ov3,J,P3⟩:=h3.some;have l3:=h3.row;obtain⟨k1,at1,pv1,b1,el1,he1,cv1,rfl,s0,s1,s2,s3⟩:=he;have hy:rowOf ov2=some y\/S2.row y= .none:=by
  rcases hy with(e|e)|e
  ·exact absurd e P3.qp
  ·exact .inl e
  ·exact .inr e
 obtain⟨tc,rcc⟩:=rcc;have y1:S1.row y= .none:=by
  rcases hy with e|e
  ·exact f2 y e
  ·exact C2.fresh e
 have y0:S0.row y= .none:=(Ch.of (fun _=>False) g1).fresh y1;have c0:S0.row rc= .none:=(Ch.of (fun _=>False) g1).fresh rcn;have p0:S0.row p≠ .none:=h0.sub (.inl rfl);have q0:∀r,rowOf ov=some r->S0.row r≠ .none:=fun r e=>h0.sub (.inr e);have rcp:rc≠p:=fun e=>p0 (by rw[<-e];exact c0);have rcy:rc≠y:=fun e=>by
  rcases hy with x|x
  ·exact rco (by rw[x,e])
  ·rw[<-e,rcc]at x;cases x
 have rcb:Sb.row rc= .none:=Classical.byContradiction fun c=>(by rw[h0.g.same rc c];exact c:S0.row rc≠ .none) c0;have rc3:S3.row rc= .cells tc [ofL [107], .snil]:=by
  rw[C3.same rc (Jd rcc) fun w=> ?_,rcc];rcases w with w|w
  ·exact rcp w
  ·exact rco w
 have P3:PJ Sb S3 p y ov3 (f++[frB mtW 8 at_ pv .snil (.sl rc 0 1 2) 2]) J:=P3;refine(putK (cv:= .snil) P3 ⟨tc,rc3⟩ rcb rcy rcp hn s0 s1 s2 s3).mono fun v' S4 ⟨C4,e4,rb,n4,⟨t4,b4⟩,⟨tc4,c4⟩,P4⟩=>⟨e4,P4.g.wf,fun r hr=>by rw[P4.g.same r hr,P3.g.same r hr], ?_⟩
 refine endB P4 hn (by decide) spv rfl rfl fun ov' J' S5 C5 P5=> ?_;have live:∀{A B:St} {W:Pt->Prop},Ch W A B->∀r,A.row r≠ .none->B.row r≠ .none:=fun C r e=>fun c=>e (C.fresh c);have C02:Ch (fun r=>r=p\/rowOf ov=some r) S0 S2:=(Ch.of _ g1).trans C2 fun r w=> .inl w;have C03:Ch (fun r=>r=p\/rowOf ov=some r) S0 S3:=C02.trans C3 fun r w=>by
  rcases w with w|w
  ·exact .inl (.inl w)
  ·exact .inr ((Ch.of (fun _=>False) g1).fresh (f2 r w))
 have C04:Ch (fun r=>r=p\/rowOf ov=some r) S0 S4:=C03.trans C4 fun r w=> .inr (by rw[w];exact c0);have C05:Ch (fun r=>r=p\/rowOf ov=some r) S0 S5:=C04.trans C5 fun r w=> .inl (.inl w);have D2:Frz (fun S=>DotP S pv) S2 fun r=>S0.row r≠ .none\/rowOf ov2=some r\/r=rc:=hpv.ch C2 (fun r w=>by rcases w with rfl|w;exact p0;exact q0 r w) fun r x=>by
  rcases x with x|x|x
  ·exact .inl x
  ·exact .inr (f2 r x)
  ·exact .inr (by rw[x];exact rcn)
 have D3:Frz (fun S=>DotP S pv) S3 fun r=>S0.row r≠ .none\/r=y\/r=rc:=by
  refine(D2.mon (X':=fun r=>(S0.row r≠ .none\/rowOf ov2=some r\/r=rc)\/r=y) fun r x=> ?_).ch C3 (fun r w=> ?_) fun r x=> ?_
  ·rcases x with x|x
   ·exact .inl x
   ·rw[x];rcases hy with e|e
    ·exact .inl (.inr (.inl e))
    ·exact .inr e
  ·rcases w with rfl|w
   ·exact .inl (.inl p0)
   ·exact .inl (.inr (.inl w))
  ·rcases x with x|x|x
   ·exact .inl (.inl (.inl x))
   ·exact .inl (.inr x)
   ·exact .inl (.inl (.inr (.inr x)))
 have N3:Frz (fun S=>NT S r (nd9 k1 at1 pv1 b1 el1 he1 cv1)) S3 fun r=>S0.row r≠ .none\/r=y\/r=rc:=hN.mon fun r x=>by
  rcases x with x|x|x
  ·exact .inl (.inl (live C02 r x))
  ·exact .inl (.inr x)
  ·exact .inl (.inl (by rw[x,rcc];exact fun c=>by cases c))
 have rby:rb≠y:=fun e=>l3 (by rw[<-e];exact n4);have rb0:S0.row rb= .none:=C03.fresh n4;have B4:Frz (fun S=>∃t,S.row rb= .cells t (nd9 k1 at1 pv1 b1 el1 he1 cv1)) S4 fun r=>S0.row r≠ .none\/r=y:=Frz.row b4 fun c=>by
  rcases c with c|c
  ·exact c rb0
  ·exact rby c
 have K4:Frz (fun S=>∃t,S.row rc= .cells t [ofL [107], .sl rb 0 1 9]) S4 fun r=>S0.row r≠ .none\/r=y:=Frz.row c4 fun c=>by
  rcases c with c|c
  ·exact c c0
  ·exact rcy c
 have D4:=D3.ch (X':=fun r=>S0.row r≠ .none\/r=y) C4 (fun r w=> .inr (.inr w)) fun r x=> .inl (by rcases x with x|x;exact .inl x;exact .inr (.inl x));have N4:=N3.ch (X':=fun r=>S0.row r≠ .none\/r=y) C4 (fun r w=> .inr (.inr w)) fun r x=> .inl (by rcases x with x|x;exact .inl x;exact .inr (.inl x));have all4:=((D4.and N4).and B4).and K4;have all5:=all4.ch (X':=fun r=>S0.row r≠ .none\/r=y) C5 (fun r w=> .inl (by rw[w];exact p0)) fun r x=> .inl x;refine(kont S5 y (nd9 8 at_ pv .snil .snil false (.sl rc 0 1 2)) ⟨8,at_,pv,_,_,_,_,rfl,spv,rfl,rfl,rfl⟩ C05 (.inr ⟨ov',J',P5⟩) (.inr y0) (all5.imp fun S' ⟨⟨⟨hd,hnt⟩,t,hb⟩,u,hc⟩=> ?_)).mono fun v' S' h=>h.2;exact⟨at_,pv, .sl rb 0 1 9,nd9 k1 at1 pv1 b1 el1 he1 cv1,hd,JkG rfl hb,hnt, .inr (.inr ⟨rfl, .sl rc 0 1 2,JkG rfl hc,rfl⟩)⟩
theorem blockC {Sb:St}{p:Pt}:∀{ws:List Nat} {l:List Prt},Blk ws l->(∀w∈ws,w<4)->∀{S:St} {ov:V} {f:List (List V)} {tail:List Prt} {Q:St->Prop},PO Sb S p ov f->TopOk f->f.length+ws.length<=8->
  (∀S1 y e,Sc9 e->Ch (fun r=>r=p\/rowOf ov=some r) S S1->PT Sb S1 p y f->((y=p\/rowOf ov=some y)\/S.row y= .none)->Frz (fun S=>NT S ws e) S1 (fun r=>S.row r≠ .none\/r=y)->Does (tabT tabD) Jz [.ptr p 0, .agg e] S1 fun v S'=>v= .bool true/\PutQ Sb p tail Q S1 S')->
  StepsD Sb p (l++tail) S Q:=by
 intro ws l hB
 induction hB with
 | add c=>
   intro h4 S ov f tail Q h ht hn kont;rw[List.singleton_append,StepsD];refine actC (Q:=fun v S'=>v= .int .i64 0/\WF S'/\(∀q,Sb.row q≠ .none->S'.row q=S.row q)/\StepsD Sb p tail S' Q) Jpl rfl rfl rfl h.g.wf (Jd h.c.choose_spec) fun S1 χ a pv g1 eh Ha fr hx hpv=> ?_;obtain⟨spv,A1⟩:=addFrz Ha fr hpv;have h1:=h.gr g1;obtain⟨y,hy,T⟩:=h.pt;refine(placeA (at1:=c) (pv:=mv χ pv) (P:=fun S1 S'=>(∀r,Sb.row r≠ .none->S1.row r=S.row r)/\PutQ Sb p tail Q S1 S') g1.wf spv fun S2 G2=> ?_).mono fun v S' ⟨e,S2,G2,k0,k1,k2,k3⟩=>⟨e,k1,fun r hr=>by rw[k2 r hr,k0 r hr],k3⟩
   have G:=g1.trans G2;refine(kont S2 y (nd9 2 c (mv χ pv) .snil .snil false .snil) ⟨2,c,_,_,_,_,_,rfl,spv,rfl,rfl,rfl⟩ (Ch.of _ G) (T.gr G) (.inl hy) ?_).mono fun v S' k=>⟨k.1,fun r hr=>by rw[G.same r (by rw[h.g.same r hr];exact hr)],k.2⟩
   have yS:S.row y≠ .none:=h.sub (by rcases hy with e|e;exact .inl e;exact .inr e);exact((A1.gr G2).mon (X':=fun r=>S.row r≠ .none\/r=y) fun r x=> .inl (by rcases x with x|x;exact x;rw[x];exact yS)).imp fun S' ha=>⟨c,mv χ pv,rfl,ha⟩
 | way w c d hB ih=>
   rename_i r l
   intro h4 S ov f tail Q h ht hn kont;rw[List.length_cons]at hn;have h4':∀v∈r,v<4:=fun v hv=>h4 v (List.mem_cons_of_mem _ hv);have hw4:=h4 w (List.mem_cons_self ..);have hlen:∀e:List V,(f++[e]).length+r.length<=8:=fun e=>by simp;omega
   have key:∀(s:Str) (wd:Str) (k:Int),actB (ofL s) (ofL wd) k (ofL []) (pf1 fDot)=true->((wd=[114,97,110,103,101]/\(0:Int)=0)\/(wd=[119,105,116,104]/\(0:Int)=0)\/(wd=[109,97,116,99,104]/\(0:Int)=3))->¬wd=[100,101,102,105,110,101]->((w<2/\k=7)\/(w=2/\k=6))->StepsD Sb p ((true,s,c)::(l++((true,mEnd,d)::tail))) S Q:=fun s wd k hact hk hwd hv=>by
    rw[StepsD];refine actC (Q:=fun v S'=>v= .int .i64 0/\WF S'/\(∀q,Sb.row q≠ .none->S'.row q=S.row q)/\StepsD Sb p (l++((true,mEnd,d)::tail)) S' Q) hact rfl rfl rfl h.g.wf (Jd h.c.choose_spec) fun S1 χ a pv g1 eh Ha fr hx hpv=> ?_;obtain⟨spv,A1⟩:=dotFrz Ha fr hpv;have h1:=h.gr g1;refine(placeO (at_:=c) (k:=k) h1 ht (by omega) spv hk).mono fun v S2 ⟨C2,e2,ov2,P2,f2⟩=>⟨e2,P2.g.wf,fun r hr=>by rw[P2.g.same r hr,h.g.same r hr], ?_⟩
    refine ih h4' P2 (.inr ⟨f,wd,k,c,mv χ pv, .snil,0,rfl,by decide⟩) (hlen _) fun S3 y e he C3 T3 hy hN=> ?_;exact wayB g1 h1 A1 h C2 P2 f2 C3 T3 hy he hN (by omega) spv hwd hv kont
   rcases(by omega:w=0\/w=1\/w=2\/w=3)with rfl|rfl|rfl|rfl
   ·have:=key rgS rgW 7 Jpk (.inl ⟨rfl,rfl⟩) (by decide) (.inl ⟨by decide,rfl⟩);simpa[opP]using this
   ·have:=key rgS rgW 7 Jpk (.inl ⟨rfl,rfl⟩) (by decide) (.inl ⟨by decide,rfl⟩);simpa[opP]using this
   ·have:=key wtS wtW 6 Jtr (.inr (.inl ⟨rfl,rfl⟩)) (by decide) (.inr ⟨rfl,rfl⟩);simpa[opP]using this
   ·have e0:opP c 3++(l++[(true,mEnd,d)])++tail=(true,mtS,c)::((true,ckS,c+11)::(l++((true,mEnd,d)::tail))):=by simp[opP]
    rw[e0,StepsD];refine actC (Q:=fun v S'=>v= .int .i64 0/\WF S'/\(∀q,Sb.row q≠ .none->S'.row q=S.row q)/\StepsD Sb p ((true,ckS,c+11)::(l++((true,mEnd,d)::tail))) S' Q) Jts rfl rfl rfl h.g.wf (Jd h.c.choose_spec) fun S1 χ a pv g1 eh Ha fr hx hpv=> ?_;obtain⟨spv,A1⟩:=dotFrz Ha fr hpv;have h1:=h.gr g1;refine(placeO (at_:=c) (k:=8) h1 ht (by omega) spv (.inr (.inr ⟨rfl,rfl⟩))).mono fun v S2 ⟨C2,e2,ov2,P2,f2⟩=>⟨e2,P2.g.wf,fun r hr=>by rw[P2.g.same r hr,h.g.same r hr], ?_⟩
    rw[StepsD];refine actC (Q:=fun v S'=>v= .int .i64 0/\WF S'/\(∀q,Sb.row q≠ .none->S'.row q=S2.row q)/\StepsD Sb p (l++((true,mEnd,d)::tail)) S' Q) Jtt rfl rfl rfl P2.g.wf (Jd P2.c.choose_spec) fun S3 χ3 a3 pv3 g3 eh3 Ha3 fr3 hx3 hpv3=> ?_;have e3:pv3= .snil:=by
     unfold pfNil at hpv3
     split at hpv3
     ·rfl
     ·cases hpv3
    subst e3;simp only[mv];have P3:=P2.gr g3;refine(placeK (at1:=(c+11:Nat)) P3 (by omega)).mono fun v S4 ⟨C4,e4,rc,rcn,rcc,P4⟩=>⟨e4,P4.g.wf,fun r hr=>by rw[P4.g.same r hr,P2.g.same r hr], ?_⟩
    have C24:Ch (fun r=>rowOf ov2=some r) S2 S4:=(Ch.of _ g3).trans C4 fun r w=> .inl w;have C14:Ch (fun r=>r=p\/rowOf ov=some r) S1 S4:=C2.trans C24 fun r w=> .inr (f2 r w);have rc2:S2.row rc= .none:=(Ch.of (fun _=>False) g3).fresh rcn;refine ih h4' P4 (.inr ⟨f,mtW,8,c,mv χ pv, .sl rc 0 1 2,2,rfl,by decide⟩) (hlen _) fun S5 y e he C5 T5 hy hN=> ?_;exact wayK g1 h1 A1 h C14 P4 f2 (C2.fresh rc2) rcc (fun e=>P2.sub (.inr e) rc2) C5 T5 hy he hN (by omega) spv kont
def BodN (S:St)(ws:List Nat)(two:Bool)(es:List (List V)):Prop:=∃e,NT S ws e/\((two=false/\es=[e])\/(two=true/\∃e2,NT S [] e2/\es=[e,e2]))
theorem SlF.frz {S0 S:St}{v:V}{z:Nat}{es:List (List V)}(h:SlF S0 S v z es):Frz (fun S=>SlAt (fun _=>True) S v z es) S fun _=>False:=
 ⟨fun q=>rowOf v=some q,fun q e=>⟨h.some e,fun f=>f⟩,fun S' k=>(h.keep fun r hr=>k r hr).at.imp fun r _ _=>⟨trivial,rfl⟩⟩
theorem stepA {Sb S:St}{p:Pt}{ov mv1:V}{main:List (List V)}{c:Nat}{Q:St->Prop}{X:Pt->Prop}{Φ:St->Prop}(h:PZ Sb S p ov mv1 main)(hn:main.length<100)(hF:Frz Φ S fun r=>r=p\/rowOf mv1=some r)
  (kont:∀S' mv' e2,PZ Sb S' p ov mv' (main++[e2])->Frz (fun S=>Φ S/\NT S [] e2) S' (fun r=>r=p\/rowOf mv'=some r)->Q S'):StepsD Sb p [(true,adS,c)] S Q:=by
 rw[StepsD];refine actC (Q:=fun v S'=>v= .int .i64 0/\WF S'/\(∀q,Sb.row q≠ .none->S'.row q=S.row q)/\StepsD Sb p [] S' Q) Jpl rfl rfl rfl h.g.wf (Jd h.c.choose_spec) fun S1 χ a pv g1 eh Ha fr hx hpv=> ?_;obtain⟨spv,A1⟩:=addFrz Ha fr hpv;have hlive:∀r,r=p\/rowOf mv1=some r->S.row r≠ .none:=fun r e=>by
  rcases e with rfl|e
  ·exact Jd h.c.choose_spec
  ·exact h.m.some e
 have h1:=h.gr g1;refine(placeA (at1:=c) (pv:=mv χ pv) (P:=fun S1 S'=>(∀r,Sb.row r≠ .none->S1.row r=S.row r)/\PutQ Sb p [] Q S1 S') g1.wf spv fun S2 G2=> ?_).mono fun v S' ⟨e,S2,G2,k0,k1,k2,k3⟩=>⟨e,k1,fun r hr=>by rw[k2 r hr,k0 r hr],k3⟩
 have G:=g1.trans G2;have h2:=h1.gr G2;refine(putZ (k:=2) (at_:=c) (pv:=mv χ pv) (b:= .snil) (el:= .snil) (cv:= .snil) (he:=false) h2 spv rfl rfl rfl (by omega)).mono fun v S3 ⟨C3,e3,mv3,P3,f3⟩=>⟨e3,fun r hr=>by rw[G.same r (by rw[h.g.same r hr];exact hr)],P3.g.wf,fun r hr=>by rw[P3.g.same r hr,h2.g.same r hr], ?_⟩
 refine kont S3 mv3 _ P3 ?_;have A2:Frz (fun S=>AddP S (mv χ pv)) S2 fun r=>r=p\/rowOf mv1=some r:=(A1.gr G2).mon fun r x=> .inl (hlive r x);have F2:=hF.gr G;refine((F2.and A2).ch (X':=fun r=>r=p\/rowOf mv3=some r) C3 (fun r w=>w) fun r x=> ?_).imp fun S' ⟨x,y⟩=>⟨x,c,mv χ pv,rfl,y⟩
 rcases x with x|x
 ·exact .inl (.inl x)
 ·exact .inr (f3 r x)
theorem parseW {ws:List Nat}{two:Bool}{S:St}(hw:WF S)(h4:∀w∈ws,w<4)(h8:ws.length<=8):
  Does (tabT tabD) jj [ofL (chS ws two)] S fun v S'=>Gr S S'/\∃r mv es,v= .tup [.slx r 0 1 2 1, .int .i64 0, .int .i64 0]/\(∃t,S'.row r= .cells t [ofL [],mv])/\SlAt (fun _=>True) S' mv 9 es/\BodN S' ws two es:=by
 have hps:(chP ws two).length<1000:=by
  have e5:=JeU ws 0;have e6:(twoP two ((opsS ws).length+11+7*ws.length)).length<=1:=by cases two<;>simp[twoP]
  simp only[chP,List.length_append,List.length_cons,JcD];omega
 refine Does.gr tabM hw ((parseC0 (R:=fun S2 mv=>Frz (fun S=>∃es,SlAt (fun _=>True) S mv 9 es/\BodN S ws two es) S2 fun _=>False) hw (Jo9 h4 h8) hps ?_).mono ?_);rotate_left
 ·rintro v S' ⟨same,mv,S2,r,hR,g,rfl,rn,rr⟩;obtain⟨es,h1,h2⟩:=(hR.gr g).get;exact⟨same,r,mv,es,rfl,rr,h1,h2⟩
 intro Sb S1 p gb g1 pn rp;have P1:PO Sb S1 p .snil []:=⟨g1,pn,rp,SlF.nil _ _ _,(fun e=>by cases e)⟩
 have hlist:chP ws two=(opsP ws 0++((true,adS,(opsS ws).length)::endsP ws ((opsS ws).length+11)))++twoP two ((opsS ws).length+11+7*ws.length):=by simp[chP]
 rw[hlist];have p1:S1.row p≠ .none:=Jd rp.choose_spec;refine blockC (Jpm ws 0 _ _) h4 P1 (.inl rfl) (by simp;omega) fun S2 y e he C2 T hy hN=> ?_;obtain⟨ov,Z⟩:=T.zero;obtain⟨k1,at1,pv1,b1,el1,he1,cv1,rfl,s0,s1,s2,s3⟩:=he;refine(putZ Z s0 s1 s2 s3 (by decide)).mono fun v S3 ⟨C3,e3,mv3,P3,f3⟩=>⟨e3,P3.g.wf,fun r hr=>by rw[P3.g.same r hr,Z.g.same r hr], ?_⟩
 have F3:Frz (fun S=>NT S ws (nd9 k1 at1 pv1 b1 el1 he1 cv1)) S3 fun r=>r=p\/rowOf mv3=some r:=by
  refine hN.ch C3 (fun r w=> ?_) fun r x=> ?_
  ·rcases w with w|w
   ·exact .inl (by rw[w];exact p1)
   ·cases w
  ·rcases x with x|x
   ·exact .inl (.inl (by rw[x];exact p1))
   ·exact .inr (f3 r x)
 have fin:∀{S':St} {mv':V} {es:List (List V)} {X:Pt->Prop},PZ Sb S' p ov mv' es->Frz (fun S=>BodN S ws two es) S' X->∃mv,PEnd0 Sb S' p mv/\Frz (fun S=>∃es,SlAt (fun _=>True) S mv 9 es/\BodN S ws two es) S' fun _=>False:=fun{S' mv' es X} P' F'=>
  ⟨mv',⟨P'.g.wf,P'.c.imp fun t c=>⟨ov,c,P'.lo⟩,P'.m.at.sc⟩,((SlF.frz P'.m).and (F'.mon fun r x=>x.elim)).imp fun S x=>⟨es,x.1,x.2⟩⟩
 cases two with
 | false=>
   exact fin P3 (F3.imp fun S x=>⟨_,x, .inl ⟨rfl,rfl⟩⟩)
 | true=>
   exact stepA (X:=fun _=>False) P3 (by simp) F3 fun S4 mv4 e2 P4 F4=>fin P4 (F4.imp fun S x=>⟨_,x.1, .inr ⟨rfl,e2,x.2,rfl⟩⟩)
theorem NT.of {S0 S:St}(hz:∀r,S0.row r≠ .none->S.row r=S0.row r):∀{ws:List Nat} {e:List V},NT S0 ws e->NT S ws e
 | [],e,h=>by
   obtain⟨at_,pv,rfl,hp⟩:=h;exact⟨at_,pv,rfl,hp.of hz⟩
 | v::r,e,h=>by
   obtain⟨at_,pv,bv,e',h1,h2,h3,h4⟩:=h;refine⟨at_,pv,bv,e',h1.of hz,h2.imp fun q _ e=>⟨trivial,hz q e⟩,NT.of hz h3, ?_⟩;rcases h4 with h|h|⟨h,cv,h5,h6⟩
   ·exact .inl h
   ·exact .inr (.inl h)
   ·exact .inr (.inr ⟨h,cv,h5.imp fun q _ e=>⟨trivial,hz q e⟩,h6⟩)
theorem textW {ws:List Nat}{two:Bool}{S:St}{e1:List V}(hw:WF S)(ho:chOk ws)(h4:∀w∈ws,w<4)(h8:ws.length<=8)(hs:SchC (fun r=>S.row r≠ .none) S e1 (schT ws)):
  Does (tabT tabD) JbZ [.agg e1,ofL (chS ws two)] S fun v S'=>Gr S S'/\v= .int .i64 (if two=true/\ws≠[]then 17 else 0):=by
 refine JW tabM Ja4 rfl hw fun K fin=> ?_;obtain⟨n0,hn0⟩:=nxE S;have hsch:=hs;obtain⟨c,tv,sv,rfl,h1,h2,h3⟩:=hs;obtain⟨M,hM⟩:∃M,M=chT ws:=⟨_,rfl⟩
 have h1:TyC (fun r=>S.row r≠ .none) S c M:=by rw[hM];exact h1
 obtain⟨nv,kv,es,rfl,x1,x2,x3,x4⟩:=h1.inv;have cs1:=x1.cells;have cs2:=x1.sc;have cs3:=x2.cells;have cs4:=x2.sc;have cv1:=h2.sc;have cv2:=h3.sc;simp only[K8,XY,simprocAttr];rw[Jb];simp only[XY,simprocAttr,hn0,cs1,cs2,cs3,cs4,cv1.1,cv1.2,cv2.1,cv2.2];refine JM ?_;intro S2 hS2;have G2:Gr S S2:=by rw[hS2];exact Gr.new hw (Ja _)
 obtain⟨p2,hp2⟩:=exE (up 0 n0);obtain⟨t2,r2⟩:∃t,S2.row p2= .cells t [.int .i64 M.kind,ofL M.name,nv,kv,tv,sv]:=⟨_,by rw[hS2,hp2];simp only[XZ,simprocAttr,hn0];rfl⟩
 rw[<-hp2];clear hS2;have hs2:SchC (fun r=>S2.row r≠ .none) S2 ([.int .i64 M.kind,ofL M.name,nv,kv]++[tv,sv]) (schT ws):=hsch.imp fun r p _=>⟨by rw[G2.same r p];exact p,G2.same r p⟩
 rw[Jb];simp only[XY,simprocAttr,r2];refine Je (tablesC G2.wf hs2 ho h8) ?_;rintro _ S3 ⟨G3,rt,ru,W,F,rfl,hT,hWF⟩;obtain⟨n3,hn3⟩:=nxE S3;simp only[XY,simprocAttr,hn3,cs1,cs2,cs3,cs4,cv1.1,cv1.2,cv2.1,cv2.2];refine JM ?_;intro S4 hS4;have G4:Gr S3 S4:=by rw[hS4];exact(Gr.refl G3.wf).nw hn3 (Ja _) (Ja _)
 clear hS4;rw[Jb];simp only[XY,simprocAttr];refine Je (parseW (two:=two) G4.wf h4 h8) ?_;rintro _ S5 ⟨G5,r,mv,es,rfl,⟨tr,rr⟩,hsl,hb⟩;simp only[XY,simprocAttr];have hpe:∀r:Pt,eqV (EK.one KD.p) false (.ptr r 0) .pnil=some (.bool false, .no):=fun _=>rfl;rw[Jl,Jb];simp only[XY,simprocAttr,hpe];obtain⟨n5,hn5⟩:=nxE S5;have w5:=G5.wf;rw[Jb];simp only[XY,simprocAttr,hn5];obtain⟨S6,hS6⟩:∃S6,S6=S5.new fun t=>Row.cells t [ofL [116]]:=⟨_,rfl⟩
 have G6:Gr S5 S6:=by rw[hS6];exact Gr.new w5 (Ja _)
 rw[<-hS6];clear hS6;have hT6:Tab W F S6 rt (tbT ws):=hT.gr (G4.trans (G5.trans G6));have hT6':Tab W F {S6 with low:=S6.t} rt (tbT ws):=hT6.keep fun r _ _=>rfl;refine JF (P:=fun v _=>v= .int .i64 (ws.length:Nat)) ((mainC hT6').mono fun v S' ⟨e,h⟩=>⟨by rw[<-h];exact Gr.refl (KN G6.wf _),e⟩) ?_;rintro _ S7 G7 rfl;have rr7:=G7.cells (G6.cells rr);have ir:iaddrSV 2 (.slx r 0 1 2 1) (.int .i64 0)=some (.ptr r 0, .no):=rfl;simp only[XY,simprocAttr,ir,rr7];have w7:=KN G7.wf S7.t;have hT7:Tab W F {S7 with low:=S7.t} rt (tbT ws):=(hT6.gr G7).keep fun r _ _=>rfl;have same7:∀q,S5.row q≠ .none->({S7 with low:=S7.t}:St).row q=S5.row q:=fun q e=>(G6.trans G7).same q e;have hsl7:SlAt (fun _=>True) {S7 with low:=S7.t} mv 9 es:=hsl.imp fun q _ e=>⟨trivial,same7 q e⟩
 obtain⟨e,hNT,hes⟩:=hb;have hNT:=NT.of same7 hNT;have hA:∃A,(chL ws)[ws.length]? =some A/\(A=chI\/∃v j,v<4/\A=chD v j)/\(A=chI<->ws=[]):=by
  cases ws with
  |nil=>exact⟨chI,rfl, .inl rfl,by simp⟩
  |cons v r=>exact⟨chD v r.length,JkD v r [], .inr ⟨v,_,h4 v (List.mem_cons_self ..),rfl⟩,by simp[chD,chI]⟩
 obtain⟨A,hA1,hA2,hA3⟩:=hA;have first:∀w,NodeR {S7 with low:=S7.t} w rt (.slx (up 0 n5) 0 1 1 1) ws.length e 0:=fun w=>nodeT hT7 ws [] e rfl h4 h8 hNT
 have hB:Does (tabT tabD) Jdf [.ptr rt 0, .slx (up 0 n5) 0 1 1 1, .int .i64 (ws.length:Nat),mv] {S7 with low:=S7.t} fun v S'=>(∀r,({S7 with low:=S7.t}:St).row r≠ .none->S'.row r=({S7 with low:=S7.t}:St).row r)/\∃c a,v= .tup [c, .int .i64 a, .int .i64 (if two=true/\ws≠[]then 17 else 0)]:=by
  rcases hes with⟨rfl,rfl⟩|⟨rfl,e2,hN2,rfl⟩
  ·exact bodyF (cs:=[0]) w7 rfl hsl7 (by simp) rfl fun w i a b=>by
    have:i=0:=by simp at a;omega
    subst this;exact first w
  ·have hN2:=NT.of same7 hN2;have hcode:codeL [0,if A=chI then(0:Int)else 17]=if true=true/\ws≠[]then 17 else 0:=by
    by_cases c:ws=[]
    ·rw[if_pos (hA3.2 c),if_neg fun h=>h.2 c];rfl
    ·rw[if_neg fun h=>c (hA3.1 h),if_pos ⟨rfl,c⟩];rfl
   rw[<-hcode];exact bodyF (cs:=[0,if A=chI then(0:Int)else 17]) w7 rfl hsl7 (by simp) rfl fun w i a b=>by
    rcases(by simp at a;omega:i=0\/i=1)with rfl|rfl
    ·exact first w
    ·exact nodeP hT7 hA1 hA2 hN2
 refine Y9 (W:=fun _=>False) G7.wf (Does.ch tabM w7 (hB.mono fun v S' h=>⟨fun r e _=>h.1 r e,h.2⟩)) ?_;rintro v S8 lo C8 ⟨c,a,rfl⟩;simp only[XZ,simprocAttr];refine fin _ _ (fun r e=> ?_) fun _=>rfl;have G07:=(((G2.trans G3).trans G4).trans (G5.trans G6)).trans G7;exact(C8.same r (by rw[G07.same r e];exact e) fun f=>f).trans (G07.same r e)
end Go.Proofs.YtcgiahehkobpcaaGreat
