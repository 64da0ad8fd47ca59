/- The law. No condition. -/
import Derived.Test.YtcgiahehkobpcaaGreatQ2
set_option linter.unusedVariables false
set_option linter.unusedSimpArgs false
set_option linter.unusedSectionVars false
set_option maxRecDepth 100000
namespace Go.Proofs.YtcgiahehkobpcaaGreat
open Eva Go.RowKit
theorem holdS {S:St}{m:Nat}{p0 p1:Pt}(hw:WF S)(r0:∃t,S.row p0= .cells t (nmsM m))(r1:∃t,S.row p1= .cells t (kdsM m))(n01:p0≠p1)(hm:inT (St.start.new fun t=>Row.cells t (nmsM m)).nx.num (St.start.new fun t=>Row.cells t (nmsM m)).h=true)(hm2:inT (aS m).nx.num (aS m).h=true)(c0:closeds (nmsM m)=true)(c1:closeds (kdsM m)=true):∃φ:Rn,Hold φ (aS m) S/\φ .h=p0/\φ (.a .h)=p1:=by
 obtain⟨t0,r0⟩:=r0
 obtain⟨t1,r1⟩:=r1
 have H0:=Hold.start (S:=S) (fun _=> .int .i64 0) (fun _=>⟨_,_,rfl⟩) hw
 obtain⟨φ1,ag1,e1,H1⟩:=H0.add (q:=p0) (f:=fun t=> .cells t (nmsM m)) (Jj _) (Jh r0) (fun p h=>absurd h (Nat.not_lt_zero _)) ⟨t0,by rw[r0,Yh _ _ c0],trivial⟩ (Qw _ _ c0) hm
 have e1:φ1 .h=p0:=e1
 obtain⟨φ2,ag2,e2,H2⟩:=H1.add (q:=p1) (f:=fun t=> .cells t (kdsM m)) (Jj _) (Jh r1) (fun p h=>by
  have:p= .h:=num0 (by have:p.num<1:=h;omega)
  rw[this,e1];exact n01) ⟨t1,by rw[r1,Yh _ _ c1],trivial⟩ (Qw _ _ c1) hm2
 exact⟨φ2,H2,by rw[ag2.f .h (by show 0<1;omega),e1],e2⟩
theorem JsQ {m:Nat}(h1:1<=m)(h6:m<=6):(inT (St.start.new fun t=>Row.cells t (nmsM m)).nx.num (St.start.new fun t=>Row.cells t (nmsM m)).h=true/\inT (aS m).nx.num (aS m).h=true)/\closeds (nmsM m)=true/\closeds (kdsM m)=true:=by
 rcases(by omega:m=1\/m=2\/m=3\/m=4\/m=5\/m=6)with rfl|rfl|rfl|rfl|rfl|rfl<;>exact⟨⟨by kernel_rfl,by kernel_rfl⟩,by kernel_rfl,by kernel_rfl⟩
theorem Jji {S1 st:St}{nv:V}{z n:Nat}{l e:List V}{P:Pt->Prop}{vx:V}{R:V->St->Prop}(g:Gr S1 st)(h:(n=0/\nv= .snil/\l=[])\/∃q t,0<n/\nv= .sl q 0 n z/\st.row q= .cells t l/\S1.row q= .none)(hl:l.length=n*z)(hx:SlAt P st vx z [e])(hok:okC [e])(hn:n<1000)
  (k:∀S' q',Gr S1 S'->st.row q'= .none->S1.row q'= .none->(∃t,S'.row q'= .cells t (l++e))->(∀r,st.row r≠ .none->rowOf nv≠some r->S'.row r=st.row r)->R (.sl q' 0 (n+1) z) S'):wW (appV st z nv vx) st R:=by
 have hnx:=Yu g.wf
 have hnx1:S1.row st.nx= .none:=Classical.byContradiction fun c=>c (by rw[<-g.same _ c];exact hnx)
 rcases h with⟨rfl,rfl,rfl⟩|⟨q,t,h0,rfl,hq,hq1⟩
 ·rw[Jek hx hok (by simp) (by simp),jS,Jao]
  refine k _ _ (g.nn (Jj _)) hnx hnx1 ⟨st.t,by rw[Ki,if_pos rfl];simp⟩ fun r hr _=> ?_
  rw[Ki,if_neg fun e=>hr (by rw[e];exact hnx)]
 ·rw[Jr7 hx hok hq hl hn,jS,Jir]
  refine k _ _ (g.dn hq1 (Jh hq) (by rw[hq];rfl) (Jj _)) hnx hnx1 ⟨_,by rw[Ki,if_pos (show st.nx=(st.wr q t Row.dead).nx from rfl)]⟩ fun r hr hne=> ?_
  have hrq:r≠q:=fun e=>hne (by rw[e];rfl)
  have hrn:r≠st.nx:=fun e=>hr (by rw[e];exact hnx)
  have e1:((st.wr q t Row.dead).new fun u=>Row.cells u (l++e)).row r=(st.wr q t Row.dead).row r:=by rw[Ki,if_neg (by exact hrn)]
  rw[e1,JF,if_neg hrq]
set_option maxHeartbeats 4000000 in
theorem Jgs (st:St)(hw:WF st)(a0:Int)(ha0: -9223372036854775808<=a0)(ha1:a0<9223372036854775808)(v:V)(zs:List Int)(hv:IntsAt st v zs)(hz:∀z∈zs,-9223372036854775808<=z/\z<9223372036854775808)(hn:zs.length<=maxLen)(o:Bool)(a3:Int)(ha3: -9223372036854775808<=a3)(ha4:a3<9223372036854775808):
  Does (tabT tabD) kM [.int .i64 a0,v, .bool o, .int .i64 a3] st fun v' _=>v'= .bool true:=by
 refine YK kC rfl ?_
 have hlen:=hv.len
 simp only[JC,XY,simprocAttr]
 rw[Jk];simp only[XY,simprocAttr]
 rw[Ju,Jk];simp only[XY,simprocAttr]
 refine Js (pureC tabE tabM tabU Jhx rfl rfl hw) ?_
 rintro _ S1 ⟨G1,rfl⟩
 simp only[XY,simprocAttr]
 rw[Jk];simp only[XY,simprocAttr]
 refine Js (j6 a0 6 _ (by decide) (by decide)) ?_
 rintro _ _ ⟨rfl,rfl⟩
 obtain⟨m,hm⟩:∃m,m=(a0%6).toNat+1:=⟨_,rfl⟩
 have h1:1<=m:=by omega
 have h6:m<=6:=by omega
 have hme:IntKind.i64.wrap (1+a0%6)=((m:Nat):Int):=by rw[Q0 (by omega) (by omega)];omega
 simp only[XY,simprocAttr,hme]
 obtain⟨n1,hn1⟩:∃n,S1.nx=up 0 n:=⟨_,up0 _⟩
 rw[Jk];simp only[XY,simprocAttr,hn1]
 refine Qa ?_
 intro S2 hS2
 have G2:Gr S1 S2:=by rw[hS2];exact(Gr.refl G1.wf).nw hn1 (Jj _) (Jj _)
 obtain⟨p9,hp9⟩:∃b,b=up 0 n1:=⟨_,rfl⟩
 obtain⟨t9,r9⟩:∃t,S2.row p9= .cells t [.int .i64 8,ofL [], .snil, .snil]:=⟨_,by rw[hS2,hp9];simp only[XZ,simprocAttr,hn1];rfl⟩
 have p9n:S1.row p9= .none:=by rw[hp9];exact nx0 G1.wf hn1 0
 rw[<-hp9]
 clear hS2
 obtain⟨J,hJ⟩:∃J:Fr->St->Prop,∀fr S,J fr S<->fr 0= .int .i64 (m:Nat)/\fr 1=v/\fr 2= .bool o/\fr 3= .int .i64 a3/\fr 9= .ptr p9 0/\Gr S1 S/\∃q0 q1,q0≠q1/\q0≠p9/\q1≠p9/\(∃t,S.row p9= .cells t [.int .i64 8,ofL [], .sl q0 0 m 1, .sl q1 0 m 4])/\(∃t,S.row q0= .cells t (nmsM m))/\(∃t,S.row q1= .cells t (kdsM m)):=⟨_,fun _ _=>Iff.rfl⟩
 refine Jap J ?_ ?_
 ·rw[Jk];simp only[XY,simprocAttr]
  obtain⟨L,hL⟩:∃L:Nat->Fr->St->Prop,∀j fr S',L j fr S'<->∃(i:Nat) (nv kv:V),j+i=m/\fr 0= .int .i64 (m:Nat)/\fr 1=v/\fr 2= .bool o/\fr 3= .int .i64 a3/\fr 9= .ptr p9 0/\fr 10= .int .i64 i/\Gr S1 S'/\(∃t,S'.row p9= .cells t [.int .i64 8,ofL [],nv,kv])/\((i=0/\nv= .snil/\kv= .snil)\/∃q0 q1 t0 t1,0<i/\nv= .sl q0 0 i 1/\kv= .sl q1 0 i 4/\q0≠q1/\q0≠p9/\q1≠p9/\S'.row q0= .cells t0 (nmsM i)/\S'.row q1= .cells t1 (kdsM i)/\S1.row q0= .none/\S1.row q1= .none):=⟨_,fun _ _ _=>Iff.rfl⟩
  refine jh L m (by omega) ((hL _ _ _).2 ⟨0, .snil, .snil,by omega,by simp only[XZ,simprocAttr],by simp only[XZ,simprocAttr],by simp only[XZ,simprocAttr],by simp only[XZ,simprocAttr],by simp only[XZ,simprocAttr],by simp only[XZ,simprocAttr]<;>rfl,G2,⟨t9,r9⟩, .inl ⟨rfl,rfl,rfl⟩⟩) ?_
  intro j fr S3 hLj
  obtain⟨i,nv,kv,hj,f0,f1,f2,f3,f9,f10,G3,⟨t3,r3⟩,hnk⟩:=(hL _ _ _).1 hLj
  by_cases hi:i<m
  rotate_left
  ·have hi':¬(i:Int)<m:=by omega
   have him:i=m:=by omega
   subst him
   rw[Ju,Jk];simp only[XY,simprocAttr,f0,f10,hi']
   rcases hnk with⟨h0,_⟩|⟨q0,q1,t0,t1,_,rfl,rfl,d1,d2,d3,e1,e2,_,_⟩
   ·omega
   ·exact(hJ _ _).2 ⟨by simp only[XZ,simprocAttr,f0],by simp only[XZ,simprocAttr,f1],by simp only[XZ,simprocAttr,f2],by simp only[XZ,simprocAttr,f3],by simp only[XZ,simprocAttr,f9],G3,q0,q1,d1,d2,d3,⟨t3,r3⟩,⟨t0,e1⟩,⟨t1,e2⟩⟩
  have hi':(i:Int)<m:=by omega
  have hadd1:IntKind.i64.wrap ((i:Int)+1)=((i+1:Nat):Int):=by rw[Q0 (by omega) (by omega)];rfl
  obtain⟨n3,hn3⟩:∃n,S3.nx=up 0 n:=⟨_,up0 _⟩
  have w3:=G3.wf
  have o9:=fun k=>nes (qh w3 hn3 (Jh r3) k)
  rw[Ju,Jk];simp only[XY,simprocAttr,f0,f10,hi']
  have hu8:IntKind.u8.wrap (IntKind.i64.wrap (97+(i:Int)))=((97+i:Nat):Int):=by rw[Q0 (by omega) (by omega),Jiq (by omega) (by omega)];omega
  rw[Ju];simp only[XY,simprocAttr,f9,f10,r3,hn3,o9,hu8]
  obtain⟨A1,hA1⟩:∃A,A=(S3.new fun t=>Row.cells t [V.int .u8 ((97+i:Nat):Int)]):=⟨_,rfl⟩
  have ga1:Gr S3 A1:=by rw[hA1];exact Gr.new w3 (Jj _)
  have ra1:A1.row (up 0 n3)= .cells S3.t [V.int .u8 ((97+i:Nat):Int)]:=by rw[hA1,<-hn3,Ki,if_pos rfl]
  have hbts:=JiY ra1 (by omega)
  rw[<-hA1]
  clear hA1
  simp only[XY,simprocAttr,JqR,hbts]
  have htag:ofL [UInt8.ofNat (97+i)]=ofL (tagS i):=rfl
  rw[htag]
  obtain⟨n4,hn4⟩:∃n,A1.nx=up 0 n:=⟨_,up0 _⟩
  have r31:=ga1.cells r3
  have o91:=fun k=>nes (qh ga1.wf hn4 (Jh r31) k)
  simp only[XY,simprocAttr,hn4]
  obtain⟨A2,hA2⟩:∃A,A=(A1.new fun t=>Row.cells t [ofL (tagS i)]):=⟨_,rfl⟩
  have ga2:Gr A1 A2:=by rw[hA2];exact Gr.new ga1.wf (Jj _)
  have hone:SlAt (fun r=>r=up 0 n4) A2 (.slx (up 0 n4) 0 1 1 1) 1 [[ofL (tagS i)]]:=by
   have:=JbS (st:=A1) (z:=1) (e:=[ofL (tagS i)]) rfl
   rwa [hn4,<-hA2]at this
  rw[<-hA2]
  clear hA2
  have G32:=ga1.trans ga2
  have g12:=G3.trans G32
  have hnl:(nmsM i).length=i*1:=by rw[Jo5,Nat.mul_one]
  have hN:(i=0/\nv= .snil/\nmsM i=[])\/∃q t,0<i/\nv= .sl q 0 i 1/\A2.row q= .cells t (nmsM i)/\S1.row q= .none:=by
   rcases hnk with⟨rfl,a,_⟩|⟨q0,q1,t0,t1,a,b,_,_,_,_,c,_,d,_⟩
   ·exact .inl ⟨rfl,a,rfl⟩
   ·exact .inr ⟨q0,t0,a,b,G32.cells c,d⟩
  have nv9:rowOf nv≠some p9:=by
   rcases hnk with⟨_,a,_⟩|⟨q0,q1,t0,t1,_,b,_,_,d,_⟩
   ·rw[a];exact fun e=>by cases e
   ·rw[b];exact fun e=>by injection e with e;exact d e
  have kv9:rowOf kv≠some p9:=by
   rcases hnk with⟨_,_,a⟩|⟨q0,q1,t0,t1,_,_,b,_,_,d,_⟩
   ·rw[a];exact fun e=>by cases e
   ·rw[b];exact fun e=>by injection e with e;exact d e
  have r32:=ga2.cells r31
  refine Jji (S1:=S1) g12 hN hnl hone (fun e he=>by rw[List.mem_singleton.1 he];rfl) (by omega) ?_
  intro A3 x0 g3 x0n x01 ⟨tx0,rx0⟩ kp3
  have r33:A3.row p9= .cells t3 [.int .i64 8,ofL [],nv,kv]:=(kp3 p9 (Jh r32) nv9).trans r32
  have hrem:((i:Int)).tmod 3=((i%3:Nat):Int):=by rw[Int.tmod_eq_emod_of_nonneg (by omega)];omega
  have h3ne:(3:Int)≠0:=by decide
  have hadd3:IntKind.i64.wrap (1+((i%3:Nat):Int))=((1+i%3:Nat):Int):=by rw[Q0 (by omega) (by omega)];omega
  obtain⟨n5,hn5⟩:∃n,A3.nx=up 0 n:=⟨_,up0 _⟩
  simp only[XY,simprocAttr,f9,f10,r33,hrem,hadd3,hn5]
  obtain⟨A4,hA4⟩:∃A,A=(A3.new fun t=>Row.cells t (kdM i)):=⟨_,rfl⟩
  have ga4:Gr A3 A4:=by rw[hA4];exact Gr.new g3.wf (Jj _)
  have hone4:SlAt (fun r=>r=up 0 n5) A4 (.slx (up 0 n5) 0 1 4 1) 4 [kdM i]:=by
   have:=JbS (st:=A3) (z:=4) (e:=kdM i) rfl
   rwa [hn5,<-hA4]at this
  rw[show(A3.new fun t=>Row.cells t [V.int .i64 ((1+i%3:Nat):Int),ofL [], .snil, .snil])=A4 from hA4.symm]
  clear hA4
  have g4:=g3.trans ga4
  have hK:(i=0/\kv= .snil/\kdsM i=[])\/∃q t,0<i/\kv= .sl q 0 i 4/\A4.row q= .cells t (kdsM i)/\S1.row q= .none:=by
   rcases hnk with⟨rfl,_,a⟩|⟨q0,q1,t0,t1,a,b,c,d,_,_,_,e,_,f⟩
   ·exact .inl ⟨rfl,a,rfl⟩
   ·exact .inr ⟨q1,t1,a,c,ga4.cells ((kp3 q1 (Jh (G32.cells e)) (by rw[b];exact fun h=>by injection h with h;exact d h)).trans (G32.cells e)),f⟩
  have kvx:rowOf kv≠some x0:=by
   rcases hnk with⟨_,_,a⟩|⟨q0,q1,t0,t1,_,_,c,_,_,_,_,e,_,_⟩
   ·rw[a];exact fun e=>by cases e
   ·rw[c];exact fun h=>by injection h with h;exact Jh (G32.cells e) (by rw[h];exact x0n)
  have r34:=ga4.cells r33
  have rx4:=ga4.cells rx0
  refine Jji (S1:=S1) g4 hK (Jo6 i) hone4 (fun e he=>by rw[List.mem_singleton.1 he];rfl) (by omega) ?_
  intro A5 x1 g5 x1n x11 ⟨tx1,rx1⟩ kp5
  have r35:A5.row p9= .cells t3 [.int .i64 8,ofL [],nv,kv]:=(kp5 p9 (Jh r34) kv9).trans r34
  have rx5:A5.row x0= .cells tx0 (nmsM i++[ofL (tagS i)]):=(kp5 x0 (Jh rx4) kvx).trans rx4
  have x09:x0≠p9:=fun e=>Jh r32 (by rw[<-e];exact x0n)
  have x19:x1≠p9:=fun e=>Jh r34 (by rw[<-e];exact x1n)
  have x01':x0≠x1:=fun e=>Jh rx4 (by rw[e];exact x1n)
  simp only[XY,simprocAttr,f9,r35]
  refine⟨jD (v:=nv) (w:= .ptr p9 3) (q:=p9) (by simp only[XN,simprocAttr]) (by simp only[XN,simprocAttr]) rfl nv9, ?_⟩
  simp only[XZ,simprocAttr,f0,f1,f2,f3,f9,f10,hadd1]
  refine⟨m-(i+1),by omega,(hL _ _ _).2 ⟨i+1, .sl x0 0 (i+1) 1, .sl x1 0 (i+1) 4,by omega,by simp only[XZ,simprocAttr,f0],by simp only[XZ,simprocAttr,f1],by simp only[XZ,simprocAttr,f2],by simp only[XZ,simprocAttr,f3],by simp only[XZ,simprocAttr,f9],by simp only[XZ,simprocAttr], ?_,⟨_,by rw[JF,if_pos rfl]⟩, .inr ⟨x0,x1,tx0,tx1,by omega,rfl,rfl,x01',x09,x19, ?_, ?_,x01,x11⟩⟩⟩
  ·refine Gr.wr (Gr.wr g5 p9n (Jh r35) (by rw[r35];rfl) (Jj _)) p9n ?_ ?_ (Jj _)
   ·rw[JF,if_pos rfl];exact fun e=>by cases e
   ·rw[JF,if_pos rfl];rfl
  ·rw[JF,if_neg x09,JF,if_neg x09,rx5,Jm8]
  ·rw[JF,if_neg x19,JF,if_neg x19,rx1,Jgr]
 intro fr S hJ6
 obtain⟨f0,f1,f2,f3,f9,GS,q0,q1,d01,d09,d19,⟨u9,r9⟩,⟨u0,r0⟩,⟨u1,r1⟩⟩:=(hJ _ _).1 hJ6
 have wS:=GS.wf
 obtain⟨n6,hn6⟩:∃n,S.nx=up 0 n:=⟨_,up0 _⟩
 rw[Jk];simp only[XY,simprocAttr,hn6]
 refine Qa ?_
 intro S5 hS5
 have G5:Gr S S5:=by rw[hS5];exact Gr.new wS (Jj _)
 obtain⟨p8,hp8⟩:∃b,b=up 0 n6:=⟨_,rfl⟩
 have r8:∃t,S5.row p8= .cells t ((wasR 9 []).map V.bool):=⟨_,by rw[hS5,hp8];simp only[XZ,simprocAttr,hn6];rfl⟩
 have p8n:S.row p8= .none:=by rw[hp8];exact nx0 wS hn6 0
 rw[<-hp8]
 clear hS5
 rw[Jk];simp only[XY,simprocAttr]
 rw[Jk];simp only[XY,simprocAttr]
 obtain⟨b,hb⟩:∃b,b=(a3%3).toNat:=⟨_,rfl⟩
 have hb3:a3%3=(b:Int):=by omega
 have hb2:b<3:=by omega
 obtain⟨N,hN⟩:∃N,N=min zs.length 9:=⟨_,rfl⟩
 obtain⟨KA,hKA⟩:∃KA,KA=ksOf zs N:=⟨_,rfl⟩
 have hKl:KA.length=N:=by rw[hKA,Jb9];omega
 have hK7:∀k∈KA,k<7:=by rw[hKA];exact Jo1
 obtain⟨ok,hok⟩:∃ok,ok=okS m b o [] KA:=⟨_,rfl⟩
 obtain⟨tt,htt⟩:∃tt:Nat->List UInt8,∀i,tt i=([123,123]++(mtS++[125,125]))++mkM b (ksOf zs i):=⟨_,fun _=>rfl⟩
 have httl:∀i,i<=9->(tt i).length<=200:=fun i hi=>by
  have hml:=Jje b (ksOf zs i)
  have hbl:=Jht b
  have hkl:(ksOf zs i).length<=9:=by rw[Jb9];omega
  have hs:segL b<=21:=by unfold segL;omega
  have hm:segL b*(ksOf zs i).length<=21*9:=Nat.mul_le_mul hs hkl
  rw[htt,List.length_append,hml]
  have:([123,123]++(mtS++[125,125])).length=11:=rfl
  omega
 have tt0:ofL (tt 0)=ofL [123,123,109,97,116,99,104,32,46,125,125]:=by rw[htt];rfl
 rw[<-tt0]
 obtain⟨A,hA⟩:∃A:Int->V->Nat->St->Prop,∀w c i S,A w c i S<->(w=0/\c= .int .i64 (i:Nat)/\okS m b o (ksOf zs i) (KA.drop i)=ok/\cntL (wasR m (ksOf zs i))=i/\∃t,S.row p8= .cells t ((wasR 9 (ksOf zs i)).map V.bool))\/(w=ok/\ok≠0):=⟨_,fun _ _ _ _=>Iff.rfl⟩
 obtain⟨J2,hJ2⟩:∃J:Fr->St->Prop,∀fr S,J fr S<->fr 0= .int .i64 (m:Nat)/\fr 2= .bool o/\fr 9= .ptr p9 0/\fr 14=ofL (tt N)/\Ch (fun r=>r=p8) S5 S/\∃w,fr 12= .int .i64 w/\A w (fr 13) N S:=⟨_,fun _ _=>Iff.rfl⟩
 have p98:p9≠p8:=fun e=>Jh r9 (by rw[e];exact p8n)
 have q08:q0≠p8:=fun e=>Jh r0 (by rw[e];exact p8n)
 have q18:q1≠p8:=fun e=>Jh r1 (by rw[e];exact p8n)
 refine Jap J2 ?_ ?_
 ·rw[Jk];simp only[XY,simprocAttr]
  obtain⟨L,hL⟩:∃L:Nat->Fr->St->Prop,∀j fr S',L j fr S'<->∃i:Nat,j+i=N/\fr 0= .int .i64 (m:Nat)/\fr 1=v/\fr 2= .bool o/\fr 3= .int .i64 a3/\fr 9= .ptr p9 0/\fr 11= .ptr p8 0/\fr 14=ofL (tt i)/\fr 15= .int .i64 (i:Nat)/\Ch (fun r=>r=p8) S5 S'/\∃w,fr 12= .int .i64 w/\A w (fr 13) i S':=⟨_,fun _ _ _=>Iff.rfl⟩
  refine jh L N (by omega) ((hL _ _ _).2 ⟨0,by omega,by simp only[XZ,simprocAttr,f0],by simp only[XZ,simprocAttr,f1],by simp only[XZ,simprocAttr,f2],by simp only[XZ,simprocAttr,f3],by simp only[XZ,simprocAttr,f9],by simp only[XZ,simprocAttr],by simp only[XZ,simprocAttr],by simp only[XZ,simprocAttr]<;>rfl,Ch.refl _ G5.wf,0,by simp only[XZ,simprocAttr],(hA _ _ _ _).2 (.inl ⟨rfl,by simp only[XZ,simprocAttr]<;>rfl,hok.symm,Jo4 m,r8⟩)⟩) ?_
  intro j fr S6 hLj
  obtain⟨i,hj,f0,f1,f2,f3,f9,f11,f14,f15,C6,w,f12,hAw⟩:=(hL _ _ _).1 hLj
  by_cases hi:i<N
  rotate_left
  ·have hie:i=N:=by omega
   subst hie
   by_cases h1:i<zs.length
   ·have h1':(i:Int)<zs.length:=by omega
    have h2':¬(i:Int)<9:=by omega
    rw[Ju,Jk];simp only[XY,simprocAttr,f1,f15,hlen,h1',h2']
    exact(hJ2 _ _).2 ⟨by simp only[XZ,simprocAttr,f0],by simp only[XZ,simprocAttr,f2],by simp only[XZ,simprocAttr,f9],by simp only[XZ,simprocAttr,f14],C6,w,by simp only[XZ,simprocAttr,f12],by simp only[XZ,simprocAttr];exact hAw⟩
   ·have h1':¬(i:Int)<zs.length:=by omega
    rw[Ju,Jk];simp only[XY,simprocAttr,f1,f15,hlen,h1']
    exact(hJ2 _ _).2 ⟨by simp only[XZ,simprocAttr,f0],by simp only[XZ,simprocAttr,f2],by simp only[XZ,simprocAttr,f9],by simp only[XZ,simprocAttr,f14],C6,w,by simp only[XZ,simprocAttr,f12],by simp only[XZ,simprocAttr];exact hAw⟩
  have h1':(i:Int)<zs.length:=by omega
  have h2':(i:Int)<9:=by omega
  have hi1:i<zs.length:=by omega
  have hadd1:IntKind.i64.wrap ((i:Int)+1)=((i+1:Nat):Int):=by rw[Q0 (by omega) (by omega)];rfl
  obtain⟨q,a1,a2⟩:∃q,iaddrSV 1 v (.int .i64 i)=some (.ptr q i, .no)/\S6.row q= .ro (zs.map (V.int .i64)):=by
   obtain⟨q,a1,a2⟩:=(hv.gr ((G1.trans GS).trans G5)).at hi1
   refine⟨q,a1, ?_⟩
   have e5:S.row q≠ .none:=by
    obtain⟨q',b1,b2⟩:=(hv.gr (G1.trans GS)).at hi1
    rw[b1]at a1
    injection a1 with a1;injection a1 with a1;injection a1 with a1
    rw[<-a1,b2];exact fun e=>by cases e
   rw[C6.same q (by rw[a2];exact fun e=>by cases e) (fun e=>e5 (by rw[e];exact p8n)),a2]
  have a3':ld1 (S6.row q) i=some (.int .i64 zs[i], .no):=by rw[a2,Jhc,JlW hi1];rfl
  rw[Ju,Jk];simp only[XY,simprocAttr,f1,f15,hlen,h1',h2']
  rw[Ju];simp only[XY,simprocAttr]
  rw[Jk];simp only[XY,simprocAttr,f1,f15,a1,a3']
  refine Js (j6 zs[i] 7 _ (by decide) (by decide)) ?_
  rintro _ _ ⟨rfl,rfl⟩
  rw[<-Jo0]
  have hk7:=Jm6 zs[i]
  have hks:=Jkf hi1
  have hdrop:KA.drop i=kOf zs[i]::KA.drop (i+1):=by
   rw[List.drop_eq_getElem_cons (show i<KA.length by omega)]
   congr 1
   simp[hKA,ksOf]
  obtain⟨k,hk⟩:∃k,k=kOf zs[i]:=⟨_,rfl⟩
  rw[<-hk]at hk7 hks hdrop⊢
  have hts:tt (i+1)=((((tt i++[123,123,99,97,115,101,32])++tagS k)++[125,125,123,123])++mbS b)++[125,125]:=by
   rw[htt,htt,hks,JmP];simp[segM,mcS,List.append_assoc]
  have htl:=httl i (by omega)
  have hbl:=Jht b
  have w6:=C6.wf
  have hu8:IntKind.u8.wrap (IntKind.i64.wrap (97+(k:Int)))=((97+k:Nat):Int):=by rw[Q0 (by omega) (by omega),Jiq (by omega) (by omega)];omega
  obtain⟨n7,hn7⟩:∃n,S6.nx=up 0 n:=⟨_,up0 _⟩
  simp only[XY,simprocAttr]
  rw[Jk];simp only[XY,simprocAttr,f14,hn7,hu8]
  refine⟨by omega, ?_⟩
  obtain⟨A1,hA1⟩:∃A,A=(S6.new fun t=>Row.cells t [V.int .u8 ((97+k:Nat):Int)]):=⟨_,rfl⟩
  have ga1:Gr S6 A1:=by rw[hA1];exact Gr.new w6 (Jj _)
  have ra1:A1.row (up 0 n7)= .cells S6.t [V.int .u8 ((97+k:Nat):Int)]:=by rw[hA1,<-hn7,Ki,if_pos rfl]
  have hbts:=JiY ra1 (by omega)
  rw[<-hA1]
  clear hA1
  have htag:ofL [UInt8.ofNat (97+k)]=ofL (tagS k):=rfl
  obtain⟨n8,hn8⟩:∃n,A1.nx=up 0 n:=⟨_,up0 _⟩
  simp only[XY,simprocAttr,JqR,hbts,htag,hn8,f3]
  have tkl:(tagS k).length=1:=rfl
  refine⟨by simp only[List.length_append,List.length_cons,List.length_nil,tkl];omega,by simp only[List.length_append,List.length_cons,List.length_nil,tkl];omega, ?_⟩
  obtain⟨A2,hA2⟩:∃A,A=(A1.new fun t=>Row.cells t [ofL [46],ofL [108,101,110,32,46],ofL [97,100,100,32,46,32,49]]):=⟨_,rfl⟩
  have ga2:Gr A1 A2:=by rw[hA2];exact Gr.new ga1.wf (Jj _)
  have ra2:∃t,A2.row (up 0 n8)= .cells t [ofL [46],ofL [108,101,110,32,46],ofL [97,100,100,32,46,32,49]]:=⟨_,by rw[hA2,<-hn8,Ki,if_pos rfl]⟩
  rw[<-hA2]
  clear hA2
  refine Y6 (P:=fun v _=>v= .int .i64 (b:Nat)) ((j6 a3 3 _ (by decide) (by decide)).mono fun _ _ ⟨a,c⟩=>⟨by rw[<-c];exact Gr.refl (Yx ga2.wf _),by rw[a,hb3]⟩) ?_
  rintro _ S7 G7 rfl
  obtain⟨t2,ra2⟩:=ra2
  have ra7:=G7.cells ra2
  have hld:ld1 (S7.row (up 0 n8)) b=some (ofL (mbS b), .no):=by
   rw[ra7]
   rcases(by omega:b=0\/b=1\/b=2)with e|e|e<;>rw[e]<;>rfl
  have hia:iaddrSV 1 (.slx (up 0 n8) 0 3 1 3) (.int .i64 (b:Nat))=some (.ptr (up 0 n8) b, .no):=by
   rcases(by omega:b=0\/b=1\/b=2)with e|e|e<;>rw[e]<;>rfl
  simp only[XY,simprocAttr,hia,hld]
  refine⟨by simp only[List.length_append,List.length_cons,List.length_nil,tkl];omega,by simp only[List.length_append,List.length_cons,List.length_nil,tkl];omega, ?_⟩
  have C7:Ch (fun r=>r=p8) S5 S7:=C6.gr ((ga1.trans ga2).trans G7)
  have fin:∀(fr':Fr) (S':St),fr' 0= .int .i64 (m:Nat)->fr' 1=v->fr' 2= .bool o->fr' 3= .int .i64 a3->fr' 9= .ptr p9 0->fr' 11= .ptr p8 0->fr' 14=ofL (tt (i+1))->fr' 15= .int .i64 ((i+1:Nat):Int)->Ch (fun r=>r=p8) S5 S'->(∃w,fr' 12= .int .i64 w/\A w (fr' 13) (i+1) S')->∃j',j'<j/\L j' fr' S':=fun fr' S' b0 b1 b2 b3 b9 b11 b14 b15 c d=>⟨N-(i+1),by omega,(hL _ _ _).2 ⟨i+1,by omega,b0,b1,b2,b3,b9,b11,b14,b15,c,d⟩⟩
  by_cases hw0:w=0
  rotate_left
  ·rw[Ju,Jk];simp only[XZ,simprocAttr,f12,f15,hw0,hadd1]
   rcases(hA _ _ _ _).1 hAw with⟨c,_⟩|⟨c,c'⟩
   ·exact absurd c hw0
   exact fin _ _ (by simp only[XZ,simprocAttr,f0]) (by simp only[XZ,simprocAttr,f1]) (by simp only[XZ,simprocAttr,f2]) (by simp only[XZ,simprocAttr,f3]) (by simp only[XZ,simprocAttr,f9]) (by simp only[XZ,simprocAttr,f11]) (by simp only[XZ,simprocAttr,hts]) (by simp only[XZ,simprocAttr]) C7 ⟨w,by simp only[XZ,simprocAttr,f12],(hA _ _ _ _).2 (.inr ⟨c,c'⟩)⟩
  subst hw0
  rcases(hA _ _ _ _).1 hAw with⟨_,f13,hokS,hcnt,u8,r86⟩|⟨c,c'⟩
  rotate_left
  ·exact absurd c.symm c'
  rw[Ju,Jk];simp only[XY,simprocAttr,f12]
  have hrem:((k:Int)).tmod 3=((k%3:Nat):Int):=by rw[Int.tmod_eq_emod_of_nonneg (by omega)];omega
  have hadd3:IntKind.i64.wrap (1+((k%3:Nat):Int))=((1+k%3:Nat):Int):=by rw[Q0 (by omega) (by omega)];omega
  rw[Jk];simp only[XY,simprocAttr,hrem,hadd3]
  obtain⟨acc,hacc⟩:∃acc,acc=ksOf zs i:=⟨_,rfl⟩
  rw[<-hacc]at hks hokS hcnt r86
  have hal:acc.length=i:=by rw[hacc,Jb9];omega
  have r87:=((ga1.trans ga2).trans G7).cells r86
  have hw9:ld1 (S7.row p8) k=some (.bool (decide (k∈acc)), .no):=by
   rw[r87,Y9,List.getElem?_map]
   have:(wasR 9 acc)[k]? =some (decide (k∈acc)):=by
    rw[List.getElem?_eq_getElem (by rw[Yl];omega)];simp[wasR]
   rw[this];rfl
  have hi9:iaddrAV S7 9 1 (.ptr p8 0) (.int .i64 (k:Nat))=some (.ptr p8 k, .no):=by
   rcases(by omega:k=0\/k=1\/k=2\/k=3\/k=4\/k=5\/k=6)with e|e|e|e|e|e|e<;>rw[e]<;>rfl
  obtain⟨wv,hwv⟩:∃wv:Int,wv=if m<=k\/k∈acc then 19 else cdM b (k%3):=⟨_,rfl⟩
  obtain⟨J3,hJ3⟩:∃J:Fr->St->Prop,∀fr S,J fr S<->fr 0= .int .i64 (m:Nat)/\fr 1=v/\fr 2= .bool o/\fr 3= .int .i64 a3/\fr 9= .ptr p9 0/\fr 11= .ptr p8 0/\fr 12= .int .i64 wv/\fr 13= .int .i64 (i:Nat)/\fr 14=ofL (tt (i+1))/\fr 15= .int .i64 (i:Nat)/\fr 16= .int .i64 (k:Nat)/\S=S7:=⟨_,fun _ _=>Iff.rfl⟩
  refine Jap J3 ?_ ?_
  rotate_left
  ·intro fr9 S9 hJ9
   obtain⟨f0,f1,f2,f3,f9,f11,f12,f13,f14,f15,f16,rfl⟩:=(hJ3 _ _).1 hJ9
   have hle:k+1<=((wasR 9 acc).map V.bool).length:=by rw[List.length_map,Yl];omega
   have hsp:splice ((wasR 9 acc).map V.bool) k [.bool true]=(wasR 9 (acc++[k])).map V.bool:=Jgq acc (by omega)
   rw[Jk];simp only[XN,simprocAttr,f11,f16,hi9,r87,hle]
   rw[hsp]
   obtain⟨S10,hS10⟩:∃S10,S10=S9.wr p8 u8 fun u=>Row.cells u ((wasR 9 (acc++[k])).map V.bool):=⟨_,rfl⟩
   have C10:Ch (fun r=>r=p8) S9 S10:=by rw[hS10];exact(Ch.refl (fun r=>r=p8) C7.wf).wr (Jh r87) (by rw[r87];rfl) (.inl rfl) (Jj _)
   have r10:S10.row p8= .cells S9.t ((wasR 9 (acc++[k])).map V.bool):=by rw[hS10,JF,if_pos rfl]
   rw[<-hS10]
   clear hS10
   simp only[XZ,simprocAttr,f13,f15,hadd1]
   refine fin _ _ (by simp only[XZ,simprocAttr,f0]) (by simp only[XZ,simprocAttr,f1]) (by simp only[XZ,simprocAttr,f2]) (by simp only[XZ,simprocAttr,f3]) (by simp only[XZ,simprocAttr,f9]) (by simp only[XZ,simprocAttr,f11]) (by simp only[XZ,simprocAttr,f14]) (by simp only[XZ,simprocAttr]) (C7.trans C10 fun _ w=> .inl w) ⟨wv,by simp only[XZ,simprocAttr,f12],(hA _ _ _ _).2 ?_⟩
   rw[hdrop]at hokS
   by_cases hc:m<=k\/k∈acc
   ·rw[if_pos hc]at hwv
    rw[okS,if_pos hc]at hokS
    exact .inr ⟨by rw[hwv,hokS],by rw[<-hokS];decide⟩
   rw[if_neg hc]at hwv
   rw[okS,if_neg hc,<-hwv]at hokS
   by_cases hwz:wv=0
   ·rw[if_pos hwz]at hokS
    exact .inl ⟨hwz,by simp only[XZ,simprocAttr],by rw[hks];exact hokS,by rw[hks,Jm7 (by rw[hcnt,hal]) (by omega) (fun h=>hc (.inr h)),List.length_append,hal];rfl,_,by rw[hks];exact r10⟩
   ·rw[if_neg hwz]at hokS
    exact .inr ⟨hokS,by rw[<-hokS];exact hwz⟩
  ·have j3:∀(fr':Fr) (S':St),fr' 0= .int .i64 (m:Nat)->fr' 1=v->fr' 2= .bool o->fr' 3= .int .i64 a3->fr' 9= .ptr p9 0->fr' 11= .ptr p8 0->fr' 12= .int .i64 wv->fr' 13= .int .i64 (i:Nat)->fr' 14=ofL (tt (i+1))->fr' 15= .int .i64 (i:Nat)->fr' 16= .int .i64 (k:Nat)->S'=S7->J3 fr' S':=fun fr' S' c0 c1 c2 c3 c9 c11 c12 c13 c14 c15 c16 c=>(hJ3 _ _).2 ⟨c0,c1,c2,c3,c9,c11,c12,c13,c14,c15,c16,c⟩
   by_cases hmk:m<=k
   ·rw[if_pos (.inl hmk)]at hwv
    have hge:(m:Int)<=k:=by omega
    simp only[XZ,simprocAttr,f0,hge]
    exact j3 _ _ (by simp only[XZ,simprocAttr,f0]) (by simp only[XZ,simprocAttr,f1]) (by simp only[XZ,simprocAttr,f2]) (by simp only[XZ,simprocAttr,f3]) (by simp only[XZ,simprocAttr,f9]) (by simp only[XZ,simprocAttr,f11]) (by simp only[XZ,simprocAttr,hwv]) (by simp only[XZ,simprocAttr,f13]) (by simp only[XZ,simprocAttr,hts]) (by simp only[XZ,simprocAttr,f15]) (by simp only[XZ,simprocAttr]) rfl
   have hge:¬(m:Int)<=k:=by omega
   by_cases hin:k∈acc
   ·rw[if_pos (.inr hin)]at hwv
    simp only[XZ,simprocAttr,f0,f11,hge,hi9,hw9,hin]
    exact j3 _ _ (by simp only[XZ,simprocAttr,f0]) (by simp only[XZ,simprocAttr,f1]) (by simp only[XZ,simprocAttr,f2]) (by simp only[XZ,simprocAttr,f3]) (by simp only[XZ,simprocAttr,f9]) (by simp only[XZ,simprocAttr,f11]) (by simp only[XZ,simprocAttr,hwv]) (by simp only[XZ,simprocAttr,f13]) (by simp only[XZ,simprocAttr,hts]) (by simp only[XZ,simprocAttr,f15]) (by simp only[XZ,simprocAttr]) rfl
   rw[if_neg (fun h=>h.elim hmk hin)]at hwv
   have hw3:∀c:Int,a3%3=c->Does (tabT tabD) Y4 [.int .i64 a3, .int .i64 3] S7 fun v S'=>v= .int .i64 c/\S7=S':=fun c hc=>(j6 a3 3 _ (by decide) (by decide)).mono fun _ _ ⟨a,d⟩=>⟨by rw[a,hc],d⟩
   rw[Jr8 b k hb2]at hwv
   simp only[XZ,simprocAttr,f0,f3,f11,hge,hi9,hw9,hin]
   rcases(by omega:b=0\/b=1\/b=2)with e|e|e
   ·refine Js (hw3 0 (by omega)) ?_
    rintro _ _ ⟨rfl,rfl⟩
    rw[if_neg (by omega)]at hwv
    simp only[XZ,simprocAttr,f3]
    refine Js (hw3 0 (by omega)) ?_
    rintro _ _ ⟨rfl,rfl⟩
    simp only[XZ,simprocAttr]
    exact j3 _ _ (by simp only[XZ,simprocAttr,f0]) (by simp only[XZ,simprocAttr,f1]) (by simp only[XZ,simprocAttr,f2]) (by simp only[XZ,simprocAttr,f3]) (by simp only[XZ,simprocAttr,f9]) (by simp only[XZ,simprocAttr,f11]) (by simp only[XZ,simprocAttr,hwv,f12]) (by simp only[XZ,simprocAttr,f13]) (by simp only[XZ,simprocAttr,hts]) (by simp only[XZ,simprocAttr,f15]) (by simp only[XZ,simprocAttr]) rfl
   ·refine Js (hw3 1 (by omega)) ?_
    rintro _ _ ⟨rfl,rfl⟩
    by_cases h3:((1+k%3:Nat):Int)=3
    ·rw[if_neg (by omega)]at hwv
     simp only[XZ,simprocAttr,f3,h3]
     refine Js (hw3 1 (by omega)) ?_
     rintro _ _ ⟨rfl,rfl⟩
     simp only[XZ,simprocAttr]
     exact j3 _ _ (by simp only[XZ,simprocAttr,f0]) (by simp only[XZ,simprocAttr,f1]) (by simp only[XZ,simprocAttr,f2]) (by simp only[XZ,simprocAttr,f3]) (by simp only[XZ,simprocAttr,f9]) (by simp only[XZ,simprocAttr,f11]) (by simp only[XZ,simprocAttr,hwv,f12]) (by simp only[XZ,simprocAttr,f13]) (by simp only[XZ,simprocAttr,hts]) (by simp only[XZ,simprocAttr,f15]) (by simp only[XZ,simprocAttr]) rfl
    ·rw[if_pos (by omega)]at hwv
     simp only[XZ,simprocAttr,f3,h3]
     exact j3 _ _ (by simp only[XZ,simprocAttr,f0]) (by simp only[XZ,simprocAttr,f1]) (by simp only[XZ,simprocAttr,f2]) (by simp only[XZ,simprocAttr,f3]) (by simp only[XZ,simprocAttr,f9]) (by simp only[XZ,simprocAttr,f11]) (by simp only[XZ,simprocAttr,hwv,f12]) (by simp only[XZ,simprocAttr,f13]) (by simp only[XZ,simprocAttr,hts]) (by simp only[XZ,simprocAttr,f15]) (by simp only[XZ,simprocAttr]) rfl
   ·refine Js (hw3 2 (by omega)) ?_
    rintro _ _ ⟨rfl,rfl⟩
    by_cases h3:((1+k%3:Nat):Int)=2
    ·rw[if_neg (by omega)]at hwv
     simp only[XZ,simprocAttr,f3]
     refine Js (hw3 2 (by omega)) ?_
     rintro _ _ ⟨rfl,rfl⟩
     simp only[XZ,simprocAttr,h3]
     exact j3 _ _ (by simp only[XZ,simprocAttr,f0]) (by simp only[XZ,simprocAttr,f1]) (by simp only[XZ,simprocAttr,f2]) (by simp only[XZ,simprocAttr,f3]) (by simp only[XZ,simprocAttr,f9]) (by simp only[XZ,simprocAttr,f11]) (by simp only[XZ,simprocAttr,hwv,f12]) (by simp only[XZ,simprocAttr,f13]) (by simp only[XZ,simprocAttr,hts]) (by simp only[XZ,simprocAttr,f15]) (by simp only[XZ,simprocAttr]) rfl
    ·rw[if_pos (by omega)]at hwv
     simp only[XZ,simprocAttr,f3]
     refine Js (hw3 2 (by omega)) ?_
     rintro _ _ ⟨rfl,rfl⟩
     simp only[XZ,simprocAttr,h3]
     exact j3 _ _ (by simp only[XZ,simprocAttr,f0]) (by simp only[XZ,simprocAttr,f1]) (by simp only[XZ,simprocAttr,f2]) (by simp only[XZ,simprocAttr,f3]) (by simp only[XZ,simprocAttr,f9]) (by simp only[XZ,simprocAttr,f11]) (by simp only[XZ,simprocAttr,hwv,f12]) (by simp only[XZ,simprocAttr,f13]) (by simp only[XZ,simprocAttr,hts]) (by simp only[XZ,simprocAttr,f15]) (by simp only[XZ,simprocAttr]) rfl
 intro fr S6 hJ6
 obtain⟨f0,f2,f9,f14,C6,w,f12,hAw⟩:=(hJ2 _ _).1 hJ6
 have w6:=C6.wf
 have old:∀{q:Pt},S.row q≠ .none->q≠p8->S6.row q=S.row q:=fun{q} h e=>by rw[C6.same q (by rw[G5.same q h];exact h) e,G5.same q h]
 have r96:=(old (Jh r9) p98).trans r9
 obtain⟨⟨x1,x2⟩,x3,x4⟩:=JsQ h1 h6
 obtain⟨φS,HS,es0,es1⟩:=holdS w6 ⟨_,(old (Jh r0) q08).trans r0⟩ ⟨_,(old (Jh r1) q18).trans r1⟩ d01 x1 x2 x3 x4
 have httN:=httl N (by omega)
 have hfin:(w=ok/\ok≠0)\/(w=0/\fr 13= .int .i64 (N:Nat)/\ok=if N<m/\o=false then 19 else 0):=by
  rcases(hA _ _ _ _).1 hAw with⟨a,c,d,e,_⟩|ha
  ·refine .inr ⟨a,c, ?_⟩
   rw[List.drop_eq_nil_of_le (by omega),okS]at d
   rw[<-hKA]at d e
   rw[<-d]
   have hany:=Jo3 (m:=m) (acc:=KA) (by rw[e,hKl])
   rw[hKl]at hany
   have hany':((List.range m).map fun k=>decide (k∈KA)).any not=true<->N<m:=hany
   simp only[hany']
  ·exact .inl ha
 obtain⟨J4,hJ4⟩:∃J:Fr->St->Prop,∀fr S,J fr S<->fr 2= .bool o/\fr 9= .ptr p9 0/\fr 14=ofL (tt N)/\fr 12= .int .i64 ok/\S=S6:=⟨_,fun _ _=>Iff.rfl⟩
 refine Jap J4 ?_ ?_
 ·have j4:∀(fr':Fr) (S':St),fr' 2= .bool o->fr' 9= .ptr p9 0->fr' 14=ofL (tt N)->fr' 12= .int .i64 ok->S'=S6->J4 fr' S':=fun fr' S' c2 c9 c14 c12 c=>(hJ4 _ _).2 ⟨c2,c9,c14,c12,c⟩
  by_cases hw0:w=0
  rotate_left
  ·rcases hfin with⟨hwk,_⟩|⟨c,_⟩
   rotate_left
   ·exact absurd c hw0
   simp only[XZ,simprocAttr,f12,hw0]
   exact j4 _ _ (by simp only[XZ,simprocAttr,f2]) (by simp only[XZ,simprocAttr,f9]) (by simp only[XZ,simprocAttr,f14]) (by simp only[XZ,simprocAttr,f12,hwk]) rfl
  subst hw0
  obtain⟨f13,hok'⟩:fr 13= .int .i64 (N:Nat)/\ok=if N<m/\o=false then 19 else 0:=by
   rcases hfin with⟨a,c⟩|⟨_,h⟩
   ·exact absurd a.symm c
   ·exact h
  cases o with
  | true=>
    rw[if_neg (fun h=>by cases h.2)]at hok'
    simp only[XZ,simprocAttr,f12,f2]
    exact j4 _ _ (by simp only[XZ,simprocAttr,f2]) (by simp only[XZ,simprocAttr,f9]) (by simp only[XZ,simprocAttr,f14]) (by simp only[XZ,simprocAttr,f12,hok']) rfl
  | false=>
    by_cases hnm:N<m
    ·rw[if_pos ⟨hnm,rfl⟩]at hok'
     have hlt:(N:Int)<m:=by omega
     simp only[XZ,simprocAttr,f12,f2,f13,f0,hlt]
     exact j4 _ _ (by simp only[XZ,simprocAttr,f2]) (by simp only[XZ,simprocAttr,f9]) (by simp only[XZ,simprocAttr,f14]) (by simp only[XZ,simprocAttr,f12,hok']) rfl
    ·rw[if_neg (fun h=>hnm h.1)]at hok'
     have hlt:¬(N:Int)<m:=by omega
     simp only[XZ,simprocAttr,f12,f2,f13,f0,hlt]
     exact j4 _ _ (by simp only[XZ,simprocAttr,f2]) (by simp only[XZ,simprocAttr,f9]) (by simp only[XZ,simprocAttr,f14]) (by simp only[XZ,simprocAttr,f12,hok']) rfl
 intro fr S7 hJ7
 obtain⟨f2,f9,f14,f12,rfl⟩:=(hJ4 _ _).1 hJ7
 have htm:=textM (m:=m) (b:=b) (o:=o) (ks:=KA) h1 h6 hb2 (by omega) hK7 HS
 rw[es0,es1]at htm
 have hall:mkAll b KA o=tt N++tlM o:=by rw[htt,<-hKA];simp[mkAll,List.append_assoc]
 rw[hall,<-hok]at htm
 cases o with
 | true=>
   rw[Ju,Jk];simp only[XY,simprocAttr,f2,f14]
   refine⟨by omega, ?_⟩
   rw[Jk];simp only[XY,simprocAttr,f9,r96]
   refine⟨by simp only[List.length_append,List.length_cons,List.length_nil];omega, ?_⟩
   rw[show tt N++[123,123,101,108,115,101,125,125,101]++[123,123,101,110,100,125,125]=tt N++tlM true by rw[List.append_assoc];rfl]
   refine Js htm ?_
   rintro _ S8 rfl
   simp only[XZ,simprocAttr,f12]
 | false=>
   rw[Ju,Jk];simp only[XY,simprocAttr,f2]
   rw[Jk];simp only[XY,simprocAttr,f9,f14,r96]
   refine⟨by omega, ?_⟩
   refine Js htm ?_
   rintro _ S8 rfl
   simp only[XZ,simprocAttr,f12]
end Go.Proofs.YtcgiahehkobpcaaGreat
