/- The place of no name: what the program's place does. No condition. -/
import Derived.Test.YtdajkeoobbonjaaGreatRows
import Derived.Test.YtdajkeoobbonjaaGreatShelf
import Derived.WalkKit
import Derived.Test.YtdajkeoobbonjaaGreatP3
import Derived.RangeFuncBox
import Derived.RangeFuncNested
import Derived.RangeFuncCalls
import Derived.RangeFuncLeaves
import Derived.Shelf.Abstract
import Derived.OwnWalkIn
import Derived.TacticsInMore
import Derived.LoopNIn
import Derived.LoopIn
set_option linter.constructorNameAsVariable false
set_option maxHeartbeats 4000000
namespace Go.Proofs.YtdajkeoobbonjaaGreat
open Go Go.RowKit Go.Shelf Eva
set_option linter.unusedVariables false
attribute [local go_sem] Oper.semAt_some
def QW (zs:List (ByteArray×Int))(k:Nat):List (Nat×ByteArray×Int):=(List.range k).map fun i=>(zs.length-1-i,zs.getD (zs.length-1-i) default)
theorem jL (zs:List (ByteArray×Int))(k:Nat):QW zs (k+1)=QW zs k++[(zs.length-1-k,zs.getD (zs.length-1-k) default)]:=by simp[QW,List.range_succ]
theorem Jgd (zs:List (ByteArray×Int))(k:Nat):(QW zs k).length=k:=by simp[QW]
set_option maxRecDepth 100000 in
theorem Jqe (F:Fence)(n:Nat)(h8:F.fn 185)(hro:F.round=none)(hn:1<=n)(l Bs n₀ b off cap:Nat)(zs:List (ByteArray×Int))(hreach:zs.length<=100000)(hb:b<n₀)(J Jx:List (Nat×ByteArray×Int)->World->Prop)
  (hY:∀pre x W,J pre W->pre.length<zs.length->YieldAt F (n-1) Tryz.prog l #[.int .i64 (x.1:Int), .agg #[.string x.2.1, .int .i64 x.2.2]] W fun e W'=>
   (e= .returned (.bool true)/\J (pre++[x]) W'/\Below n₀ W W')\/(e= .returned (.bool false)/\Jx (pre++[x]) W'))
  (W:World) (hBs:W.cell? ⟨Bs,0,none⟩=some (.slice (some ⟨b,off,none⟩) zs.length cap)) (hBn:Bs<n₀) (hc:∀j (h:j<zs.length),W.cell? ⟨b,off+2*j,none⟩=some (.string zs[j].1)/\W.cell? ⟨b,off+2*j+1,none⟩=some (.int .i64 zs[j].2)) (h0:J [] W):
  CallsIn F n Tryz.prog 185 #[.func (.yield l) #[] #[], .pointer (some ⟨Bs,0,none⟩)] W fun e W'=>(∃v,e= .returned v)/\
   ((∃ys,ys=QW zs zs.length/\J ys W')\/(∃pre,(∃k,k<=zs.length/\pre=QW zs k)/\Jx pre W')):=by
 refine callsIn_of_wp Tryz.func185 rfl h8 ?_ hro;simp only[Tryz.ntmps185,Zw,XF,Zq,Nat.reduceAdd,Nat.reduceSub,Zk,Zl,Zx,Zo,X0,X2]
 gi_wp2
 gi_loopw [3] (fun i wr=>∃k:Nat,k<=zs.length/\i= .int .i64 ((zs.length:Int)-1-k)/\J (QW zs k) wr/\Below n₀ W wr)
  (fun i _=>(intOf i+1).toNat)
 case atStart=>
  exact⟨0,XC _,by simp,h0,Below.refl _ _⟩
 case round=>
  obtain⟨k,hk,rfl,hJs,hnx⟩:=hrel;have hBs':wr.cell? ⟨Bs,0,none⟩=some (.slice (some ⟨b,off,none⟩) zs.length cap):=(hnx.cell (p:=⟨Bs,0,none⟩) hBn).trans hBs;by_cases hlt:k<zs.length
  ·obtain⟨j,hj⟩:∃j,j+k+1=zs.length:=⟨zs.length-1-k,by omega⟩
   have hjl:j<zs.length:=by omega
   have hji:(zs.length:Int)-1-k=(j:Int):=by omega
   have hget:zs.getD j default=zs[j]:=by rw[XA,Xg hjl];rfl
   have c1:wr.cell? ⟨b,off+j*2,none⟩=some (.string zs[j].1):=by rw[Z7 j 2];exact(hnx.cell (p:=⟨b,off+2*j,none⟩) hb).trans (hc j hjl).1
   have c2:wr.cell? ⟨b,off+j*2+1,none⟩=some (.int .i64 zs[j].2):=by rw[Z7 j 2];exact(hnx.cell (p:=⟨b,off+2*j+1,none⟩) hb).trans (hc j hjl).2
   obtain⟨fn,tmps,assign,body,hy,hR⟩:=hY _ (j,zs[j]) wr hJs (by rw[Jgd];exact hlt);dsimp only at hy;rw[hji]
   gi_wp2
   refine hR.mono ?_;rintro e W3 (⟨rfl,hJ3,hk3⟩|⟨rfl,hJx3⟩)
   ·gi_wp2
    go_roundw
    case rel=>exact⟨k+1,by omega,by rw[show(zs.length:Int)-1-((k+1:Nat):Int)=(j:Int)-1 by omega],by rw[jL,show zs.length-1-k=j by omega,hget];exact hJ3,hnx.trans hk3⟩
    case measure=>first|(simp[intOf];done)|(simp[intOf];omega)
   ·gi_wp2
    refine bodyPost_ret (results_none rfl _ _ _) rfl ?_;exact⟨⟨_,rfl⟩, .inr ⟨_,⟨k+1,by omega,by rw[jL,show zs.length-1-k=j by omega,hget]⟩,hJx3⟩⟩
  ·obtain rfl:k=zs.length:=by omega
   gi_wp2
   go_end0
   exact⟨⟨_,rfl⟩, .inl ⟨_,rfl,hJs⟩⟩
set_option maxRecDepth 100000 in
theorem Jil (F:Fence)(n:Nat)(h8:F.fn 185)(hro:F.round=none)(l Bs:Nat)(a:Option Addr)(cap:Nat)(J:List (Nat×ByteArray×Int)->World->Prop)(W:World)(hBs:W.cell? ⟨Bs,0,none⟩=some (.slice a 0 cap))(h0:J [] W):
  CallsIn F n Tryz.prog 185 #[.func (.yield l) #[] #[], .pointer (some ⟨Bs,0,none⟩)] W fun e W'=>(∃v,e= .returned v)/\J [] W':=by
 refine callsIn_of_wp Tryz.func185 rfl h8 ?_ hro;simp only[Tryz.ntmps185,Zw,XF,Zq,Nat.reduceAdd,Nat.reduceSub,Zk,Zl,Zx,Zo,X0,X2]
 gi_wp2
 gi_loopw [3] (fun i wr=>i= .int .i64 (-1)/\J [] wr) (fun _ _=>0)
 case atStart=>exact⟨rfl,h0⟩
 case round=>
  obtain⟨rfl,hJs⟩:=hrel
  gi_wp2
  go_end0
  exact⟨⟨_,rfl⟩,hJs⟩
theorem Jim (F:Fence)(n:Nat)(h6:F.fn 160)(hro:F.round=none)(a:Option Addr)(len cap:Nat)(w:World):
  CallsIn F n Tryz.prog 160 #[.slice a len cap] w fun e w'=>e= .returned (.func (.func 185) #[] #[.pointer (some ⟨w.heap.size,0,none⟩)])/\w'=w.alloc (.cells #[.slice a len cap] 149):=by
 refine callsIn_of_wp Tryz.func160 rfl h6 ?_ hro;simp only[Tryz.ntmps160,Zw,XF,Zq,Nat.reduceAdd,Nat.reduceSub,Zk,Zl,Zx,Zo,X0,X2]
 gi_wp2
 go_ret
 exact⟨rfl,rfl⟩
theorem Jbe (W:World)(x y:Nat)(v:Value)(h:x≠y):(W.setCell ⟨x,0,none⟩ v).cell? ⟨y,0,none⟩=W.cell? ⟨y,0,none⟩:=World.cell?_setCell_other (h:=fun e=>h (by injection e)) .. 
def JhC (n₀:Nat)(w:World)(a:Option Addr)(zs:List (ByteArray×Int)):Prop:=
 zs=[]\/∃b off,a=some ⟨b,off,none⟩/\b<n₀/\∀j (h:j<zs.length),w.cell? ⟨b,off+2*j,none⟩=some (.string zs[j].1)/\w.cell? ⟨b,off+2*j+1,none⟩=some (.int .i64 zs[j].2)
theorem JhC.below {n₀:Nat}{A B:World}(h:Below n₀ A B){a:Option Addr}{zs:List (ByteArray×Int)}:JhC n₀ A a zs->JhC n₀ B a zs
 | .inl e=> .inl e
 | .inr ⟨b,off,e,hb,hc⟩=> .inr ⟨b,off,e,hb,fun j hj=>⟨(h.cell (p:=⟨b,off+2*j,none⟩) hb).trans (hc j hj).1,(h.cell (p:=⟨b,off+2*j+1,none⟩) hb).trans (hc j hj).2⟩⟩
theorem Jf0 (F:Fence)(n:Nat)(h8:F.fn 185)(hro:F.round=none)(hn:1<=n)(Bs n₀:Nat)(a:Option Addr)(cap:Nat)(zs:List (ByteArray×Int))(hreach:zs.length<=100000)(w:World)(hBs:Bs<n₀)(hn₀:n₀<=w.heap.size)
  (hc:w.cell? ⟨Bs,0,none⟩=some (.slice a zs.length cap)) (hI:JhC n₀ w a zs):
  SeqStopsK F n Tryz.prog 185 #[.pointer (some ⟨Bs,0,none⟩)] (fun x:Nat×ByteArray×Int=> #[Value.int .i64 (x.1:Int), .agg #[.string x.2.1, .int .i64 x.2.2]]) (Below n₀) (fun ys=>ys=QW zs zs.length)
   (fun pre=>∃k,k<=zs.length/\pre=QW zs k) zs.length w:=fun l J Jx W hW _ _ hY h0=>by
 have hc':=(hW.cell (p:=⟨Bs,0,none⟩) (by show Bs<_;omega)).trans hc;rcases hI.below (hW.mono hn₀)with rfl|⟨b,off,rfl,hb,hcs⟩
 ·exact(Jil F n h8 hro l Bs a cap J W hc' h0).mono fun e W' ⟨he,hj⟩=>⟨he, .inl ⟨_,rfl,hj⟩⟩
 ·exact Jqe F n h8 hro hn l Bs n₀ b off cap zs hreach hb J Jx hY W hc' hBs hcs h0
set_option maxRecDepth 100000 in
theorem Jqf (F:Fence)(n:Nat)(h4:F.fn 183)(h6:F.fn 160)(h8:F.fn 185)(hro:F.round=none)(hn:3<=n)(w:World)(d:Int)(a:Option Addr)(cap:Nat)(b:Option Addr)(m cap2:Nat)(s:ByteArray)(zs:List (ByteArray×Int))(hreach:zs.length<=100000)
  (hI:s.size≠0->JbN w a zs):
  CallsIn F n Tryz.prog 183 #[.agg #[.int .i64 d, .slice a zs.length cap, .slice b m cap2], .string s] w fun e w'=>Below w.heap.size w w'/\
  ((s.size=0/\e= .returned (.tuple #[.int .i64 (-1), .bool true]))\/
   (s.size≠0/\∃k:Nat,∃h:k<zs.length,e= .returned (.tuple #[.int .i64 k, .bool true])/\zs[k].1=s/\∀j (hj:j<zs.length),k<j->zs[j].1≠s)\/
   (s.size≠0/\e= .returned (.tuple #[.int .i64 (-1), .bool false])/\∀j (hj:j<zs.length),zs[j].1≠s)):=by
 have h1:1<=n:=by omega
 refine callsIn_of_wp_marks Tryz.func183 rfl h4 ?_ hro;simp only[Tryz.ntmps183,Zw,XF,Zq,Nat.reduceAdd,Nat.reduceSub,Zk,Zl,Zx,Zo,X0,X2];have hsz:s.toList.isEmpty=true<->s.size=0:=by
  rw[ByteArray.toList_eq,<-ByteArray.size_data,<-Gg,List.isEmpty_iff,XD]
 have heq:∀x:ByteArray,(x.toList==s.toList)=true<->x=s:=fun x=>by
  rw[ByteArray.toList_eq,ByteArray.toList_eq,ZF];exact⟨fun e=>by cases x;cases s;simpa using e,fun e=>by rw[e]⟩
 by_cases hs:s.toList.isEmpty=true
 ·have hs0:=hsz.1 hs
  gi_wp2_with (gi_at_call 160;refine(Jim F (n-1) h6 hro _ _ _ _).mono ?_;rintro e w' ⟨rfl,rfl⟩)
  have b2:=Boxed.new ((w.alloc (Obj.cells #[Value.int IntKind.i64 d,Value.slice a zs.length cap,Value.slice b m cap2] 152)).alloc (Obj.cells #[Value.string s] 9)) 3 (.int .i64 (-1));have b3:=Boxed.new (((w.alloc (Obj.cells #[Value.int IntKind.i64 d,Value.slice a zs.length cap,Value.slice b m cap2] 152)).alloc (Obj.cells #[Value.string s] 9)).alloc (Obj.cells #[Value.int IntKind.i64 (-1)] 3)) 4 (.bool true);rw[World.size_alloc,World.size_alloc]at b2;rw[World.size_alloc,World.size_alloc,World.size_alloc]at b3;have h2:=(b2.alloc (.cells #[Value.bool true] 4)).cell;have h3:=b3.cell;simp only[bodyPostM,LeavesInM,LeavesIn];refine⟨.tuple #[.int .i64 (-1), .bool true],by simp[results,Tryz.f183,go_sem,h2,h3], ?_, .inl ⟨hs0,rfl⟩⟩;exact((((Below.refl _ w).alloc (Xb _) _).alloc (by simp) _).alloc (by simp;omega) _).alloc (by simp;omega) _
 have hs0:s.size≠0:=fun e=>hs (hsz.2 e);have hs:s.toList.isEmpty=false:=by simpa using hs
 gi_wp2_with (gi_at_call 160;refine(Jim F (n-1) h6 hro _ _ _ _).mono ?_;rintro e w' ⟨rfl,rfl⟩)
 obtain⟨w0,hw0⟩:∃w0,w0=(((((w.alloc (Obj.cells #[Value.int IntKind.i64 d,Value.slice a zs.length cap,Value.slice b m cap2] 152)).alloc (Obj.cells #[Value.string s] 9)).alloc (Obj.cells #[Value.int IntKind.i64 0] 3)).alloc (Obj.cells #[Value.bool false] 4)).alloc (Obj.cells #[Value.slice a zs.length cap] 149)):=⟨_,rfl⟩
 have hN:w0.heap.size=w.heap.size+5:=by rw[hw0];simp
 have b1:Boxed w0 (w.heap.size+1) 9 (.string s):=by
  have:=Boxed.new (w.alloc (Obj.cells #[Value.int IntKind.i64 d,Value.slice a zs.length cap,Value.slice b m cap2] 152)) 9 (.string s);rw[World.size_alloc]at this;rw[hw0];exact((this.alloc _).alloc _).alloc _
 have b2:Boxed w0 (w.heap.size+1+1) 3 (.int .i64 0):=by
  have:=Boxed.new ((w.alloc (Obj.cells #[Value.int IntKind.i64 d,Value.slice a zs.length cap,Value.slice b m cap2] 152)).alloc (Obj.cells #[Value.string s] 9)) 3 (.int .i64 0);rw[World.size_alloc,World.size_alloc]at this;rw[hw0];exact(this.alloc _).alloc _
 have b3:Boxed w0 (w.heap.size+1+1+1) 4 (.bool false):=by
  have:=Boxed.new (((w.alloc (Obj.cells #[Value.int IntKind.i64 d,Value.slice a zs.length cap,Value.slice b m cap2] 152)).alloc (Obj.cells #[Value.string s] 9)).alloc (Obj.cells #[Value.int IntKind.i64 0] 3)) 4 (.bool false);rw[World.size_alloc,World.size_alloc,World.size_alloc]at this;rw[hw0];exact this.alloc _
 have b4:Boxed w0 (w.heap.size+1+1+1+1) 149 (.slice a zs.length cap):=by
  have:=Boxed.new ((((w.alloc (Obj.cells #[Value.int IntKind.i64 d,Value.slice a zs.length cap,Value.slice b m cap2] 152)).alloc (Obj.cells #[Value.string s] 9)).alloc (Obj.cells #[Value.int IntKind.i64 0] 3)).alloc (Obj.cells #[Value.bool false] 4)) 149 (.slice a zs.length cap);rw[World.size_alloc,World.size_alloc,World.size_alloc,World.size_alloc]at this;rw[hw0];exact this
 have hB0:Below w.heap.size w w0:=by
  rw[hw0];exact((((((Below.refl _ w).alloc (Xb _) _).alloc (by simp) _).alloc (by simp;omega) _).alloc (by simp;omega) _).alloc (by simp;omega) _)
 have hI0:JhC w0.heap.size w0 a zs:=by
  rcases hI hs0 with e|⟨bb,off,e,hb,hc⟩
  ·exact .inl e
  ·exact .inr ⟨bb,off,e,by omega,fun j hj=>⟨(hB0.cell (p:=⟨bb,off+2*j,none⟩) hb).trans (hc j hj).1,(hB0.cell (p:=⟨bb,off+2*j+1,none⟩) hb).trans (hc j hj).2⟩⟩
 rw[<-hw0];refine wpIn_rangeFunc_ownH hro h1 (gf:=185) (lb:= #[.pointer (some ⟨w.heap.size+1+1+1+1,0,none⟩)]) rfl h8 (enters_of Tryz.func185 (by kernel_rfl) rfl)
  (Jf0 F (n-1) h8 hro (by omega) (w.heap.size+1+1+1+1) w0.heap.size a cap zs hreach w0 (by omega) (Xb _) b4.cell hI0) belowK_t (belowK_b (Xb _)) (Below.refl _ _) (fun _=>rfl)
  (fun pre W=>(∀p∈pre,p.2.1≠s)/\Below w0.heap.size w0 W)
  (fun c pre W=>(c= .ret/\∃ini last,pre=ini++[last]/\(∀p∈ini,p.2.1≠s)/\last.2.1=s/\W.cell? ⟨w.heap.size+1+1,0,none⟩=some (.int .i64 (last.1:Int))/\W.cell? ⟨w.heap.size+1+1+1,0,none⟩=some (.bool true))/\Below w.heap.size w W)
  (OwnFrom.and (ownFrom_pure _ _) (ownFrom_below (Xb _) (Xb _)))
  (fun c=>OwnFrom.and (Own.from (fun s A B row hs hg hr=>by obtain⟨hc,ini,last,e1,e2,e3,e4,e5⟩:=hs;exact⟨hc,ini,last,e1,e2,e3,cell_kept e4 hg hr,cell_kept e5 hg hr⟩) _) (ownFrom_below (by omega) (by omega)))
  ⟨by simp,Below.refl _ _⟩
  (fun x a' W=>∃B,w0.heap.size<=B/\W.cell? ⟨B,0,none⟩=some (.string x.2.1)/\W.cell? ⟨B,1,none⟩=some (.int .i64 x.2.2)/\a'=
   { tmps:= #[Value.agg #[Value.int IntKind.i64 d,Value.slice a zs.length cap,Value.slice b m cap2],Value.string s,
     Value.pointer (some {block:=w.heap.size,off:=0}),
     Value.pointer (some {block:=w.heap.size+1,off:=0}),
     Value.pointer (some {block:=w.heap.size+1+1,off:=0}),
     Value.pointer (some {block:=w.heap.size+1+1+1,off:=0}),Value.int IntKind.i64 (x.1:Int),Value.pointer (some {block:=B,off:=0}),Value.string s,
     Value.bool false,Value.pointer (some {block:=w.heap.size,off:=1}),Value.slice a zs.length cap,
     Value.func (Fn.func 185) #[] #[Value.pointer (some {block:=w.heap.size+1+1+1+1,off:=0})],Value.int IntKind.i64 (x.1:Int),
     Value.agg #[Value.string x.2.1,Value.int IntKind.i64 x.2.2],undef,undef,undef,undef,undef],defers:=[]})
  (fun x a'=>Own.from (fun s A B row hs hg hr=>by obtain⟨B,e1,e2,e3,e4⟩:=hs;exact⟨B,e1,cell_kept e2 hg hr,cell_kept e3 hg hr,e4⟩) _) ?assign ?body ?done ?stop
 case assign=>
  intro l pre x W K hIx hK
  gi_wp2
  have hsz0:=hIx.2.size;have hb:=(Below.refl w0.heap.size W).alloc hsz0 (Obj.cells #[Value.string x.2.1,Value.int IntKind.i64 x.2.2] 259);refine hK _ _ ((KeepsOthers.alloc _ _).from _) hb ⟨hIx.1,hIx.2.trans hb⟩ ⟨W.heap.size,hsz0, ?_, ?_,rfl⟩
  ·have:=World.alloc_heap_new W (Obj.cells #[Value.string x.2.1,Value.int IntKind.i64 x.2.2] 259);unfold World.cell?;rw[this];rfl
  ·have:=World.alloc_heap_new W (Obj.cells #[Value.string x.2.1,Value.int IntKind.i64 x.2.2] 259);unfold World.cell?;rw[this];rfl
 case body=>
  rintro l pre x a' W hl hr ⟨hp,hB⟩ ⟨B,e1,e2,e3,rfl⟩ hlt;have d1:=(hB.cell (p:=⟨w.heap.size+1,0,none⟩) (by show w.heap.size+1<_;omega)).trans b1.cell;have d2:=(hB.cell (p:=⟨w.heap.size+1+1,0,none⟩) (by show w.heap.size+1+1<_;omega)).trans b2.cell;have d3:=(hB.cell (p:=⟨w.heap.size+1+1+1,0,none⟩) (by show w.heap.size+1+1+1<_;omega)).trans b3.cell;have f2:=(hB.frozen (p:=⟨w.heap.size+1+1,0,none⟩) (by show w.heap.size+1+1<_;omega)).trans b2.frozen;have f3:=(hB.frozen (p:=⟨w.heap.size+1+1+1,0,none⟩) (by show w.heap.size+1+1+1<_;omega)).trans b3.frozen
  gi_wp2
  ·have hx:(x.2.1.toList==s.toList)=true:=by assumption
   have g2:=World.cell?_setCell_same' W ⟨w.heap.size+1+1,0,none⟩ (.int .i64 (x.1:Int)) (by rw[d2];rfl);have g3:=World.cell?_setCell_same' (W.setCell ⟨w.heap.size+1+1,0,none⟩ (.int .i64 (x.1:Int))) ⟨w.heap.size+1+1+1,0,none⟩ (.bool true) (by rw[Jbe _ _ _ _ (by omega),d3];rfl);exact⟨((KeepsOthers.setCell _ _ _).trans (KeepsOthers.setCell _ _ _)).from _,⟨rfl,pre,x,rfl,hp,(heq _).1 hx,by rw[Jbe _ _ _ _ (by omega)];exact g2,g3⟩,
    ((hB0.trans (hB.mono hB0.size)).setCell (p:=⟨w.heap.size+1+1,0,none⟩) (by show w.heap.size<=w.heap.size+1+1;omega) _).setCell (p:=⟨w.heap.size+1+1+1,0,none⟩) (by show w.heap.size<=w.heap.size+1+1+1;omega) _⟩
  ·have hx:(x.2.1.toList==s.toList)=false:=by assumption
   refine⟨KeepsFrom.refl _ _,Below.refl _ _,fun p hp'=> ?_,hB⟩;rcases Xs.1 hp' with q|q
   ·exact hp p q
   ·simp only[Xj]at q;subst q;intro e;rw[(heq _).2 e]at hx
    cases hx
 case done=>
  rintro D ys W hD rfl ⟨hp,hB⟩ hK;have d2:=(hB.cell (p:=⟨w.heap.size+1+1,0,none⟩) (by show w.heap.size+1+1<_;omega)).trans b2.cell;have d3:=(hB.cell (p:=⟨w.heap.size+1+1+1,0,none⟩) (by show w.heap.size+1+1+1<_;omega)).trans b3.cell;have f2:=(hB.frozen (p:=⟨w.heap.size+1+1,0,none⟩) (by show w.heap.size+1+1<_;omega)).trans b2.frozen;have f3:=(hB.frozen (p:=⟨w.heap.size+1+1+1,0,none⟩) (by show w.heap.size+1+1+1<_;omega)).trans b3.frozen
  gi_wp2
  have g2:=World.cell?_setCell_same' W ⟨w.heap.size+1+1,0,none⟩ (.int .i64 (-1)) (by rw[d2];rfl);have g3:=World.cell?_setCell_same' (W.setCell ⟨w.heap.size+1+1,0,none⟩ (.int .i64 (-1))) ⟨w.heap.size+1+1+1,0,none⟩ (.bool false) (by rw[Jbe _ _ _ _ (by omega),d3];rfl);have g2':=(Jbe (W.setCell ⟨w.heap.size+1+1,0,none⟩ (.int .i64 (-1))) (w.heap.size+1+1+1) (w.heap.size+1+1) (.bool false) (by omega)).trans g2;have hK':=((KeepsOthers.setCell W ⟨w.heap.size+1+1,0,none⟩ (.int .i64 (-1))).trans (KeepsOthers.setCell _ ⟨w.heap.size+1+1+1,0,none⟩ (.bool false))).same D _ hK rfl;refine⟨by simp, .inl ⟨_,_,rfl,run_takeDeferred hK', ?_⟩⟩;have h2:=cell_kept g2' (grownBy_putObj' _ D (.deferred none)) (fun r e=>by cases e;exact⟨_,hK',rfl⟩);have h3:=cell_kept g3 (grownBy_putObj' _ D (.deferred none)) (fun r e=>by cases e;exact⟨_,hK',rfl⟩);refine⟨.tuple #[.int .i64 (-1), .bool false],by simp[results,Tryz.f183,go_sem,h2,h3], ?_, .inr (.inr ⟨hs0,rfl,fun j hj=> ?_⟩)⟩
  ·have q1:=((hB0.trans (hB.mono hB0.size)).setCell (p:=⟨w.heap.size+1+1,0,none⟩) (by show w.heap.size<=w.heap.size+1+1;omega) (.int .i64 (-1))).setCell (p:=⟨w.heap.size+1+1+1,0,none⟩) (by show w.heap.size<=w.heap.size+1+1+1;omega) (.bool false);exact q1.trans (belowK_b (w:=w) (Xb _) _ D _ _ (by omega) hK' rfl rfl)
  ·refine hp (j,zs[j]) ?_;simp only[QW,Xz,Zh];refine⟨zs.length-1-j,by omega, ?_⟩;rw[show zs.length-1-(zs.length-1-j)=j by omega,XA,Xg hj];rfl
 case stop=>
  rintro D c pre W hD ⟨k,hk,e0⟩ ⟨⟨rfl,ini,last,e1,e2,e3,hc2,hc3⟩,hB⟩ hK
  gi_wp2
  refine⟨by simp, .inl ⟨_,_,rfl,run_takeDeferred hK, ?_⟩⟩;have h2:=cell_kept hc2 (grownBy_putObj' _ D (.deferred none)) (fun r e=>by cases e;exact⟨_,hK,rfl⟩);have h3:=cell_kept hc3 (grownBy_putObj' _ D (.deferred none)) (fun r e=>by cases e;exact⟨_,hK,rfl⟩);obtain⟨k',rfl⟩:∃k',k=k'+1:=by
   cases k with
   |zero=>rw[e0]at e1;simp[QW]at e1
   |succ k'=>exact⟨k',rfl⟩
  rw[e0,jL]at e1;obtain⟨e4,e5⟩:=HW e1 rfl;obtain⟨j,hj⟩:∃j,j=zs.length-1-k':=⟨_,rfl⟩
  have hjl:j<zs.length:=by omega
  rw[<-hj,XA,Xg hjl]at e5;have e5:(j,zs[j])=last:=by simpa using e5
  subst e5;refine⟨.tuple #[.int .i64 j, .bool true],by simp[results,Tryz.f183,go_sem,h2,h3],hB.trans (belowK_b (w:=w) (Xb _) W D _ _ (by omega) hK rfl rfl), .inr (.inl ⟨hs0,j,hjl,rfl,e3,fun i hi hlt=> ?_⟩)⟩;refine e2 (i,zs[i]) ?_;rw[<-e4];simp only[QW,Xz,Zh];refine⟨zs.length-1-i,by omega, ?_⟩;rw[show zs.length-1-(zs.length-1-i)=i by omega,XA,Xg hi];rfl
theorem Jf1 :Jg5 Tryz.prog 183:=fun w d a cap b m cap2 s zs hz hI=>callsIn_wide.1 (Jqf Fence.wide 3 trivial trivial trivial rfl (Xb _) w d a cap b m cap2 s zs hz hI)
theorem Yp (W:World)(o:Obj)(B off:Nat)(v:Value)(hB:B<W.heap.size)(h:W.cell? ⟨B,off,none⟩=some v):(W.alloc o).cell? ⟨B,off,none⟩=some v:=
 (((Below.refl W.heap.size W).alloc (Xb _) o).cell (p:=⟨B,off,none⟩) hB).trans h
set_option maxRecDepth 100000 in
theorem JrB (F:Fence)(n:Nat)(h1:F.fn 162)(hro:F.round=none)(v t:Int)(pa:Option Addr)(pl pc:Nat)(B:Nat)(i:Int)(w:World)(hB:w.cell? ⟨B,0,none⟩=some (.int .i64 i))(hBn:B<w.heap.size):
  CallsIn F n Tryz.prog 162 #[.agg #[.int .i64 v, .slice pa pl pc, .int .i64 t], .pointer (some ⟨B,0,none⟩)] w fun e w'=>e= .returned (.bool (decide (v=i)))/\Below w.heap.size w w':=by
 have hB':=Yp w (.cells #[.int .i64 v, .slice pa pl pc, .int .i64 t] 286) B 0 _ hBn hB;refine callsIn_of_wp Tryz.func162 rfl h1 ?_ hro;simp only[Tryz.ntmps162,Zw,XF,Zq,Nat.reduceAdd,Nat.reduceSub,Zk,Zl,Zx,Zo,X0,X2]
 gi_wp2
 go_ret
 exact⟨rfl,((Below.refl _ w).alloc (Xb _) _)⟩
set_option maxRecDepth 100000 in
theorem Jtx (F:Fence)(n:Nat)(hI:F.fn 186)(h1:F.fn 162)(hro:F.round=none)(hn:1<=n)(a:Option Addr)(cap B:Nat)(i:Int)(ns:List Nar)(hreach:ns.length<=100000)(w:World)(hB:w.cell? ⟨B,0,none⟩=some (.int .i64 i))(hBn:B<w.heap.size)(hN:qW w a ns):
  CallsIn F n Tryz.prog 186 #[.slice a ns.length cap, .func (.func 162) #[] #[.pointer (some ⟨B,0,none⟩)]] w fun e w'=>Below w.heap.size w w'/\∃r:Int,e= .returned (.int .i64 r)/\(0<=r<->∃j,∃h:j<ns.length,ns[j].1=i):=by
 have hN:∃b off,b<w.heap.size/\∀j (h:j<ns.length),a=some ⟨b,off,none⟩/\w.cell? ⟨b,off+j*3,none⟩=some (.int .i64 ns[j].1)/\w.cell? ⟨b,off+j*3+1,none⟩=some (.slice ns[j].2.1.1 ns[j].2.1.2.1 ns[j].2.1.2.2)/\w.cell? ⟨b,off+j*3+2,none⟩=some (.int .i64 ns[j].2.2):=by
  rcases hN with rfl|⟨b,off,e,hb,hc⟩
  ·exact⟨B,0,hBn,fun j h=>by simp at h⟩
  ·exact⟨b,off,hb,fun j h=>⟨e,by rw[Z7];exact(hc j h).1,by rw[Z7];exact(hc j h).2.1,by rw[Z7];exact(hc j h).2.2⟩⟩
 obtain⟨b,off,hb,hc⟩:=hN;refine callsIn_of_wp Tryz.func186 rfl hI ?_ hro;simp only[Tryz.ntmps186,Zw,XF,Zq,Nat.reduceAdd,Nat.reduceSub,Zk,Zl,Zx,Zo,X0,X2]
 gi_wp2
 gi_loopw [8] (fun x wr=>∃k:Nat,k<=ns.length/\x= .int .i64 k/\(∀j (h:j<ns.length),j<k->ns[j].1≠i)/\Below w.heap.size w wr)
  (fun x _=>ns.length-(intOf x).toNat)
 case atStart=>exact⟨0,XC _,rfl,fun j h h2=>by omega,Below.refl _ _⟩
 case round=>
  obtain⟨k,hk,rfl,hno,hnx⟩:=hrel;by_cases hlt:k<ns.length
  ·obtain⟨rfl,c1,c2,c3⟩:=hc k hlt;have d1:=(hnx.cell (p:=⟨b,off+k*3,none⟩) hb).trans c1;have d2:=(hnx.cell (p:=⟨b,off+k*3+1,none⟩) hb).trans c2;have d3:=(hnx.cell (p:=⟨b,off+k*3+2,none⟩) hb).trans c3;have dB:=(hnx.cell (p:=⟨B,0,none⟩) hBn).trans hB
   gi_wp2_with (gi_at_call 162;refine(JrB F (n-1) h1 hro _ _ _ _ _ B i _ dB (by have:=hnx.size;omega)).mono ?_;rintro e w' ⟨rfl,hb2⟩)
   case roundEnd=>
    have hx:decide (ns[k].1=i)=false:=by first|assumption|simpa using‹¬ns[k].1=i›
    refine⟨⟨k+1,by omega,by simp,fun j h h2=> ?_,hnx.trans (hb2.mono hnx.size)⟩,by simp[intOf];omega⟩;by_cases e:j=k
    ·subst e;exact HF hx
    ·exact hno j h (by omega)
   ·refine bodyPost_ret (results_tmp rfl _ _ _) rfl ?_;have hx:ns[k].1=i:=by assumption
    exact⟨hnx.trans (hb2.mono hnx.size),k,rfl,fun _=>⟨k,hlt,hx⟩,fun _=>by omega⟩
  ·obtain rfl:k=ns.length:=by omega
   gi_wp2
   refine bodyPost_ret (results_tmp rfl _ _ _) rfl ?_;exact⟨hnx,-1,rfl,fun h=>by omega,fun⟨j,h,e⟩=>absurd e (hno j h h)⟩
set_option maxRecDepth 100000 in
theorem Jty (F:Fence)(n:Nat)(hC:F.fn 161)(hI:F.fn 186)(h1:F.fn 162)(hro:F.round=none)(hn:2<=n)(a:Option Addr)(cap B:Nat)(i:Int)(ns:List Nar)(hreach:ns.length<=100000)(w:World)(hB:w.cell? ⟨B,0,none⟩=some (.int .i64 i))(hBn:B<w.heap.size)(hN:qW w a ns):
  CallsIn F n Tryz.prog 161 #[.slice a ns.length cap, .func (.func 162) #[] #[.pointer (some ⟨B,0,none⟩)]] w fun e w'=>Below w.heap.size w w'/\∃r:Bool,e= .returned (.bool r)/\(r=true<->∃j,∃h:j<ns.length,ns[j].1=i):=by
 have hn1:1<=n:=by omega
 refine callsIn_of_wp Tryz.func161 rfl hC ?_ hro;simp only[Tryz.ntmps161,Zw,XF,Zq,Nat.reduceAdd,Nat.reduceSub,Zk,Zl,Zx,Zo,X0,X2]
 gi_wp2_with (gi_at_call 186;refine(Jtx F (n-1) hI h1 hro (by omega) a cap B i ns hreach _ hB hBn hN).mono ?_;rintro e w' ⟨hb2,r,rfl,hr⟩)
 go_ret
 exact⟨hb2,_,rfl,by first|(simp;done)|simpa using hr⟩
theorem Jlu {w W:World}(h:Below w.heap.size w W){a:Option Addr}{ns:List Nar}:qW w a ns->qW W a ns
 | .inl e=> .inl e
 | .inr ⟨b,off,e,hb,hc⟩=> .inr ⟨b,off,e,by have:=h.size;omega,fun j hj=>⟨(h.cell (p:=⟨b,off+3*j,none⟩) hb).trans (hc j hj).1,(h.cell (p:=⟨b,off+3*j+1,none⟩) hb).trans (hc j hj).2.1,(h.cell (p:=⟨b,off+3*j+2,none⟩) hb).trans (hc j hj).2.2⟩⟩
theorem JbZ {W:World}{B o:Nat}{v:Value}(h:W.cell? ⟨B,o,none⟩=some v):B<W.heap.size:=by
 obtain⟨o,h1,_⟩:=cells_of_cell h;exact(Xy.1 h1).1
theorem Jap {B:Nat}{X Y:World}(h:Below X.heap.size X Y):KeepsFrom B X Y:=⟨h.size,fun k o _ hk _=>(h.block k (Xy.1 hk).1).trans hk⟩
set_option maxRecDepth 100000 in
theorem Jtz (F:Fence)(n:Nat)(h4:F.fn 132)(h6:F.fn 160)(h8:F.fn 185)(hC:F.fn 161)(hI:F.fn 186)(hS:F.fn 162)(hro:F.round=none)(hn:6<=n)(w:World)(pw:Value)(d:Int)(a:Option Addr)(cap:Nat)(b:Option Addr)(cap2:Nat)(s:ByteArray)(id:Int)(zs:List (ByteArray×Int))(ns:List Nar)(hreach:zs.length<=100000)(hreach2:ns.length<=100000)
  (hV:JbN w a zs) (hN:qW w b ns):
  CallsIn F n Tryz.prog 132 #[pw, .agg #[.int .i64 d, .slice a zs.length cap, .slice b ns.length cap2], .string s, .int .i64 id] w fun e w'=>Below w.heap.size w w'/\
  ((∃k:Nat,∃h:k<zs.length,zs[k].1=s/\(∀j (hj:j<zs.length),k<j->zs[j].1≠s)/\
    (((zs[k].2≠id\/∃j,∃hj:j<ns.length,ns[j].1=(k:Int))/\e= .returned (.int .i64 17))\/((zs[k].2=id/\∀j (hj:j<ns.length),ns[j].1≠(k:Int))/\e= .returned (.int .i64 0))))\/
   (e= .returned (.int .i64 15)/\∀j (hj:j<zs.length),zs[j].1≠s)):=by
 have hn1:1<=n:=by omega
 have hn2:1<=n-1-1:=by omega
 refine callsIn_of_wp_marks Tryz.func132 rfl h4 ?_ hro;simp only[Tryz.ntmps132,Zw,XF,Zq,Nat.reduceAdd,Nat.reduceSub,Zk,Zl,Zx,Zo,X0,X2];have heq:∀x:ByteArray,(x.toList==s.toList)=true<->x=s:=fun x=>by
  rw[ByteArray.toList_eq,ByteArray.toList_eq,ZF];exact⟨fun e=>by cases x;cases s;simpa using e,fun e=>by rw[e]⟩
 have hyes:∀x:ByteArray,(!(x.toList==s.toList))=false->x=s:=fun x e=>(heq x).1 (by simpa using e);have hnot:∀x:ByteArray,(!(x.toList==s.toList))=true->x≠s:=fun x e k=>by rw[(heq x).2 k]at e;cases e
 gi_wp2_with (gi_at_call 160;refine(Jim F (n-1) h6 hro _ _ _ _).mono ?_;rintro e w' ⟨rfl,rfl⟩)
 obtain⟨e1',hE1⟩:∃o,o=Obj.cells #[Value.int IntKind.i64 d,Value.slice a zs.length cap,Value.slice b ns.length cap2] 152:=⟨_,rfl⟩
 obtain⟨w0,hw0⟩:∃w0,w0=(((((w.alloc e1').alloc (Obj.cells #[Value.string s] 9)).alloc (Obj.cells #[Value.int IntKind.i64 id] 3)).alloc (Obj.cells #[Value.int IntKind.i64 0] 44)).alloc (Obj.cells #[Value.slice a zs.length cap] 149)):=⟨_,rfl⟩
 have hN0:w0.heap.size=w.heap.size+5:=by rw[hw0];simp
 have b0:w0.cell? ⟨w.heap.size,2,none⟩=some (.slice b ns.length cap2):=by
  have h0:(w.alloc e1').cell? ⟨w.heap.size,2,none⟩=some (.slice b ns.length cap2):=by
   have:=World.alloc_heap_new w e1';unfold World.cell?;rw[this,hE1];rfl
  rw[hw0];exact Yp _ _ _ _ _ (by simp;omega) (Yp _ _ _ _ _ (by simp;omega) (Yp _ _ _ _ _ (by simp;omega) (Yp _ _ _ _ _ (by simp) h0)))
 have b1:Boxed w0 (w.heap.size+1) 9 (.string s):=by
  have:=Boxed.new (w.alloc e1') 9 (.string s);rw[World.size_alloc]at this;rw[hw0];exact((this.alloc _).alloc _).alloc _
 have b2:Boxed w0 (w.heap.size+1+1) 3 (.int .i64 id):=by
  have:=Boxed.new ((w.alloc e1').alloc (Obj.cells #[Value.string s] 9)) 3 (.int .i64 id);rw[World.size_alloc,World.size_alloc]at this;rw[hw0];exact(this.alloc _).alloc _
 have b3:Boxed w0 (w.heap.size+1+1+1) 44 (.int .i64 0):=by
  have:=Boxed.new (((w.alloc e1').alloc (Obj.cells #[Value.string s] 9)).alloc (Obj.cells #[Value.int IntKind.i64 id] 3)) 44 (.int .i64 0);rw[World.size_alloc,World.size_alloc,World.size_alloc]at this;rw[hw0];exact this.alloc _
 have b4:Boxed w0 (w.heap.size+1+1+1+1) 149 (.slice a zs.length cap):=by
  have:=Boxed.new ((((w.alloc e1').alloc (Obj.cells #[Value.string s] 9)).alloc (Obj.cells #[Value.int IntKind.i64 id] 3)).alloc (Obj.cells #[Value.int IntKind.i64 0] 44)) 149 (.slice a zs.length cap);rw[World.size_alloc,World.size_alloc,World.size_alloc,World.size_alloc]at this;rw[hw0];exact this
 have hB0:Below w.heap.size w w0:=by
  rw[hw0];exact((((((Below.refl _ w).alloc (Xb _) _).alloc (by simp) _).alloc (by simp;omega) _).alloc (by simp;omega) _).alloc (by simp;omega) _)
 have hI0:JhC w0.heap.size w0 a zs:=by
  rcases hV with e|⟨bb,off,e,hb,hc⟩
  ·exact .inl e
  ·exact .inr ⟨bb,off,e,by omega,fun j hj=>⟨(hB0.cell (p:=⟨bb,off+2*j,none⟩) hb).trans (hc j hj).1,(hB0.cell (p:=⟨bb,off+2*j+1,none⟩) hb).trans (hc j hj).2⟩⟩
 have hw0':=hw0;rw[hE1]at hw0';rw[<-hw0'];refine wpIn_rangeFunc_ownH hro hn1 (gf:=185) (lb:= #[.pointer (some ⟨w.heap.size+1+1+1+1,0,none⟩)]) rfl h8 (enters_of Tryz.func185 (by kernel_rfl) rfl)
  (Jf0 F (n-1) h8 hro (by omega) (w.heap.size+1+1+1+1) w0.heap.size a cap zs hreach w0 (by omega) (Xb _) b4.cell hI0) belowK_t (belowK_b (Xb _)) (Below.refl _ _) (fun _=>rfl)
  (fun pre W=>(∀p∈pre,p.2.1≠s)/\Below w0.heap.size w0 W)
  (fun c pre W=>(c= .ret/\∃ini last,pre=ini++[last]/\(∀p∈ini,p.2.1≠s)/\last.2.1=s/\
   (((last.2.2≠id\/∃j,∃hj:j<ns.length,ns[j].1=(last.1:Int))/\W.cell? ⟨w.heap.size+1+1+1,0,none⟩=some (.int .i64 17))\/((last.2.2=id/\∀j (hj:j<ns.length),ns[j].1≠(last.1:Int))/\W.cell? ⟨w.heap.size+1+1+1,0,none⟩=some (.int .i64 0))))/\Below w.heap.size w W)
  (OwnFrom.and (ownFrom_pure _ _) (ownFrom_below (Xb _) (Xb _)))
  (fun c=>OwnFrom.and (Own.from (fun s A B row hs hg hr=>by
   obtain⟨hc,ini,last,e1,e2,e3,e4⟩:=hs;refine⟨hc,ini,last,e1,e2,e3, ?_⟩;rcases e4 with⟨e4,e5⟩|⟨e4,e5⟩
   ·exact .inl ⟨e4,cell_kept e5 hg hr⟩
   ·exact .inr ⟨e4,cell_kept e5 hg hr⟩) _) (ownFrom_below (by omega) (by omega)))
  ⟨by simp,Below.refl _ _⟩
  (fun x a' W=>∃B9 B,w0.heap.size<=B9/\w0.heap.size<=B/\W.cell? ⟨B9,0,none⟩=some (.int .i64 (x.1:Int))/\W.cell? ⟨B,0,none⟩=some (.string x.2.1)/\W.cell? ⟨B,1,none⟩=some (.int .i64 x.2.2)/\a'=
   { tmps:= #[pw,Value.agg #[Value.int IntKind.i64 d,Value.slice a zs.length cap,Value.slice b ns.length cap2],Value.string s,Value.int IntKind.i64 id,undef,
     Value.pointer (some {block:=w.heap.size,off:=0}),
     Value.pointer (some {block:=w.heap.size+1,off:=0}),
     Value.pointer (some {block:=w.heap.size+1+1,off:=0}),
     Value.pointer (some {block:=w.heap.size+1+1+1,off:=0}),Value.pointer (some {block:=B9,off:=0}),Value.pointer (some {block:=B,off:=0}),
     Value.pointer (some {block:=w.heap.size,off:=1}),Value.slice a zs.length cap,
     Value.func (Fn.func 185) #[] #[Value.pointer (some {block:=w.heap.size+1+1+1+1,off:=0})],Value.int IntKind.i64 (x.1:Int),
     Value.agg #[Value.string x.2.1,Value.int IntKind.i64 x.2.2],undef,undef,undef,undef,undef,undef,undef,undef,undef,undef,undef,undef,undef,undef],defers:=[]})
  (fun x a'=>Own.from (fun s A B row hs hg hr=>by obtain⟨B9,B,e0,e1,e2,e3,e4,e5⟩:=hs;exact⟨B9,B,e0,e1,cell_kept e2 hg hr,cell_kept e3 hg hr,cell_kept e4 hg hr,e5⟩) _) ?assign ?body ?done ?stop
 case assign=>
  intro l pre x W K hIx hK
  gi_wp2
  have hsz0:=hIx.2.size;have hb1:=(Below.refl w0.heap.size W).alloc hsz0 (Obj.cells #[Value.int IntKind.i64 (x.1:Int)] 3);have hb:=hb1.alloc (by simp;omega) (Obj.cells #[Value.string x.2.1,Value.int IntKind.i64 x.2.2] 259);have k9:(W.alloc (Obj.cells #[Value.int IntKind.i64 (x.1:Int)] 3)).cell? ⟨W.heap.size,0,none⟩=some (.int .i64 (x.1:Int)):=(Boxed.new W 3 (.int .i64 (x.1:Int))).cell;refine hK _ _ (((KeepsOthers.alloc _ _).trans (KeepsOthers.alloc _ _)).from _) hb ⟨hIx.1,hIx.2.trans hb⟩ ⟨W.heap.size,W.heap.size+1,hsz0,by omega,Yp _ _ _ _ _ (by simp) k9, ?_, ?_,rfl⟩
  ·have:=World.alloc_heap_new (W.alloc (Obj.cells #[Value.int IntKind.i64 (x.1:Int)] 3)) (Obj.cells #[Value.string x.2.1,Value.int IntKind.i64 x.2.2] 259);rw[World.size_alloc]at this;unfold World.cell?;rw[this];rfl
  ·have:=World.alloc_heap_new (W.alloc (Obj.cells #[Value.int IntKind.i64 (x.1:Int)] 3)) (Obj.cells #[Value.string x.2.1,Value.int IntKind.i64 x.2.2] 259);rw[World.size_alloc]at this;unfold World.cell?;rw[this];rfl
 case body=>
  rintro l pre x a' W hl hr ⟨hp,hB⟩ ⟨B9,B,g0,g1,e1,e2,e3,rfl⟩ hlt;have hBw:=hB0.trans (hB.mono hB0.size);have d0:=(hB.cell (p:=⟨w.heap.size,2,none⟩) (by show w.heap.size<_;omega)).trans b0;have d1:=(hB.cell (p:=⟨w.heap.size+1,0,none⟩) (by show w.heap.size+1<_;omega)).trans b1.cell;have d2:=(hB.cell (p:=⟨w.heap.size+1+1,0,none⟩) (by show w.heap.size+1+1<_;omega)).trans b2.cell;have d3:=(hB.cell (p:=⟨w.heap.size+1+1+1,0,none⟩) (by show w.heap.size+1+1+1<_;omega)).trans b3.cell;have f3:=(hB.frozen (p:=⟨w.heap.size+1+1+1,0,none⟩) (by show w.heap.size+1+1+1<_;omega)).trans b3.frozen;have hNW:=Jlu hBw hN
  gi_wp2_with (gi_at_call 161;refine(CallsIn.inRound l (Jty F _ hC hI hS hro (by omega) b cap2 B9 (x.1:Int) ns hreach2 _ e1 (JbZ e1) hNW)).mono ?_;rintro e w' ⟨hb2,r,rfl,hr2⟩;have d3':=(hb2.cell (p:=⟨w.heap.size+1+1+1,0,none⟩) (JbZ d3)).trans d3;have f3':=(hb2.frozen (p:=⟨w.heap.size+1+1+1,0,none⟩) (JbZ d3)).trans f3)
  ·have hx:=hnot x.2.1 (by assumption);refine⟨KeepsFrom.refl _ _,Below.refl _ _,fun p hp'=> ?_,hB⟩;rcases Xs.1 hp' with q|q
   ·exact hp p q
   ·simp only[Xj]at q;subst q;exact hx
  ·have hx:=hyes x.2.1 (by assumption);have ht:r=true:=by assumption
   have g3:=World.cell?_setCell_same' w' ⟨w.heap.size+1+1+1,0,none⟩ (.int .i64 17) (by rw[d3'];rfl);exact⟨(Jap hb2).trans ((KeepsOthers.setCell _ _ _).from _),⟨rfl,pre,x,rfl,hp,hx, .inl ⟨.inr (hr2.1 ht),g3⟩⟩,
    (hBw.trans (hb2.mono hBw.size)).setCell (p:=⟨w.heap.size+1+1+1,0,none⟩) (by show w.heap.size<=w.heap.size+1+1+1;omega) _⟩
  ·have hx:=hyes x.2.1 (by assumption);have hid:x.2.2=id:=by assumption
   have ht:r=false:=by assumption
   have g3:=World.cell?_setCell_same' w' ⟨w.heap.size+1+1+1,0,none⟩ (.int .i64 0) (by rw[d3'];rfl);refine⟨(Jap hb2).trans ((KeepsOthers.setCell _ _ _).from _),⟨rfl,pre,x,rfl,hp,hx, .inr ⟨⟨hid,fun j hj e=> ?_⟩,g3⟩⟩,
    (hBw.trans (hb2.mono hBw.size)).setCell (p:=⟨w.heap.size+1+1+1,0,none⟩) (by show w.heap.size<=w.heap.size+1+1+1;omega) _⟩
   have:=hr2.2 ⟨j,hj,e⟩;rw[ht]at this
   cases this
  ·have hx:=hyes x.2.1 (by assumption);have hid:¬x.2.2=id:=by assumption
   have g3:=World.cell?_setCell_same' W ⟨w.heap.size+1+1+1,0,none⟩ (.int .i64 17) (by rw[d3];rfl);exact⟨(KeepsOthers.setCell _ _ _).from _,⟨rfl,pre,x,rfl,hp,hx, .inl ⟨.inl hid,g3⟩⟩,hBw.setCell (p:=⟨w.heap.size+1+1+1,0,none⟩) (by show w.heap.size<=w.heap.size+1+1+1;omega) _⟩
 case done=>
  rintro D ys W hD rfl ⟨hp,hB⟩ hK;have hBw:=hB0.trans (hB.mono hB0.size);have d3:=(hB.cell (p:=⟨w.heap.size+1+1+1,0,none⟩) (by show w.heap.size+1+1+1<_;omega)).trans b3.cell;have f3:=(hB.frozen (p:=⟨w.heap.size+1+1+1,0,none⟩) (by show w.heap.size+1+1+1<_;omega)).trans b3.frozen
  gi_wp2
  have g3:=World.cell?_setCell_same' W ⟨w.heap.size+1+1+1,0,none⟩ (.int .i64 15) (by rw[d3];rfl);have hK':=(KeepsOthers.setCell W ⟨w.heap.size+1+1+1,0,none⟩ (.int .i64 15)).same D _ hK rfl;refine⟨by simp, .inl ⟨_,_,rfl,run_takeDeferred hK', ?_⟩⟩;have h3:=cell_kept g3 (grownBy_putObj' _ D (.deferred none)) (fun r e=>by cases e;exact⟨_,hK',rfl⟩);refine⟨.int .i64 15,by simp[results,Tryz.f132,go_sem,h3], ?_, .inr ⟨rfl,fun j hj=> ?_⟩⟩
  ·exact(hBw.setCell (p:=⟨w.heap.size+1+1+1,0,none⟩) (by show w.heap.size<=w.heap.size+1+1+1;omega) (.int .i64 15)).trans (belowK_b (w:=w) (Xb _) _ D _ _ (by omega) hK' rfl rfl)
  ·refine hp (j,zs[j]) ?_;simp only[QW,Xz,Zh];refine⟨zs.length-1-j,by omega, ?_⟩;rw[show zs.length-1-(zs.length-1-j)=j by omega,XA,Xg hj];rfl
 case stop=>
  rintro D c pre W hD ⟨k,hk,e0⟩ ⟨⟨rfl,ini,last,e1,e2,e3,e4⟩,hB⟩ hK
  gi_wp2
  refine⟨by simp, .inl ⟨_,_,rfl,run_takeDeferred hK, ?_⟩⟩;obtain⟨k',rfl⟩:∃k',k=k'+1:=by
   cases k with
   |zero=>rw[e0]at e1;simp[QW]at e1
   |succ k'=>exact⟨k',rfl⟩
  rw[e0,jL]at e1;obtain⟨e6,e5⟩:=HW e1 rfl;obtain⟨j,hj⟩:∃j,j=zs.length-1-k':=⟨_,rfl⟩
  have hjl:j<zs.length:=by omega
  rw[<-hj,XA,Xg hjl]at e5;have e5:(j,zs[j])=last:=by simpa using e5
  subst e5;have hlast:∀i (hi:i<zs.length),j<i->zs[i].1≠s:=fun i hi hlt=>by
   refine e2 (i,zs[i]) ?_;rw[<-e6];simp only[QW,Xz,Zh];refine⟨zs.length-1-i,by omega, ?_⟩;rw[show zs.length-1-(zs.length-1-i)=i by omega,XA,Xg hi];rfl
  have hb:=hB.trans (belowK_b (w:=w) (Xb _) W D _ (.deferred none) (by omega) hK rfl rfl);rcases e4 with⟨e4,hc3⟩|⟨e4,hc3⟩
  ·have h3:=cell_kept hc3 (grownBy_putObj' _ D (.deferred none)) (fun r e=>by cases e;exact⟨_,hK,rfl⟩);exact⟨.int .i64 17,by simp[results,Tryz.f132,go_sem,h3],hb, .inl ⟨j,hjl,e3,hlast, .inl ⟨e4,rfl⟩⟩⟩
  ·have h3:=cell_kept hc3 (grownBy_putObj' _ D (.deferred none)) (fun r e=>by cases e;exact⟨_,hK,rfl⟩);exact⟨.int .i64 0,by simp[results,Tryz.f132,go_sem,h3],hb, .inl ⟨j,hjl,e3,hlast, .inr ⟨e4,rfl⟩⟩⟩
theorem Jku :JmN Tryz.prog 132:=fun w pw d a cap b cap2 s id zs ns hz hn hV hN=>callsIn_wide.1 (Jtz Fence.wide 6 trivial trivial trivial trivial trivial trivial rfl (Xb _) w pw d a cap b cap2 s id zs ns hz hn hV hN)
end Go.Proofs.YtdajkeoobbonjaaGreat
