/- Bytes in slices: copied from texts, read as a text. No condition. -/
import Derived.Test.YtdapogfnhpbanaaGreatDoorP2
set_option linter.unusedVariables false
set_option linter.unusedSimpArgs false
set_option linter.unusedSectionVars false
set_option maxRecDepth 100000
namespace Eva
open Go Go.RowKit
def byL (l:List UInt8):List V:=l.map fun b=>V.int .u8 (b.toNat:Int)
theorem ke (l:List UInt8):(byL l).length=l.length:=List.length_map ..
theorem Jay :∀l:List UInt8,QK l.length (snum l)=byL l
 |[]=>rfl
 | b::l=>by
   have hb:b.toNat<256:=b.toNat_lt
   rw[List.length_cons,QK,snum,show(b.toNat+256*snum l)%256=b.toNat by omega,show(b.toNat+256*snum l)/256=snum l by omega,Jay l]
   rfl
theorem Jnv (l:List UInt8):allSc (byL l)=true:=by
 induction l with
 |nil=>rfl
 |cons b l ih=>simp only[allSc,byL,List.map_cons,List.all_cons]at ih⊢;rw[ih];rfl
theorem Jef :∀l:List UInt8,Qo (byL l)=some (snum l)
 |[]=>rfl
 | b::l=>by
   have hb:b.toNat<256:=b.toNat_lt
   show(if 0<=(b.toNat:Int)/\(b.toNat:Int)<256 then(Qo (byL l)).map fun v=>(b.toNat:Int).toNat+256*v else none)=_
   rw[if_pos ⟨by omega,by omega⟩,Jef l]
   rfl
theorem Jg8 {S:St}{r:Pt}{t o n c:Nat}{row:List V}{l:List UInt8}(hr:S.row r= .cells t row)(hle:o+l.length<=row.length)(hn:l.length<=n)(h0:l≠[]):
  copyV S 1 (.slx r o n 1 c) (ofL l)=some (.int .i64 l.length, .wr r t fun u=> .cells u (splice row o (byL l))):=by
 have h1:slenX (ofL l)=some l.length:=rfl
 have hm:Nat.min l.length n=l.length:=Nat.min_eq_left hn
 have h2:cellsX S 1 l.length (ofL l)=some (byL l):=by
  show(if 1=1/\l.length<=l.length then some (QK l.length (snum l))else none)=_
  rw[if_pos ⟨rfl,Nat.le_refl _⟩,Jay]
 have h3:¬l.length=0:=fun e=>h0 (List.length_eq_zero_iff.1 e)
 unfold copyV
 rw[h1]
 simp only[slen,hm,h2]
 rw[if_neg h3]
 simp only[ptrOf,Jy,hr,ke,Jnv]
 rw[if_pos ⟨hle,trivial⟩]
 rfl
def BytesAt (S:St)(v:V)(l:List UInt8):Prop:=(v= .snil/\l=[])\/∃r t,l≠[]/\v= .slx r 0 l.length 1 l.length/\S.row r= .cells t (byL l)
theorem BytesAt.len {S:St}{v:V}{l:List UInt8}(h:BytesAt S v l):lenLV v=some (.int .i64 l.length, .no):=by
 rcases h with⟨rfl,rfl⟩|⟨r,t,_,rfl,_⟩<;>rfl
theorem BytesAt.sc {S:St}{v:V}{l:List UInt8}(h:BytesAt S v l):v.sc=true:=by
 rcases h with⟨rfl,rfl⟩|⟨r,t,_,rfl,_⟩<;>rfl
theorem jP {S:St}{r:Pt}{t c:Nat}{l:List UInt8}(hr:S.row r= .cells t (byL l)):Jv S 1 l.length (.slx r 0 l.length 1 c)=some (byL l):=by
 simp only[Jv,loadN,hr,Nat.le_refl,true_and,if_true,Nat.mul_one,Nat.zero_add,ke,List.drop_zero]
 rw[show(byL l).take l.length=byL l by rw[<-ke l,List.take_length]]
theorem BytesAt.bts {S:St}{v:V}{l:List UInt8}(h:BytesAt S v l):btsV S v=some (ofL l, .no):=by
 rcases h with⟨rfl,rfl⟩|⟨r,t,_,rfl,hr⟩
 ·rfl
 ·simp only[btsV,slen,jP hr,Jef]
  rfl
theorem BytesAt.gr {S S':St}{v:V}{l:List UInt8}(h:BytesAt S v l)(g:Gr S S'):BytesAt S' v l:=by
 rcases h with h|⟨r,t,h0,rfl,hr⟩
 ·exact .inl h
 ·exact .inr ⟨r,t,h0,rfl,g.cells hr⟩
theorem JkS {S:St}{r:Pt}{n:Nat}:copyV S 1 (.slx r 0 n 1 n) .snil=some (.int .i64 0, .no):=by
 simp only[copyV,slen,slenX,cellsX,Jv,if_true,show Nat.min 0 n=0 from Nat.zero_min n]
theorem Jnw {S:St}{r q:Pt}{t u n c:Nat}{row:List V}{l:List UInt8}(hr:S.row r= .cells t row)(hq:S.row q= .cells u (byL l))(hle:l.length<=row.length)(hn:l.length<=n)(h0:l≠[]):
  copyV S 1 (.slx r 0 n 1 n) (.slx q 0 l.length 1 c)=some (.int .i64 l.length, .wr r t fun u=> .cells u (splice row 0 (byL l))):=by
 have h1:slenX (.slx q 0 l.length 1 c)=some l.length:=rfl
 have hm:Nat.min l.length n=l.length:=Nat.min_eq_left hn
 have h2:cellsX S 1 l.length (.slx q 0 l.length 1 c)=some (byL l):=by
  show Jv S 1 l.length (.slx q 0 l.length 1 c)=_
  exact jP hq
 have h3:¬l.length=0:=fun e=>h0 (List.length_eq_zero_iff.1 e)
 unfold copyV
 rw[h1]
 simp only[slen,hm,h2]
 rw[if_neg h3]
 simp only[ptrOf,Jy,hr,ke,Jnv]
 rw[if_pos ⟨by omega,trivial⟩]
 rfl
theorem cut9 {r:Pt}{k n:Nat}(h:k<=n)(st:St):cutLV st 1 (.slx r 0 n 1 n) (some (.int .i64 (k:Nat))) none none=some (.slx r k (n-k) 1 (n-k), .no):=by
 simp only[cutLV,cutSl,optNat,Y2,Option.bind_eq_bind,Option.bind_some,Int.natCast_nonneg,if_true,Int.toNat_natCast]
 rw[if_pos ⟨trivial,h,Nat.le_refl _,Nat.le_refl _⟩]
 simp
theorem JcF {a b:List V}{n:Nat}(hn:n=a.length+b.length):splice (splice (List.replicate n (V.int .u8 0)) 0 a) a.length b=a++b:=by
 subst hn
 simp[Yy]
theorem Jj1 {st:St}{c:Nat}(hc:c<2^20):mkslV st 1 [.int .u8 0] (.int .i64 (c:Int)) (.int .i64 (c:Int))=some (.slx st.nx 0 c 1 c, .new fun t=> .cells t (List.replicate c (.int .u8 0))):=by
 have e:(List.replicate c [V.int .u8 0]).flatten=List.replicate c (.int .u8 0):=by
  clear hc
  induction c with
  |zero=>rfl
  |succ c ih=>rw[List.replicate_succ,List.flatten_cons,ih,List.replicate_succ];rfl
 have h0:natOf (.int .i64 (c:Int))=some c:=by simp[natOf]
 show evOp (fun _=> .snil) st (.mksl 1 [.int .u8 0] (.c (.int .i64 (c:Int))) (.c (.int .i64 (c:Int))))=_
 simp only[evOp,Opd.ev,h0]
 rw[if_pos ⟨Nat.le_refl _,hc,rfl⟩,e]
end Eva
