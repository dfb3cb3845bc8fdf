/- Plain definitions: the lines of a game. Contracts: a line of a board (the reference), the  · Contracts: the comparisons of two rows of numbers, of strings (the reference's and slices. · Contract: the program's SameTiles. No condition but that a length fits an int. · Contract: the program's SameLexicon. No condition but that a length fits an int. · Plain: whether two games are the same. Contracts: l02Same, SameGame of the reference and o -/
import Derived.Test.YtgphkffbbmmmmaaGreatDoorGsA
import Derived.Test.YtgphkffbbmmmmaaGreatDoorGpG
import Derived.Deep.AppendLies
import Derived.Test.YtgphkffbbmmmmaaGreatDoorVar
import Derived.Test.YtgphkffbbmmmmaaGreatDoorTiC
import Derived.Test.YtgphkffbbmmmmaaGreatDoorGmQ
import Derived.Test.YtgphkffbbmmmmaaGreatDoorGmM
set_option maxRecDepth 100000
set_option maxHeartbeats 4000000
namespace Go.Proofs.YtgphkffbbmmmmaaGreatDoor
open Go.ChangeShapes Go.WideShapes Go.ChangeAt Go.RowKit Go.Sort

def lineB (s:ByteArray) (n k:Nat):ByteArray:=s.extract (k * n) ((k+1) * n)
def rowsB (s:ByteArray) (n:Nat):List ByteArray:=(List.range n).map (lineB s n)
theorem rowsB_len (s:ByteArray) (n:Nat):(rowsB s n).length=n:=by simp [rowsB]
theorem rowsB_next {s:ByteArray} {n k:Nat} (h:k < n):(rowsB s n).take (k+1)=(rowsB s n).take k++[lineB s n k]:=by
 have h2:k < (rowsB s n).length:=by rw [rowsB_len];exact h
 have e:(rowsB s n)[k]=lineB s n k:=by simp only [rowsB,List.getElem_map,List.getElem_range]
 rw [List.take_succ_eq_append_getElem h2,e]
theorem rowsB_all (s:ByteArray) (n:Nat):(rowsB s n).take n=rowsB s n:=List.take_of_length_le (by rw [rowsB_len];exact Nat.le_refl _)
/-- the lines of a valid game -/
def Gam.linesL (x:Gam):List ByteArray:=rowsB x.board.cells x.board.size.toNat++[⟨#[114,97,99,107,32,48,32]⟩++x.rack 0,⟨#[114,97,99,107,32,49,32]⟩++x.rack 1,mkB x.lineL]
def Gam.lines (x:Gam):List ByteArray × Int:=if x.ok=true then (x.linesL,0) else ([],1)
theorem Gam.lines0 {x:Gam} (h:x.ok=false):x.lines=([],1):=by unfold Gam.lines;rw [h];rfl
theorem Gam.lines1 {x:Gam} (h:x.ok=true):x.lines=(x.linesL,0):=by unfold Gam.lines;rw [if_pos h]
theorem Gam.linesL_len (x:Gam):x.linesL.length=x.board.size.toNat+3:=by
 unfold Gam.linesL
 rw [List.length_append,rowsB_len]
 rfl
structure Cuts (n k s0 s1:Nat):Prop where
 p0:(k:Int) * (n:Int)=(s0:Int)
 p1:((k:Int)+1) * (n:Int)=(s1:Int)
 w0:IntKind.i64.wrap (s0:Int)=s0
 w1:IntKind.i64.wrap (s1:Int)=s1
 le:s0≤s1
 hi:s1≤n * n
theorem cuts {n k:Nat} (hk:k < n) (hn:n≤15):Cuts n k (k * n) ((k+1) * n):=by
 have h1:(k+1) * n≤n * n:=Nat.mul_le_mul_right n hk
 have h2:n * n≤15 * 15:=Nat.mul_le_mul hn hn
 have h3:k * n≤(k+1) * n:=Nat.mul_le_mul_right n (Nat.le_succ k)
 exact ⟨by push_cast;rfl,by push_cast;rfl,IntWalk.i64_in _ (by omega),IntWalk.i64_in _ (by omega),h3,h1⟩
theorem rows_any (b:Brd) (n:Nat) (s:ByteArray) (w:World) (hb:b.size=(n:Int)) (hn:n≤15) (hs:s.size=n * n) :
  Calls Tryz.prog 47 #[.agg #[.int .i64 b.size,.string b.premium,.string b.cells],.string s] w (TextsPost w (rowsB s n)):=by
 obtain ⟨i0,hi0,hi1,hi2,hi3⟩:=info_parts infoTx
 rw [hb]
 have V0:=VarAt.new w 29 [.int .i64 n,.string b.premium,.string b.cells]
 have hb0:Below w.heap.size w (w.alloc (.cells #[.int .i64 n,.string b.premium,.string b.cells] 29)):=(Below.refl _ _).alloc (Nat.le_refl _) _
 have HNX:=Lh (fun k (h:k < n)=>rowsB_next (s:=s) h)
 have HAL:=Lh (rowsB_all s n)
 have HRL:=Lh (rowsB_len s n)
 have HCU:=Lh (fun k (h:k < n)=>cuts h hn)
 unfold TextsPost
 rw [HRL.out]
 clear hb
 go_enter Tryz.func47,Tryz.ntmps47
 go_upto_region 1 with fail
 change Code.wp _ _ _ _ (w.alloc (.cells ([.int .i64 n,.string b.premium,.string b.cells]:List Value).toArray 29))
 change Below w.heap.size w (w.alloc (.cells ([.int .i64 n,.string b.premium,.string b.cells]:List Value).toArray 29)) at hb0
 generalize w.alloc (.cells ([.int .i64 n,.string b.premium,.string b.cells]:List Value).toArray 29)=w1 at *
 have hlt:=V0.lt
 have hx:Below w1.heap.size w1 (w1.alloc (.cells #[] 9)):=(Below.refl _ _).alloc (Nat.le_refl _) _
 have HO:Hid ((w1.alloc (.cells #[] 9)).ownsRow w.heap.size 9 1 (.slice (some ⟨w1.heap.size,0,none⟩) 0 0) 0 (((rowsB s n).take 0).flatMap Tx.enc)):=Lh (own_mono (own_empty w1 9) (Nat.le_of_lt hlt))
 have VB:=Lh (V0.kept hx)
 have hbx:=hb0.trans (hx.mono hb0.size)
 have hne:w1.heap.size≠w.heap.size:=by omega
 clear hx V0 hb0
 go_upto_region 3 with fail
 generalize w1.alloc (.cells #[] 9)=w2 at *
 generalize w1.heap.size=g0 at *
 go_loopw [5,6] (fun ov rv wr=>∃ (k g1 cap:Nat),k≤n∧rv=.int .i64 k∧ov=.slice (some ⟨g1,0,none⟩) k cap∧g1≠w.heap.size∧Hid (wr.ownsRow w.heap.size 9 1 (.slice (some ⟨g1,0,none⟩) k cap) k (((rowsB s n).take k).flatMap Tx.enc))∧Hid (VarAt wr w.heap.size 29 [.int .i64 n,.string b.premium,.string b.cells])∧Below w.heap.size w wr) (fun _ rv _=>n - (intOf rv).toNat)
 case atStart=>exact ⟨0,g0,0,Nat.zero_le _,rfl,rfl,hne,HO,VB,hbx⟩
 case round =>
  clear HO VB hbx hne hlt
  obtain ⟨k,g1,cap,hk,rfl,rfl,hgn,HR,VB,hb⟩:=hrel
  have v0:=VB.out.cell (i:=0) rfl
  by_cases hlt:k < n
  ·obtain ⟨p0,p1,w0,w1,le,hi⟩:=HCU.out k hlt
   have wk:IntKind.i64.wrap ((k:Int)+1)=(k:Int)+1:=IntWalk.i64_in _ (by omega)
   have HN1:=Lh (HNX.out k hlt)
   have HL:Hid (lineB s n k=s.extract (k * n) ((k+1) * n)):=Lh rfl
   rw [HL.out] at HN1
   rw [← hs] at hi
   clear HNX HAL HRL HCU HL
   generalize k * n=s0 at *
   generalize (k+1) * n=s1 at *
   have hki:(k:Int) < (n:Int):=by omega
   have hx:Below wr.heap.size wr (wr.alloc (.cells #[.string (s.extract s0 s1)] 9)):=(Below.refl _ _).alloc (Nat.le_refl _) _
   have KN:=Lh (new_tx wr (s.extract s0 s1) 9)
   have hz2:=hb.size
   replace HR:=Lh (own_below HR.out hx)
   have hbx:=hb.trans (hx.mono hb.size)
   have VBx:=Lh (VB.out.kept hx)
   clear hx hb VB
   go_wp2_with (at_builtin;go_must (refine wpList_append_lies _ rfl (.tmp 14) (.tmp 26) 25 rfl w.heap.size 9 i0 _ 1 16 Tryz.underlying25 hi0 hi1 hi2 hi3 rfl (by decide) _ k (((rowsB s n).take k).flatMap Tx.enc) (by rfl) HR.out ⟨wr.heap.size,0,none⟩ 1 1 (Tx.enc (s.extract s0 s1)) (by rfl) rfl KN.out (tx_one _) (by decide) ?c1 ?c2 ?c3 _ rfl ?_))
   case c1=>unfold maxLen;omega
   case c2=>omega
   case c3=>(first | omega | (simp only [World.size_alloc];omega))
   intro g7 cap7 w7 hown hgr hwh hlt7
   have hgs:=VBx.out.lt
   have hg7:g7≠w.heap.size:=by
    rcases hwh with h | h
    ·have e9:g1=g7:=Option.some.inj h
     omega
    ·try simp only [World.size_alloc] at h hgs
     omega
   have VB7:=Lh (VBx.out.grown hgr (by intro e;exact hgn (Option.some.inj e).symm))
   have hb7:=hbx.grown hgr hbx.size (fun q e=>(HR.out.lt q e).1)
   have HR7:Hid (w7.ownsRow w.heap.size 9 1 (.slice (some ⟨g7,0,none⟩) (k+1) cap7) (k+1) (((rowsB s n).take (k+1)).flatMap Tx.enc)):=Lh (by rw [HN1.out,← flat_snoc];exact hown)
   clear hown hgr hwh hlt7 KN hz2 HR VBx hbx hgs v0 HN1
   go_wp2
   go_roundw
   case rel=>exact ⟨k+1,g7,cap7,by omega,by go_num,rfl,hg7,HR7,VB7,hb7⟩
   case measure=>simp [intOf];omega
  ·obtain rfl:k=n:=by omega
   have HR2:Hid (wr.ownsRow w.heap.size 9 1 (.slice (some ⟨g1,0,none⟩) k cap) k ((rowsB s k).flatMap Tx.enc)):=Lh (by have:=HR.out;rw [HAL.out] at this;exact this)
   clear HR HNX HAL HRL HCU VB
   go_wp2
   go_ret
   exact ⟨g1,cap,rfl,HR2.out,hb⟩
end Go.Proofs.YtgphkffbbmmmmaaGreatDoor
set_option maxRecDepth 100000
set_option maxHeartbeats 4000000
namespace Go.Proofs.YtgphkffbbmmmmaaGreatDoor
open Go.ChangeShapes Go.WideShapes Go.ChangeAt Go.RowKit Go.Sort

theorem Drew.bel {a b:World} (h:Drew a b):Below a.heap.size a b:=h.below _

theorem str_ne {x y:ByteArray} (h:¬ x=y):(x.toList == y.toList)=false :=
 beq_eq_false_iff_ne.2 fun e=>h (ByteArray.ext (Array.toList_inj.1 (by rw [← ByteArray.toList_eq,← ByteArray.toList_eq];exact e)))
theorem take_next {α:Type} {xs ys:List α} {k:Nat} (h:xs.take k=ys.take k) (hx:k < xs.length) (hy:k < ys.length) (e:xs[k]=ys[k]):xs.take (k+1)=ys.take (k+1):=by
 rw [List.take_succ_eq_append_getElem hx,List.take_succ_eq_append_getElem hy,h,e]
theorem l00Same_any (xs ys:List Int) (a b:Option Addr) (ca cb:Nat) (w:World) (ha:SliceAt w 1 I64.enc a xs) (hb:SliceAt w 1 I64.enc b ys) (hl:xs.length≤9223372036854775807) (hm:ys.length≤9223372036854775807) :
  Calls Tryz.prog 52 #[.slice a xs.length ca,.slice b ys.length cb] w fun e w'=>e=.returned (.bool (decide (xs=ys)))∧Drew w w':=by
 have HA:=Lh ha;clear ha
 have HB:=Lh hb;clear hb
 by_cases hn:xs.length=ys.length
 ·have HE:Hid (∀ k,xs.length≤k→xs.take k=ys.take k→xs=ys):=Lh (fun k h1 h2=>by
   rw [List.take_of_length_le h1,List.take_of_length_le (by omega)] at h2;exact h2)
  have HL:=Lh hn
  go_enter Tryz.func52,Tryz.ntmps52
  rw [← hn]
  clear hn
  go_wp2_with fail
  go_loopw [5] (fun iv wr=>∃ k:Nat,k≤xs.length∧iv=.int .i64 k∧Hid (xs.take k=ys.take k)∧Drew w wr) (fun iv _=>xs.length - (intOf iv).toNat)
  case atStart=>exact ⟨0,Nat.zero_le _,rfl,Lh rfl,⟨0,rfl⟩⟩
  case round =>
   obtain ⟨k,hk,rfl,HT,hd⟩:=hrel
   by_cases hlt:k < xs.length
   ·obtain ⟨ab,ao,rfl,hca⟩:=(HA.out.kept (hd.below _)).open hlt
    have hlt2:k < ys.length:=by have:=HL.out;omega
    obtain ⟨bb,bo,rfl,hcb⟩:=(HB.out.kept (hd.below _)).open hlt2
    have a0:=hca.at0 hlt (v:=.int .i64 xs[k]) rfl
    have b0:=hcb.at0 hlt2 (v:=.int .i64 ys[k]) rfl
    rw [Nat.mul_one] at a0 b0
    have HN:=Lh (fun e=>take_next HT.out hlt hlt2 e)
    have HD:Hid (xs[k]≠ys[k]→decide (xs=ys)=false):=Lh (fun h=>decide_eq_false fun e=>h (by subst e;rfl))
    generalize xs[k]=x at *
    generalize ys[k]=y at *
    clear hca hcb
    by_cases hxy:x=y
    ·subst hxy
     go_wp2_with fail
     go_quiet (fail)
     go_wp2
     go_roundw
     case rel=>exact ⟨k+1,by omega,by go_num,Lh (HN.out (by trivial)),hd.trans ⟨_,rfl⟩⟩
     case measure=>simp [intOf];omega
    ·have hne:(x == y)=false:=beq_eq_false_iff_ne.2 hxy
     go_wp2_with fail
     go_quiet (fail)
     go_wp2
     go_ret
     exact ⟨ret_bool (HD.out hxy).symm,hd.trans ⟨_,rfl⟩⟩
   ·have hx:decide (xs=ys)=true:=decide_eq_true (HE.out k (by omega) HT.out)
    go_wp2
    go_ret
    exact ⟨ret_bool hx.symm,hd⟩
 ·have HD:Hid (decide (xs=ys)=false):=Lh (decide_eq_false fun e=>hn (by rw [e]))
  have hn2:¬ (xs.length:Int)=(ys.length:Int):=by omega
  go_enter Tryz.func52,Tryz.ntmps52
  go_wp2
  go_ret
  exact ⟨ret_bool HD.out.symm,⟨0,rfl⟩⟩
theorem l05Same_any (xs ys:List ByteArray) (a b:Option Addr) (ca cb:Nat) (w:World) (ha:SliceAt w 1 Tx.enc a xs) (hb:SliceAt w 1 Tx.enc b ys) (hl:xs.length≤9223372036854775807) (hm:ys.length≤9223372036854775807) :
  Calls Tryz.prog 51 #[.slice a xs.length ca,.slice b ys.length cb] w fun e w'=>e=.returned (.bool (decide (xs=ys)))∧Drew w w':=by
 have HA:=Lh ha;clear ha
 have HB:=Lh hb;clear hb
 by_cases hn:xs.length=ys.length
 ·have HE:Hid (∀ k,xs.length≤k→xs.take k=ys.take k→xs=ys):=Lh (fun k h1 h2=>by
   rw [List.take_of_length_le h1,List.take_of_length_le (by omega)] at h2;exact h2)
  have HL:=Lh hn
  go_enter Tryz.func51,Tryz.ntmps51
  rw [← hn]
  clear hn
  go_wp2_with fail
  go_loopw [5] (fun iv wr=>∃ k:Nat,k≤xs.length∧iv=.int .i64 k∧Hid (xs.take k=ys.take k)∧Drew w wr) (fun iv _=>xs.length - (intOf iv).toNat)
  case atStart=>exact ⟨0,Nat.zero_le _,rfl,Lh rfl,⟨0,rfl⟩⟩
  case round =>
   obtain ⟨k,hk,rfl,HT,hd⟩:=hrel
   by_cases hlt:k < xs.length
   ·obtain ⟨ab,ao,rfl,hca⟩:=(HA.out.kept (hd.below _)).open hlt
    have hlt2:k < ys.length:=by have:=HL.out;omega
    obtain ⟨bb,bo,rfl,hcb⟩:=(HB.out.kept (hd.below _)).open hlt2
    have a0:=hca.at0 hlt (v:=.string xs[k]) rfl
    have b0:=hcb.at0 hlt2 (v:=.string ys[k]) rfl
    rw [Nat.mul_one] at a0 b0
    have HN:=Lh (fun e=>take_next HT.out hlt hlt2 e)
    have HD:Hid (xs[k]≠ys[k]→decide (xs=ys)=false):=Lh (fun h=>decide_eq_false fun e=>h (by subst e;rfl))
    generalize xs[k]=x at *
    generalize ys[k]=y at *
    clear hca hcb
    by_cases hxy:x=y
    ·subst hxy
     go_wp2_with fail
     go_quiet (fail)
     go_wp2
     go_roundw
     case rel=>exact ⟨k+1,by omega,by go_num,Lh (HN.out (by trivial)),hd.trans ⟨_,rfl⟩⟩
     case measure=>simp [intOf];omega
    ·have hne:=str_ne hxy
     go_wp2_with fail
     go_quiet (fail)
     go_wp2
     go_ret
     exact ⟨ret_bool (HD.out hxy).symm,hd.trans ⟨_,rfl⟩⟩
   ·have hx:decide (xs=ys)=true:=decide_eq_true (HE.out k (by omega) HT.out)
    go_wp2
    go_ret
    exact ⟨ret_bool hx.symm,hd⟩
 ·have HD:Hid (decide (xs=ys)=false):=Lh (decide_eq_false fun e=>hn (by rw [e]))
  have hn2:¬ (xs.length:Int)=(ys.length:Int):=by omega
  go_enter Tryz.func51,Tryz.ntmps51
  go_wp2
  go_ret
  exact ⟨ret_bool HD.out.symm,⟨0,rfl⟩⟩
end Go.Proofs.YtgphkffbbmmmmaaGreatDoor
namespace Go.Proofs.YtgphkffbbmmmmaaGreatDoor
open Go.ChangeShapes Go.WideShapes Go.ChangeAt Go.RowKit Go.Sort

def sameT (x y:Tls):Bool:=(x.letters.toList == y.letters.toList) && decide (x.values=y.values) && decide (x.counts=y.counts) && (x.blanks == y.blanks)
end Go.Proofs.YtgphkffbbmmmmaaGreatDoor
namespace Go.Proofs.YtgphkffbbmmmmaaGreatDoor
open Go.ChangeShapes Go.WideShapes Go.ChangeAt Go.RowKit Go.Sort

end Go.Proofs.YtgphkffbbmmmmaaGreatDoor
set_option maxRecDepth 100000
set_option maxHeartbeats 8000000
namespace Go.Proofs.YtgphkffbbmmmmaaGreatDoor
open Go.ChangeShapes Go.WideShapes Go.ChangeAt Go.RowKit Go.Sort

/-- whether two last actions are the same -/
def lastEq (x y:Lst):Bool:=(x.kind == y.kind) && ((x.player == y.player) && (((x.play.row == y.play.row) && ((x.play.col == y.play.col) && ((x.play.down == y.play.down) && ((x.play.word.toList == y.play.word.toList) && true)))) && ((x.before.toList == y.before.toList) && ((x.drawn.toList == y.drawn.toList) && ((x.score == y.score) && ((x.zeros == y.zeros) && true))))))
theorem eql_lasts (x y:Lst) (w:World) :
  (binOp .eql 35 (.agg #[.int .i64 x.kind,.int .i64 x.player,.int .i64 x.play.row,.int .i64 x.play.col,.bool x.play.down,.string x.play.word,.string x.before,.string x.drawn,.int .i64 x.score,.int .i64 x.zeros]) (.agg #[.int .i64 y.kind,.int .i64 y.player,.int .i64 y.play.row,.int .i64 y.play.col,.bool y.play.down,.string y.play.word,.string y.before,.string y.drawn,.int .i64 y.score,.int .i64 y.zeros])).run Tryz.prog w=.ok (.bool (lastEq x y)) w:=by
 rw [run_eql_struct]
 have h1:Tryz.prog.underlying 35=some (.struct (Tryz.prog.fieldsOf 35)):=by kernel_rfl
 have h2:Tryz.prog.stoodInHeld 35=false:=by kernel_rfl
 rw [run_equalIn_agg w 9999 35 _ _ h1 h2]
 have hu:=uLast
 have key:(Op.eqFields 9999 #[.int .i64 x.kind,.int .i64 x.player,.int .i64 x.play.row,.int .i64 x.play.col,.bool x.play.down,.string x.play.word,.string x.before,.string x.drawn,.int .i64 x.score,.int .i64 x.zeros] #[.int .i64 y.kind,.int .i64 y.player,.int .i64 y.play.row,.int .i64 y.play.col,.bool y.play.down,.string y.play.word,.string y.before,.string y.drawn,.int .i64 y.score,.int .i64 y.zeros] (Tryz.prog.fieldsOf 35).toList).run Tryz.prog w=.ok (lastEq x y) w:=by
  match h:(Tryz.prog.fieldsOf 35).toList with
  | [f0,f1,f2,f3,f4,f5,f6] =>
   rw [h] at hu
   simp only [List.map_cons,List.map_nil,List.cons.injEq,and_true] at hu
   obtain ⟨e0,e1,e2,e3,e4,e5,e6⟩:=hu
   unfold lastEq
   refine eqF_int e0 (by decide) rfl rfl (eqF_int e1 (by decide) rfl rfl ?_)
   simp only [Prod.mk.injEq] at e2
   obtain ⟨n2,t2,o2⟩:=e2
   refine eqF_cons (by rw [n2];decide) (a:=.agg #[.int .i64 x.play.row,.int .i64 x.play.col,.bool x.play.down,.string x.play.word]) (b:=.agg #[.int .i64 y.play.row,.int .i64 y.play.col,.bool y.play.down,.string y.play.word]) ?_ ?_ ?_ ?_
   ·rw [t2,o2];exact part_play _ 2 _ rfl w
   ·rw [t2,o2];exact part_play _ 2 _ rfl w
   ·rw [t2];exact equalIn_play 9997 x.play.row y.play.row x.play.col y.play.col x.play.down y.play.down x.play.word y.play.word w
   ·exact eqF_str e3 (by decide) rfl rfl (eqF_str e4 (by decide) rfl rfl (eqF_int e5 (by decide) rfl rfl (eqF_int e6 (by decide) rfl rfl rfl)))
  | [] | [_] | [_,_] | [_,_,_] | [_,_,_,_] | [_,_,_,_,_] | [_,_,_,_,_,_] | _ :: _ :: _ :: _ :: _ :: _ :: _ :: _ :: _=>rw [h] at hu;simp at hu
 rw [key]
 rfl
def boardSame (x y:Brd):Bool:=boardEq x.size y.size x.premium y.premium x.cells y.cells
def sameS (x y:Stp):Bool:=sameT x.tiles y.tiles && (decide (x.lexicon=y.lexicon) && (boardSame x.board y.board && (!(x.seconds != y.seconds) && !(x.rule != y.rule))))
/-- as the reference asks -/
def sameG (x y:Gam):Bool:=sameS x.setup y.setup && (boardSame x.board y.board && ((x.bag.toList == y.bag.toList) && (decide (x.racks=y.racks) && (decide (x.scores=y.scores) && (decide (x.clocks=y.clocks) && ((x.player == y.player) && ((x.zeros == y.zeros) && (lastEq x.last y.last && (x.over == y.over)))))))))
theorem l02Same_any (x y:Tls) (p q:TlA) (g g2:Nat) (w:World) (ha:x.At p w) (hc:y.At q w) (hf:x.fit) (hg:y.fit)
  (c0:w.cell? ⟨g,0,none⟩=some (.string x.letters)) (c1:w.cell? ⟨g,1,none⟩=some (.slice p.values.a x.values.length p.values.c)) (c2:w.cell? ⟨g,2,none⟩=some (.slice p.counts.a x.counts.length p.counts.c)) (c3:w.cell? ⟨g,3,none⟩=some (.int .i64 x.blanks))
  (d0:w.cell? ⟨g2,0,none⟩=some (.string y.letters)) (d1:w.cell? ⟨g2,1,none⟩=some (.slice q.values.a y.values.length q.values.c)) (d2:w.cell? ⟨g2,2,none⟩=some (.slice q.counts.a y.counts.length q.counts.c)) (d3:w.cell? ⟨g2,3,none⟩=some (.int .i64 y.blanks)) :
  Calls Tryz.prog 50 #[.pointer (some ⟨g,0,none⟩),.pointer (some ⟨g2,0,none⟩)] w fun e w'=>e=.returned (.bool (sameT x y))∧Below w.heap.size w w':=by
 have HS:Hid (sameT x y=((x.letters.toList == y.letters.toList) && decide (x.values=y.values) && decide (x.counts=y.counts) && (x.blanks == y.blanks))):=Lh rfl
 have H1:Hid (∀ n,Calls Tryz.prog 52 #[.slice p.values.a x.values.length p.values.c,.slice q.values.a y.values.length q.values.c] (w.drewN n) fun e w'=>e=.returned (.bool (decide (x.values=y.values)))∧Drew (w.drewN n) w'):=Lh (fun n=>l00Same_any x.values y.values p.values.a q.values.a p.values.c q.values.c _ (ha.1.kept ((Drew.drewN (Drew.refl _) n).below _)) (hc.1.kept ((Drew.drewN (Drew.refl _) n).below _)) hf.2.1 hg.2.1)
 have H2:Hid (∀ n,Calls Tryz.prog 52 #[.slice p.counts.a x.counts.length p.counts.c,.slice q.counts.a y.counts.length q.counts.c] (w.drewN n) fun e w'=>e=.returned (.bool (decide (x.counts=y.counts)))∧Drew (w.drewN n) w'):=Lh (fun n=>l00Same_any x.counts y.counts p.counts.a q.counts.a p.counts.c q.counts.c _ (ha.2.kept ((Drew.drewN (Drew.refl _) n).below _)) (hc.2.kept ((Drew.drewN (Drew.refl _) n).below _)) hf.2.2 hg.2.2)
 clear ha hc hf hg
 have hx:∀ n,Below w.heap.size w (w.drewN n):=fun n=>(Drew.drewN (Drew.refl _) n).below _
 have HX:=Lh hx;clear hx
 generalize x.values.length=n1 at *
 generalize y.values.length=n2 at *
 generalize x.counts.length=n3 at *
 generalize y.counts.length=n4 at *
 generalize decide (x.values=y.values)=b1 at *
 generalize decide (x.counts=y.counts)=b2 at *
 cases h0:x.letters.toList == y.letters.toList with
 | false =>
  have HN:Hid (sameT x y=false):=Lh (by rw [HS.out,h0];rfl)
  go_enter Tryz.func50,Tryz.ntmps50
  go_upto_region 1 with fail
  go_quiet (fail)
  have hb:=HX.out nq
  generalize w.drewN nq=w9 at *
  go_wp2
  go_ret
  exact ⟨ret_bool HN.out.symm,hb⟩
 | true =>
  cases b1 with
  | false =>
   have HN:Hid (sameT x y=false):=Lh (by rw [HS.out,h0];rfl)
   go_enter Tryz.func50,Tryz.ntmps50
   go_upto_region 1 with fail
   go_quiet ((go_at_call 52;with_reducible exact quiet_of_drew (H1.out _)))
   have hb:=HX.out nq
   generalize w.drewN nq=w9 at *
   go_wp2
   go_ret
   exact ⟨ret_bool HN.out.symm,hb⟩
  | true =>
   cases b2 with
   | false =>
    have HN:Hid (sameT x y=false):=Lh (by rw [HS.out,h0];rfl)
    go_enter Tryz.func50,Tryz.ntmps50
    go_upto_region 1 with fail
    go_quiet ((go_at_call 52;first | with_reducible exact quiet_of_drew (H1.out _) | with_reducible exact quiet_of_drew (H2.out _)))
    have hb:=HX.out nq
    generalize w.drewN nq=w9 at *
    go_wp2
    go_ret
    exact ⟨ret_bool HN.out.symm,hb⟩
   | true =>
    have HN:Hid (sameT x y=(x.blanks == y.blanks)):=Lh (by rw [HS.out,h0];rfl)
    go_enter Tryz.func50,Tryz.ntmps50
    go_upto_region 1 with fail
    go_quiet ((go_at_call 52;first | with_reducible exact quiet_of_drew (H1.out _) | with_reducible exact quiet_of_drew (H2.out _)))
    have hb:=HX.out nq
    generalize w.drewN nq=w9 at *
    go_wp2
    go_ret
    exact ⟨ret_bool HN.out.symm,hb⟩
end Go.Proofs.YtgphkffbbmmmmaaGreatDoor
