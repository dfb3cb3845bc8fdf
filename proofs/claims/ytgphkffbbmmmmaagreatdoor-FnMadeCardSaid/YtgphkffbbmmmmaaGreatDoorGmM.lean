/- Plain definitions and lemmas: when a game is valid. No condition. · Contracts: the referen · Plain lemmas: how the model compares two boards, two last actions. No condition. · Contracts: the reference's board after a play. For valid boards and plays. -/
import Derived.Test.YtgphkffbbmmmmaaGreatDoorGam
import Derived.Test.YtgphkffbbmmmmaaGreatDoorLgF
import Derived.Lib.QuietBelow
import Derived.Test.YtgphkffbbmmmmaaGreatDoorFrame
import Derived.Laws.StructEq
import Derived.ChangeKeysEq
import Derived.Test.YtgphkffbbmmmmaaGreatDoorPlbC
import Derived.Test.YtgphkffbbmmmmaaGreatDoorPlaD
set_option maxRecDepth 100000
set_option maxHeartbeats 4000000
namespace Go.Proofs.YtgphkffbbmmmmaaGreatDoor
open Go.ChangeShapes Go.WideShapes Go.ChangeAt Go.RowKit Go.Sort

/-! ### Sorted piles of lists that are alike -/
theorem cnt_eq {a b:List UInt8} (h:a.Perm b):cntI a=cntI b:=by
 funext k
 unfold cntI
 rw [cnt_perm h k]
theorem srt_congr {a b:List UInt8} (h:a.Perm b):srtL a=srtL b:=by unfold srtL;rw [cnt_eq h]
theorem all_perm {a b:List UInt8} (h:a.Perm b) (f:UInt8→Bool):a.all f=b.all f:=by
 rw [Bool.eq_iff_iff,List.all_eq_true,List.all_eq_true]
 exact ⟨fun x c hc=>x c (h.mem_iff.2 hc),fun x c hc=>x c (h.mem_iff.1 hc)⟩
theorem srt_all {l:List UInt8}:(srtL l).all tileB=true:=List.all_eq_true.2 fun c hc=>pile_tiles _ 27 (Nat.le_refl _) c hc
/-- sorting what another way of sorting has left -/
theorem srt_of {R l:List UInt8} (h:l.all tileB=true) (hs:SortedT R) (hp:R.Perm l):R=srtL l:=srt_eq h hs hp

/-! ### Bags -/
def bagOk (l:List UInt8):Bool:=l.all tileB && decide (l.length≤120)
theorem bag_parts {l:List UInt8} (h:bagOk l=true):l.all tileB=true∧l.length≤120:=by
 unfold bagOk at h
 rwa [Bool.and_eq_true,decide_eq_true_eq] at h

/-! ### Setups -/
def Stp.ok (s:Stp):Bool:=s.tiles.ok && (lexOk s.lexicon && (s.board.ok && (s.board.blank && (withinB s.seconds 0 36000 && withinB s.rule 0 3))))
structure Stp.Good (s:Stp):Prop where
 tiles:s.tiles.ok=true
 lexicon:lexOk s.lexicon=true
 board:s.board.ok=true
 blank:s.board.blank=true
 seconds:withinB s.seconds 0 36000=true
 rule:withinB s.rule 0 3=true
theorem Stp.good {s:Stp} (h:s.ok=true):s.Good:=by
 unfold Stp.ok at h
 simp only [Bool.and_eq_true] at h
 exact ⟨h.1,h.2.1,h.2.2.1,h.2.2.2.1,h.2.2.2.2.1,h.2.2.2.2.2⟩

/-! ### All tiles of a tile set -/
def allK (x:Tls) (n:Nat):List UInt8:=List.replicate x.blanks.toNat 63++(List.range n).flatMap fun i=>List.replicate (x.counts.getD i 0).toNat (x.letters.data.toList.getD i 0)
def allL (x:Tls):List UInt8:=allK x x.letters.size
theorem allK_zero (x:Tls):allK x 0=List.replicate x.blanks.toNat 63:=by simp [allK]
theorem allK_succ (x:Tls) (n:Nat):allK x (n+1)=allK x n++List.replicate (x.counts.getD n 0).toNat (x.letters.data.toList.getD n 0):=by
 unfold allK
 rw [List.range_succ,List.flatMap_append,List.append_assoc]
 simp
theorem allK_len (x:Tls) (hb:x.blanks≤4) (hc:∀ i,x.counts.getD i 0≤20):∀ n,(allK x n).length≤4+20 * n
 | 0=>by rw [allK_zero,List.length_replicate];omega
 | n+1=>by
  rw [allK_succ,List.length_append,List.length_replicate]
  have:=allK_len x hb hc n
  have:=hc n
  omega

/-! ### Games -/
/-- the letters on the board, as tiles -/
def Gam.lets (x:Gam):List UInt8:=(lettersL x.board.cells.data.toList).map tlC
def Gam.rack (x:Gam) (k:Nat):ByteArray:=x.racks.getD k ⟨#[]⟩
/-- the tiles of a game are all tiles -/
def Gam.fits (x:Gam):Bool:=decide (srtL (x.bag.data.toList++(x.rack 0).data.toList++(x.rack 1).data.toList++srtL x.lets)=allL x.setup.tiles)
def Gam.before (x:Gam):Brd:=⟨x.board.size,x.board.premium,x.last.before⟩
/-- the number of tiles that the last play placed -/
def Gam.placed (x:Gam):Nat:=(x.before.fresh x.last.play).length
def Gam.mover (x:Gam):ByteArray:=x.rack x.last.player.toNat
def Gam.playOk (x:Gam):Bool :=
 decide (x.last.player=1 - x.player) && (x.before.okPlay x.last.play && (decide ((x.before.made x.last.play).cells=x.board.cells) && (decide (x.placed≤7) && (bagOk x.last.drawn.data.toList && (decide (x.last.drawn.size≤x.placed) && (decide ((x.mover.size:Int) - x.last.drawn.size+x.placed≤7) && (hasT x.mover.data.toList x.last.drawn.data.toList && (decide (x.last.score=x.before.score x.last.play x.setup.tiles) && (decide (x.last.score≤20000) && (withinB x.last.zeros 0 5 && decide (x.zeros=0)))))))))))
/-- the last action has no fields but its kind and the player -/
def Lst.bare (l:Lst):Bool:=decide (l.play.row=0) && (decide (l.play.col=0) && (!l.play.down && (decide (l.play.word.size=0) && (decide (l.before.size=0) && (decide (l.drawn.size=0) && (decide (l.score=0) && decide (l.zeros=0)))))))
def Gam.lastOk (x:Gam):Bool :=
 if x.last.kind=0 then x.last.bare && decide (x.last.player=0)
 else if x.last.kind=2 then x.last.bare && withinB x.last.player 0 1
 else if x.last.kind=3 then x.last.bare && withinB x.last.player 0 1
 else if x.last.kind=1 then x.playOk else false
/-- a player's rack, score and clock -/
def Gam.sideOk (x:Gam) (k:Nat):Bool:=rackOk (x.rack k).data.toList && (withinB (x.scores.getD k 0) (-100000) 100000 && withinB (x.clocks.getD k 0) (-36000) 36000)
def Gam.headOk (x:Gam):Bool:=x.setup.ok && (x.board.ok && (decide (x.board.size=x.setup.board.size) && (decide (x.board.premium=x.setup.board.premium) && bagOk x.bag.data.toList)))
def Gam.listOk (x:Gam):Bool:=decide (x.racks.length=2) && (decide (x.scores.length=2) && (decide (x.clocks.length=2) && withinB x.player 0 1))
def Gam.ok (x:Gam):Bool:=x.headOk && (x.listOk && (x.sideOk 0 && (x.sideOk 1 && (withinB x.zeros 0 6 && ((x.over || decide (x.zeros < 6)) && (x.fits && x.lastOk))))))
theorem Gam.no_head {x:Gam} (h:x.headOk=false):x.ok=false:=by unfold Gam.ok;rw [h];rfl
theorem Gam.no_list {x:Gam} (h:x.listOk=false):x.ok=false:=by unfold Gam.ok;rw [h,Bool.false_and,Bool.and_false]
theorem Gam.no_side0 {x:Gam} (h:x.sideOk 0=false):x.ok=false:=by unfold Gam.ok;rw [h,Bool.false_and,Bool.and_false,Bool.and_false]
theorem Gam.no_side1 {x:Gam} (h:x.sideOk 1=false):x.ok=false:=by unfold Gam.ok;rw [h,Bool.false_and,Bool.and_false,Bool.and_false,Bool.and_false]
theorem Gam.no_zeros {x:Gam} (h:withinB x.zeros 0 6=false):x.ok=false:=by unfold Gam.ok;rw [h,Bool.false_and];simp
theorem Gam.no_over {x:Gam} (h:(x.over || decide (x.zeros < 6))=false):x.ok=false:=by unfold Gam.ok;rw [h,Bool.false_and];simp
theorem Gam.no_fits {x:Gam} (h:x.fits=false):x.ok=false:=by unfold Gam.ok;rw [h,Bool.false_and];simp
theorem Gam.yes {x:Gam} (h1:x.headOk=true) (h2:x.listOk=true) (h3:x.sideOk 0=true) (h4:x.sideOk 1=true) (h5:withinB x.zeros 0 6=true) (h6:(x.over || decide (x.zeros < 6))=true) (h7:x.fits=true):x.ok=x.lastOk:=by
 unfold Gam.ok;rw [h1,h2,h3,h4,h5,h6,h7];rfl
end Go.Proofs.YtgphkffbbmmmmaaGreatDoor

namespace Go.Proofs.YtgphkffbbmmmmaaGreatDoor
open Go.ChangeShapes Go.WideShapes Go.ChangeAt Go.RowKit Go.Sort

theorem bag_no {l:List UInt8} (h:l.all tileB=false):bagOk l=false:=by unfold bagOk;rw [h];rfl
theorem bag_yes {l:List UInt8} (h:l.all tileB=true):bagOk l=decide (l.length≤120):=by unfold bagOk;rw [h];rfl
theorem l17Ok_any (s:ByteArray) (w:World) (hs:s.size≤9223372036854775807):Calls Tryz.prog 62 #[.string s] w fun e w'=>e=.returned (.bool (bagOk s.data.toList))∧w=w':=by
 have HNO:=Lh (fun k (h:k < s.size) (hp:tileI (s[k].toNat:Int)=false)=>bag_no (all_get (s:=s) (p:=tileB) (k:=k) h hp))
 have HEND:Hid (∀ k (h:s.size≤k) (hp:upTo tileI s k),bagOk s.data.toList=decide (s.size≤120)):=Lh (fun k h hp=>by
  rw [bag_yes (all_end (s:=s) (p:=tileB) (k:=k) h hp)]
  simp)
 generalize bagOk s.data.toList=res at *
 go_enter Tryz.func62,Tryz.ntmps62
 go_wp2
 go_loop [3] (fun i=>∃ k:Nat,k≤s.size∧i=.int .i64 k∧Hid (upTo tileI s k)) (fun i=>s.size - (intOf i).toNat)
 case atStart=>exact ⟨0,Nat.zero_le _,rfl,Lh (upTo.zero _ _)⟩
 case round =>
  obtain ⟨k,hk,rfl,HA⟩:=hrel
  by_cases hlt:k < s.size
  ·cases h1:tileI (s[k].toNat:Int) with
   | true =>
    have HN:Hid (upTo tileI s (k+1)):=Lh (all_step hlt HA.out h1)
    go_wp2_with fail
    refine (l03Tile_any _ _).mono ?_
    rintro e w' ⟨rfl,rfl⟩
    rw [h1]
    clear h1
    go_wp2
    go_round
    case rel=>exact ⟨k+1,by omega,by go_num,HN⟩
    case measure=>simp [intOf];omega
   | false =>
    have HN:Hid (res=false):=Lh (HNO.out k hlt h1)
    go_wp2_with fail
    refine (l03Tile_any _ _).mono ?_
    rintro e w' ⟨rfl,rfl⟩
    rw [h1]
    clear h1
    go_wp2
    go_ret
    exact ⟨ret_bool HN.out.symm,rfl⟩
  ·have HN:=Lh (HEND.out k (by omega) HA.out)
   go_wp2
   go_ret
   exact ⟨ret_bool (by rw [HN.out];exact decide_eq_decide.2 (by omega)),rfl⟩
theorem l02Repeat_any (c:UInt8) (n:Nat) (w:World) (hn:n≤100000) :
  Calls Tryz.prog 57 #[.int .u8 (c.toNat:Int),.int .i64 (n:Int)] w (StrPost w (List.replicate n c)):=by
 obtain ⟨i0,hi0,hi1,hi2,hi3⟩:=info_parts infoByte
 have hd0:Below w.heap.size w (w.alloc (.cells #[] 5)):=(Below.refl _ _).alloc (Nat.le_refl _) _
 have HO:Hid ((w.alloc (.cells #[] 5)).ownsRow w.heap.size 5 1 (.slice (some ⟨w.heap.size,0,none⟩) 0 0) 0 ((List.replicate 0 c).flatMap U8.enc)):=Lh (
  World.ownsRow_made (base:=w.heap.size) (e:=5) (size:=1) w #[] 0 (Nat.le_refl _) (by unfold maxLen;omega) rfl)
 have hb:=hd0
 have HSN:Hid (∀ k,(List.replicate (k+1) c)=List.replicate k c++[c]):=Lh (fun k=>rep_snoc k c)
 have HLN:Hid (∀ k,(List.replicate k c).length=k):=Lh (fun k=>List.length_replicate)
 clear hd0
 obtain ⟨rp,hrp⟩:∃ rp:Nat→List UInt8,∀ k,rp k=List.replicate k c:=⟨_,fun _=>rfl⟩
 have HRP:=Lh hrp
 simp only [← hrp] at HO HSN HLN ⊢
 clear hrp
 go_enter Tryz.func57,Tryz.ntmps57
 go_wp2_with fail
 go_loopw [1,5] (fun nv ov wr=>∃ (k g1 cap:Nat),k≤n∧nv=.int .i64 ((n - k:Nat):Int)∧ov=.slice (some ⟨g1,0,none⟩) k cap∧Hid (wr.ownsRow w.heap.size 5 1 (.slice (some ⟨g1,0,none⟩) k cap) k ((rp k).flatMap U8.enc))∧Below w.heap.size w wr) (fun nv _ _=>(intOf nv).toNat)
 case atStart=>exact ⟨0,_,0,Nat.zero_le _,rfl,rfl,HO,hb⟩
 case round =>
  clear HO hb
  obtain ⟨k,g1,cap,hk,rfl,rfl,HO,hb⟩:=hrel
  by_cases h0:0 < n - k
  ·have hnk:((n - (k+1):Nat):Int)=((n - k:Nat):Int) - 1:=by omega
   have HNK:=Lh hnk
   have hp0:0 < ((n - k:Nat):Int):=by omega
   have hk1:k+1≤n:=by omega
   have hdn:n - k≤100000:=by omega
   clear hnk
   generalize n - k=d at *
   have wr1:IntKind.i64.wrap ((d:Int) - 1)=(d:Int) - 1:=IntWalk.i64_in _ (by omega)
   have hx:Below wr.heap.size wr (wr.alloc (.cells #[.int .u8 ((c.toNat:Int))] 5)):=(Below.refl _ _).alloc (Nat.le_refl _) _
   have KN:=Lh (new_byte wr c 5)
   have HOX:=Lh (own_below HO.out hx)
   have hz2:=hb.size
   have hbx:=hb.trans (hx.mono hb.size)
   have HS:=Lh (HSN.out k)
   clear hx HO hb
   go_wp2_with (at_builtin;go_must (refine wpList_append_lies _ rfl (.tmp 11) (.tmp 13) 49 rfl w.heap.size 5 i0 _ 1 1 Tryz.underlying49 hi0 hi1 hi2 hi3 rfl (by decide) _ k ((rp k).flatMap U8.enc) (by rfl) HOX.out ⟨wr.heap.size,0,none⟩ 1 1 (U8.enc c) (by rfl) rfl KN.out (u8_one1 c) (by decide) ?c1 ?c2 ?c3 _ rfl ?_))
   case c1=>unfold maxLen;omega
   case c2=>omega
   case c3=>(first | omega | (simp only [World.size_alloc];omega))
   intro g7 cap7 w7 hown hgr hwh hlt7
   have hb7:=hbx.grown hgr hbx.size (fun q e=>by have:=(HOX.out.lt q e).1;omega)
   have HO7:Hid (w7.ownsRow w.heap.size 5 1 (.slice (some ⟨g7,0,none⟩) (k+1) cap7) (k+1) ((rp (k+1)).flatMap U8.enc)):=Lh (by rw [HS.out,snoc_flat U8.enc];exact hown)
   clear hown hgr hwh KN hlt7 HOX hbx hz2 HS
   go_wp2
   go_roundw
   case rel=>exact ⟨k+1,g7,cap7,hk1,by rw [HNK.out],rfl,HO7,hb7⟩
   case measure=>simp [intOf];omega
  ·obtain rfl:k=n:=by omega
   rw [Nat.sub_self]
   have hcv:=own_bytes HO.out (HLN.out _).symm
   clear HO HSN
   go_wp2
   go_ret
   exact ⟨rfl,hb⟩
/-! ### All tiles -/
theorem Tls.counts_rng {x:Tls} (h:x.ok=true):(0≤x.blanks∧x.blanks≤4)∧∀ i,0≤x.counts.getD i 0∧x.counts.getD i 0≤20:=by
 unfold Tls.ok at h
 simp only [Bool.and_eq_true,decide_eq_true_eq,within_iff] at h
 obtain ⟨h1,h2,h3,h4,h5,h6⟩:=h
 refine ⟨h4,fun i=>?_⟩
 by_cases hi:i < x.letters.size
 ·have:=all_range_get h5 hi
  unfold Tls.okAt at this
  simp only [Bool.and_eq_true,within_iff] at this
  omega
 ·rw [show x.counts.getD i 0=0 from by rw [List.getD_eq_getElem?_getD,List.getElem?_eq_none (by omega)];rfl]
  omega
theorem l02All_any (x:Tls) (q:TlA) (g:Nat) (w:World) (ht:TAt w g x q) (hk:x.ok=true) :
  Calls Tryz.prog 60 #[.pointer (some ⟨g,0,none⟩)] w (StrPost w (allL x)):=by
 have hx:=Tls.good hk
 obtain ⟨hbl,hcr⟩:=Tls.counts_rng hk
 have HT:=Lh ht
 have hlt:=block_lt ht.1.1
 have HCR:=Lh hcr
 have H3:=Lh hx.counts
 have h26:=hx.hi
 have HST:=Lh (fun i=>allK_succ x i)
 have HLN:Hid (∀ i,(allK x i).length≤4+20 * i):=Lh (fun i=>allK_len x hbl.2 (fun j=>(hcr j).2) i)
 have HR0:Hid (∀ W,Calls Tryz.prog 57 #[.int .u8 63,.int .i64 x.blanks] W (StrPost W (allK x 0))):=Lh (fun W=>by
  have:=l02Repeat_any 63 x.blanks.toNat W (by omega)
  rw [show ((x.blanks.toNat:Nat):Int)=x.blanks from by omega] at this
  rw [allK_zero]
  exact this)
 have HRI:Hid (∀ i (h:i < x.letters.size) W,Calls Tryz.prog 57 #[.int .u8 (x.letters[i].toNat:Int),.int .i64 (x.counts.getD i 0)] W (StrPost W (List.replicate (x.counts.getD i 0).toNat (x.letters.data.toList.getD i 0)))):=Lh (fun i h W=>by
  have h1:=hcr i
  have:=l02Repeat_any x.letters[i] (x.counts.getD i 0).toNat W (by omega)
  rw [show (((x.counts.getD i 0).toNat:Nat):Int)=x.counts.getD i 0 from by omega] at this
  rw [u8_byte h]
  exact this)
 obtain ⟨c0,c1,c2,c3⟩:=ht.1
 clear ht hx hk hcr
 unfold allL
 go_enter Tryz.func60,Tryz.ntmps60
 go_wp2_with fail
 refine (HR0.out _).mono ?_
 rintro e w2 ⟨rfl,hb⟩
 clear HR0 c0 c1 c2 c3
 go_wp2_with fail
 go_loopw [3,4] (fun sv iv wr=>∃ k:Nat,k≤x.letters.size∧iv=.int .i64 k∧sv=.string (mkB (allK x k))∧Below w.heap.size w wr) (fun _ iv _=>x.letters.size - (intOf iv).toNat)
 case atStart=>exact ⟨0,Nat.zero_le _,rfl,rfl,hb⟩
 case round =>
  clear hb
  obtain ⟨k,hk,rfl,rfl,hb⟩:=hrel
  have c0:wr.cell? ⟨g,0,none⟩=some (.string x.letters):=cell_kept HT.out.1.1 hb
  by_cases hkl:k < x.letters.size
  ·have hkc:k < x.counts.length:=by rw [H3.out];exact hkl
   obtain ⟨cb,co,hca,vc⟩:=num_cell (HT.out.2.2.kept hb) hkc
   have HCA:=Lh hca
   have c2:wr.cell? ⟨g,2,none⟩=some (.slice (some ⟨cb,co,none⟩) x.counts.length q.counts.c):=cell_kept (by rw [← hca];exact HT.out.1.2.2.1) hb
   have HRK:=Lh (HRI.out k hkl)
   have HS:=Lh (HST.out k)
   have hl1:=HLN.out k
   have hl2:=HLN.out (k+1)
   rw [HS.out,List.length_append] at hl2
   have hA:Hid (mkB (allK x k++List.replicate (x.counts.getD k 0).toNat (x.letters.data.toList.getD k 0))=mkB (allK x (k+1))):=Lh (by rw [HS.out])
   clear hca HS HST HLN
   generalize x.counts.getD k 0=cc at *
   generalize List.replicate cc.toNat (x.letters.data.toList.getD k 0)=rp at *
   generalize allK x k=ak at *
   have HLA:Hid (mkB ak++mkB rp=mkB (allK x (k+1))):=Lh (by rw [cat_mk,mkB_data,mkB_data];exact hA.out)
   have hsz:(mkB ak).size+(mkB rp).size≤9223372036854775807:=by rw [mkB_size,mkB_size];omega
   generalize mkB ak=sa at *
   have hk0:(k:Int) < (x.letters.size:Int):=by omega
   go_upto_region 5 with fail
   have a0:=cell_regrown c0
   have a2:=cell_regrown c2
   have a4:=cell_regrown vc
   refine wp_region_quiet_below (by kernel_rfl) (by kernel_rfl) ?_
   repeat (go_big_quiet_step ((first | (go_at_call 57;exact Calls.regrown_of (HRK.out _)))))
   refine wpQuiet_nil ?_
   intro wx hw'
   obtain ⟨⟨dq,oq⟩,hw''⟩:=hw'
   have hdx:=below_regrown wr dq oq
   rw [← hw''] at hdx
   clear hw'' a0 a2 a4 c0 c2 vc
   replace hb:=hb.trans (hdx.mono hb.size)
   clear hdx
   rw [HLA.out]
   go_wp2
   go_roundw
   case rel=>exact ⟨k+1,by omega,by go_num,rfl,hb⟩
   case measure=>simp [intOf];omega
  ·obtain rfl:k=x.letters.size:=by omega
   go_wp2
   go_ret
   exact ⟨rfl,hb⟩
/-! ### Setups -/
/-- a setup lies at the head of a block -/
structure SAt (w:World) (g:Nat) (s:Stp) (q:StA):Prop where
 tiles:TAt w g s.tiles q.tiles
 lexc:w.cell? ⟨g,4,none⟩=some (.slice q.lexicon.a s.lexicon.length q.lexicon.c)
 lex:SliceAt w 1 Tx.enc q.lexicon.a s.lexicon
 board:BAt w g 5 s.board
 seconds:w.cell? ⟨g,8,none⟩=some (.int .i64 s.seconds)
 rule:w.cell? ⟨g,9,none⟩=some (.int .i64 s.rule)
theorem SAt.kept {w w':World} {g:Nat} {s:Stp} {q:StA} (h:SAt w g s q) (hb:Below w.heap.size w w'):SAt w' g s q :=
 ⟨h.tiles.kept hb,cell_kept h.lexc hb,h.lex.kept hb,h.board.kept hb,cell_kept h.seconds hb,cell_kept h.rule hb⟩
theorem setup_no1 {s:Stp} (h:s.tiles.ok=false):s.ok=false:=by unfold Stp.ok;rw [h];rfl
theorem setup_no2 {s:Stp} (h:lexOk s.lexicon=false):s.ok=false:=by unfold Stp.ok;rw [h];simp
theorem setup_no3 {s:Stp} (h:s.board.ok=false):s.ok=false:=by unfold Stp.ok;rw [h];simp
theorem setup_no4 {s:Stp} (h:s.board.blank=false):s.ok=false:=by unfold Stp.ok;rw [h];simp
theorem setup_no5 {s:Stp} (h:withinB s.seconds 0 36000=false):s.ok=false:=by unfold Stp.ok;rw [h];simp
theorem setup_last {s:Stp} (h1:s.tiles.ok=true) (h2:lexOk s.lexicon=true) (h3:s.board.ok=true) (h4:s.board.blank=true) (h5:withinB s.seconds 0 36000=true):s.ok=withinB s.rule 0 3:=by unfold Stp.ok;rw [h1,h2,h3,h4,h5];rfl
theorem board_225 {b:Brd} (h:b.ok=true):b.cells.size≤225:=by
 obtain ⟨n,hg⟩:=Brd.good h
 have:=hg.cells
 have:=sq_mono hg.hi
 omega
theorem l18Setup_any (s:Stp) (q:StA) (g:Nat) (w:World) (hs:SAt w g s q) (hf:s.fit) :
  Calls Tryz.prog 61 #[.pointer (some ⟨g,0,none⟩)] w fun e w'=>e=.returned (.bool s.ok)∧Below w.heap.size w w':=by
 obtain ⟨hf1,⟨hf2,hf3⟩,hf4⟩:=hf
 have HS:=Lh hs
 have HF3:=Lh hf3
 clear hs hf3
 have HTK:Hid (∀ W,SAt W g s q→Calls Tryz.prog 58 #[.pointer (some ⟨g,0,none⟩)] W fun e w'=>e=.returned (.bool s.tiles.ok)∧Drew W w'):=Lh (fun W h=>l02Ok_any s.tiles q.tiles g W h.tiles hf1)
 have HLK:Hid (∀ W,SAt W g s q→Calls Tryz.prog 101 #[.pointer (some ⟨g,4,none⟩)] W fun e w'=>e=.returned (.bool (lexOk s.lexicon))∧Drew W w'):=Lh (fun W h=>l05Ok_any s.lexicon g 4 q.lexicon.a q.lexicon.c W h.lexc h.lex hf2 HF3.out)
 have HBK:Hid (∀ W,SAt W g s q→Calls Tryz.prog 90 #[.pointer (some ⟨g,5,none⟩)] W fun e w'=>e=.returned (.bool s.board.ok)∧Drew W w'):=Lh (fun W h=>l11Ok_any s.board g 5 W h.board hf4)
 have HBL:Hid (s.board.ok=true→∀ W,SAt W g s q→Calls Tryz.prog 93 #[.pointer (some ⟨g,5,none⟩)] W (StrPost W (lettersL s.board.cells.data.toList))):=Lh (fun hk W h=>l11Letters_any s.board g 5 W h.board (board_225 hk))
 have HBD:Hid (s.board.blank=(mkB (lettersL s.board.cells.data.toList)).toList.isEmpty):=Lh (by rw [empty_cmp,mkB_size];rfl)
 cases h1:s.tiles.ok with
 | false =>
  have HN:=Lh (setup_no1 h1)
  generalize s.ok=ans at *
  go_enter Tryz.func61,Tryz.ntmps61
  go_wp2_with fail
  refine (HTK.out _ HS.out).mono ?_
  rintro e w2 ⟨rfl,hdq⟩
  rw [h1]
  have hb:=hdq.bels
  clear hdq
  replace HS:=Lh (HS.out.kept hb)
  go_wp2
  go_ret
  exact ⟨ret_bool HN.out.symm,hb⟩
 | true =>
  cases h2:lexOk s.lexicon with
  | false =>
   have HN:=Lh (setup_no2 h2)
   generalize s.ok=ans at *
   go_enter Tryz.func61,Tryz.ntmps61
   go_wp2_with fail
   refine (HTK.out _ HS.out).mono ?_
   rintro e w2 ⟨rfl,hdq⟩
   rw [h1]
   have hb:=hdq.bels
   clear hdq
   replace HS:=Lh (HS.out.kept hb)
   go_wp2_with fail
   refine (HLK.out _ HS.out).mono ?_
   rintro e w3 ⟨rfl,hdq⟩
   rw [h2]
   have hd:=hdq.bels
   clear hdq
   replace hb:=hb.trans (hd.mono hb.size)
   replace HS:=Lh (HS.out.kept hd)
   clear hd
   go_wp2
   go_ret
   exact ⟨ret_bool HN.out.symm,hb⟩
  | true =>
   cases h3:s.board.ok with
   | false =>
    have HN:=Lh (setup_no3 h3)
    generalize s.ok=ans at *
    go_enter Tryz.func61,Tryz.ntmps61
    go_wp2_with fail
    refine (HTK.out _ HS.out).mono ?_
    rintro e w2 ⟨rfl,hdq⟩
    rw [h1]
    have hb:=hdq.bels
    clear hdq
    replace HS:=Lh (HS.out.kept hb)
    go_wp2_with fail
    refine (HLK.out _ HS.out).mono ?_
    rintro e w3 ⟨rfl,hdq⟩
    rw [h2]
    have hd:=hdq.bels
    clear hdq
    replace hb:=hb.trans (hd.mono hb.size)
    replace HS:=Lh (HS.out.kept hd)
    clear hd
    go_wp2_with fail
    refine (HBK.out _ HS.out).mono ?_
    rintro e w4 ⟨rfl,hdq⟩
    rw [h3]
    have hd:=hdq.bels
    clear hdq
    replace hb:=hb.trans (hd.mono hb.size)
    replace HS:=Lh (HS.out.kept hd)
    clear hd
    go_wp2
    go_ret
    exact ⟨ret_bool HN.out.symm,hb⟩
   | true =>
    cases h4:s.board.blank with
    | false =>
     have HN:=Lh (setup_no4 h4)
     have he:(mkB (lettersL s.board.cells.data.toList)).toList.isEmpty=false:=by rw [← HBD.out,h4]
     generalize s.ok=ans at *
     generalize lettersL s.board.cells.data.toList=ll at *
     go_enter Tryz.func61,Tryz.ntmps61
     go_wp2_with fail
     refine (HTK.out _ HS.out).mono ?_
     rintro e w2 ⟨rfl,hdq⟩
     rw [h1]
     have hb:=hdq.bels
     clear hdq
     replace HS:=Lh (HS.out.kept hb)
     go_wp2_with fail
     refine (HLK.out _ HS.out).mono ?_
     rintro e w3 ⟨rfl,hdq⟩
     rw [h2]
     have hd:=hdq.bels
     clear hdq
     replace hb:=hb.trans (hd.mono hb.size)
     replace HS:=Lh (HS.out.kept hd)
     clear hd
     go_wp2_with fail
     refine (HBK.out _ HS.out).mono ?_
     rintro e w4 ⟨rfl,hdq⟩
     rw [h3]
     have hd:=hdq.bels
     clear hdq
     replace hb:=hb.trans (hd.mono hb.size)
     replace HS:=Lh (HS.out.kept hd)
     clear hd
     go_wp2_with fail
     refine (HBL.out h3 _ HS.out).mono ?_
     rintro e w5 ⟨rfl,hd⟩
     replace hb:=hb.trans (hd.mono hb.size)
     replace HS:=Lh (HS.out.kept hd)
     clear hd
     go_wp2
     go_ret
     exact ⟨ret_bool HN.out.symm,hb⟩
    | true =>
     have he:(mkB (lettersL s.board.cells.data.toList)).toList.isEmpty=true:=by rw [← HBD.out,h4]
     cases h5:withinB s.seconds 0 36000 with
     | false =>
      have HN:=Lh (setup_no5 h5)
      generalize s.ok=ans at *
      generalize lettersL s.board.cells.data.toList=ll at *
      go_enter Tryz.func61,Tryz.ntmps61
      go_wp2_with fail
      refine (HTK.out _ HS.out).mono ?_
      rintro e w2 ⟨rfl,hdq⟩
      rw [h1]
      have hb:=hdq.bels
      clear hdq
      replace HS:=Lh (HS.out.kept hb)
      go_wp2_with fail
      refine (HLK.out _ HS.out).mono ?_
      rintro e w3 ⟨rfl,hdq⟩
      rw [h2]
      have hd:=hdq.bels
      clear hdq
      replace hb:=hb.trans (hd.mono hb.size)
      replace HS:=Lh (HS.out.kept hd)
      clear hd
      go_wp2_with fail
      refine (HBK.out _ HS.out).mono ?_
      rintro e w4 ⟨rfl,hdq⟩
      rw [h3]
      have hd:=hdq.bels
      clear hdq
      replace hb:=hb.trans (hd.mono hb.size)
      replace HS:=Lh (HS.out.kept hd)
      clear hd
      go_wp2_with fail
      refine (HBL.out h3 _ HS.out).mono ?_
      rintro e w5 ⟨rfl,hd⟩
      replace hb:=hb.trans (hd.mono hb.size)
      replace HS:=Lh (HS.out.kept hd)
      clear hd
      have c8:=HS.out.seconds
      go_wp2_with fail
      refine (l00In_any _ _ _ _).mono ?_
      rintro e w' ⟨rfl,rfl⟩
      rw [h5]
      go_wp2
      go_ret
      exact ⟨ret_bool HN.out.symm,hb⟩
     | true =>
      have HN:=Lh (setup_last h1 h2 h3 h4 h5)
      generalize s.ok=ans at *
      generalize lettersL s.board.cells.data.toList=ll at *
      go_enter Tryz.func61,Tryz.ntmps61
      go_wp2_with fail
      refine (HTK.out _ HS.out).mono ?_
      rintro e w2 ⟨rfl,hdq⟩
      rw [h1]
      have hb:=hdq.bels
      clear hdq
      replace HS:=Lh (HS.out.kept hb)
      go_wp2_with fail
      refine (HLK.out _ HS.out).mono ?_
      rintro e w3 ⟨rfl,hdq⟩
      rw [h2]
      have hd:=hdq.bels
      clear hdq
      replace hb:=hb.trans (hd.mono hb.size)
      replace HS:=Lh (HS.out.kept hd)
      clear hd
      go_wp2_with fail
      refine (HBK.out _ HS.out).mono ?_
      rintro e w4 ⟨rfl,hdq⟩
      rw [h3]
      have hd:=hdq.bels
      clear hdq
      replace hb:=hb.trans (hd.mono hb.size)
      replace HS:=Lh (HS.out.kept hd)
      clear hd
      go_wp2_with fail
      refine (HBL.out h3 _ HS.out).mono ?_
      rintro e w5 ⟨rfl,hd⟩
      replace hb:=hb.trans (hd.mono hb.size)
      replace HS:=Lh (HS.out.kept hd)
      clear hd
      have c8:=HS.out.seconds
      go_wp2_with fail
      refine (l00In_any _ _ _ _).mono ?_
      rintro e w' ⟨rfl,rfl⟩
      rw [h5]
      have c9:=HS.out.rule
      go_wp2_with fail
      refine (l00In_any _ _ _ _).mono ?_
      rintro e w' ⟨rfl,rfl⟩
      go_wp2
      go_ret
      exact ⟨ret_bool HN.out.symm,hb⟩
end Go.Proofs.YtgphkffbbmmmmaaGreatDoor
namespace Go.Proofs.YtgphkffbbmmmmaaGreatDoor
open Go.ChangeShapes Go.WideShapes Go.ChangeAt Go.RowKit Go.Sort

theorem eqF_cons {P:Program} {d:Nat} {f:Field} {fs:List Field} {xs ys:Array Value} {a b:Value} {r s:Bool} {w:World} (hn:f.name ≠ "_") (ha:(part f.type xs f.offset).run P w=.ok a w) (hb:(part f.type ys f.offset).run P w=.ok b w)
  (hr:(Op.equalIn d f.type a b).run P w=.ok r w) (hs:(Op.eqFields d xs ys fs).run P w=.ok s w):(Op.eqFields d xs ys (f :: fs)).run P w=.ok (r && s) w:=by
 simp only [Op.eqFields,Sem.run_bind,ha,hb,hr,Result.andThen_ok,hn,ne_eq,not_false_eq_true,if_true,Sem.run_ite]
 cases r
 ·simp
 ·simp [hs]
theorem eqF_int {d:Nat} {f:Field} {fs:List Field} {xs ys:Array Value} {a b:Int} {s:Bool} {w:World} {n:String} {o:Nat} (hf:(f.name,f.type,f.offset)=(n,2,o)) (hn:n ≠ "_") (ha:xs[o]?=some (.int .i64 a)) (hb:ys[o]?=some (.int .i64 b))
  (hs:(Op.eqFields (d+1) xs ys fs).run Tryz.prog w=.ok s w):(Op.eqFields (d+1) xs ys (f :: fs)).run Tryz.prog w=.ok ((a == b) && s) w:=by
 simp only [Prod.mk.injEq] at hf
 obtain ⟨h1,h2,h3⟩:=hf
 subst h1
 refine eqF_cons hn (a:=.int .i64 a) (b:=.int .i64 b) ?_ ?_ ?_ hs
 ·rw [h2,h3];exact run_part_plain w (by kernel_rfl) ha
 ·rw [h2,h3];exact run_part_plain w (by kernel_rfl) hb
 ·rw [h2];exact run_equalIn_int w d _ .i64 .i64 a b Tryz.underlying2
theorem eqF_bool {d:Nat} {f:Field} {fs:List Field} {xs ys:Array Value} {a b:Bool} {s:Bool} {w:World} {n:String} {o:Nat} (hf:(f.name,f.type,f.offset)=(n,4,o)) (hn:n ≠ "_") (ha:xs[o]?=some (.bool a)) (hb:ys[o]?=some (.bool b))
  (hs:(Op.eqFields (d+1) xs ys fs).run Tryz.prog w=.ok s w):(Op.eqFields (d+1) xs ys (f :: fs)).run Tryz.prog w=.ok ((a == b) && s) w:=by
 simp only [Prod.mk.injEq] at hf
 obtain ⟨h1,h2,h3⟩:=hf
 subst h1
 refine eqF_cons hn (a:=.bool a) (b:=.bool b) ?_ ?_ ?_ hs
 ·rw [h2,h3];exact run_part_plain w (by kernel_rfl) ha
 ·rw [h2,h3];exact run_part_plain w (by kernel_rfl) hb
 ·rw [h2];exact run_equalIn_bool' w d _ a b Tryz.underlying4
theorem eqF_str {d:Nat} {f:Field} {fs:List Field} {xs ys:Array Value} {a b:ByteArray} {s:Bool} {w:World} {n:String} {o:Nat} (hf:(f.name,f.type,f.offset)=(n,9,o)) (hn:n ≠ "_") (ha:xs[o]?=some (.string a)) (hb:ys[o]?=some (.string b))
  (hs:(Op.eqFields (d+1) xs ys fs).run Tryz.prog w=.ok s w):(Op.eqFields (d+1) xs ys (f :: fs)).run Tryz.prog w=.ok ((a.toList == b.toList) && s) w:=by
 simp only [Prod.mk.injEq] at hf
 obtain ⟨h1,h2,h3⟩:=hf
 subst h1
 refine eqF_cons hn (a:=.string a) (b:=.string b) ?_ ?_ ?_ hs
 ·rw [h2,h3];exact run_part_plain w (by kernel_rfl) ha
 ·rw [h2,h3];exact run_part_plain w (by kernel_rfl) hb
 ·rw [h2];exact run_equalIn_string w d _ a b Tryz.underlying9
theorem uBoard:(Tryz.prog.fieldsOf 29).toList.map (fun f=>(f.name,f.type,f.offset))=[("Size",2,0),("Premium",9,1),("Cells",9,2)]:=by kernel_rfl
theorem uPlay:(Tryz.prog.fieldsOf 33).toList.map (fun f=>(f.name,f.type,f.offset))=[("Row",2,0),("Col",2,1),("Down",4,2),("Word",9,3)]:=by kernel_rfl
theorem uLast:(Tryz.prog.fieldsOf 35).toList.map (fun f=>(f.name,f.type,f.offset))=[("Kind",2,0),("Player",2,1),("Play",33,2),("Before",9,6),("Drawn",9,7),("Score",2,8),("Zeros",2,9)]:=by kernel_rfl
/-- whether two boards are the same -/
def boardEq (s s2:Int) (p p2 c c2:ByteArray):Bool:=(s == s2) && ((p.toList == p2.toList) && ((c.toList == c2.toList) && true))
theorem equalIn_board (d:Nat) (s s2:Int) (p p2 c c2:ByteArray) (w:World) :
  (Op.equalIn (d+2) 29 (.agg #[.int .i64 s,.string p,.string c]) (.agg #[.int .i64 s2,.string p2,.string c2])).run Tryz.prog w=.ok (boardEq s s2 p p2 c c2) w:=by
 have h1:Tryz.prog.underlying 29=some (.struct (Tryz.prog.fieldsOf 29)):=by kernel_rfl
 have h2:Tryz.prog.stoodInHeld 29=false:=by kernel_rfl
 rw [run_equalIn_agg w (d+1) 29 _ _ h1 h2]
 have hu:=uBoard
 match h:(Tryz.prog.fieldsOf 29).toList with
 | [f0,f1,f2] =>
  rw [h] at hu
  simp only [List.map_cons,List.map_nil,List.cons.injEq,and_true] at hu
  obtain ⟨e0,e1,e2⟩:=hu
  exact eqF_int e0 (by decide) rfl rfl (eqF_str e1 (by decide) rfl rfl (eqF_str e2 (by decide) rfl rfl rfl))
 | [] | [_] | [_,_] | _ :: _ :: _ :: _ :: _=>rw [h] at hu;simp at hu
theorem eql_board (s s2:Int) (p p2 c c2:ByteArray) (w:World) :
  (binOp .eql 29 (.agg #[.int .i64 s,.string p,.string c]) (.agg #[.int .i64 s2,.string p2,.string c2])).run Tryz.prog w=.ok (.bool (boardEq s s2 p p2 c c2)) w:=by
 rw [run_eql_struct,equalIn_board 9998];rfl
theorem neq_board (s s2:Int) (p p2 c c2:ByteArray) (w:World) :
  (binOp .neq 29 (.agg #[.int .i64 s,.string p,.string c]) (.agg #[.int .i64 s2,.string p2,.string c2])).run Tryz.prog w=.ok (.bool (!boardEq s s2 p p2 c c2)) w:=by
 rw [run_neq_struct,equalIn_board 9998];rfl
theorem part_play (xs:Array Value) (o:Nat) (vs:Array Value) (hx:xs.extract o (o+4)=vs) (w:World):(part 33 xs o).run Tryz.prog w=.ok (.agg vs) w:=by
 have h1:Tryz.prog.underlying 33=some (.struct (Tryz.prog.fieldsOf 33)):=by kernel_rfl
 unfold part
 simp [isAgg,run_underlying h1,Sem.run_bind,hx]
theorem equalIn_play (d:Nat) (r r2 c c2:Int) (b b2:Bool) (s s2:ByteArray) (w:World) :
  (Op.equalIn (d+2) 33 (.agg #[.int .i64 r,.int .i64 c,.bool b,.string s]) (.agg #[.int .i64 r2,.int .i64 c2,.bool b2,.string s2])).run Tryz.prog w=.ok ((r == r2) && ((c == c2) && ((b == b2) && ((s.toList == s2.toList) && true)))) w:=by
 have h1:Tryz.prog.underlying 33=some (.struct (Tryz.prog.fieldsOf 33)):=by kernel_rfl
 have h2:Tryz.prog.stoodInHeld 33=false:=by kernel_rfl
 rw [run_equalIn_agg w (d+1) 33 _ _ h1 h2]
 have hu:=uPlay
 match h:(Tryz.prog.fieldsOf 33).toList with
 | [f0,f1,f2,f3] =>
  rw [h] at hu
  simp only [List.map_cons,List.map_nil,List.cons.injEq,and_true] at hu
  obtain ⟨e0,e1,e2,e3⟩:=hu
  exact eqF_int e0 (by decide) rfl rfl (eqF_int e1 (by decide) rfl rfl (eqF_bool e2 (by decide) rfl rfl (eqF_str e3 (by decide) rfl rfl rfl)))
 | [] | [_] | [_,_] | [_,_,_] | _ :: _ :: _ :: _ :: _ :: _=>rw [h] at hu;simp at hu
/-- whether a last action has nothing but its kind and its player -/
def bareB (a b:Int) (d:Bool) (s t u:ByteArray) (c e:Int):Bool:=((a == 0) && ((b == 0) && ((d == false) && ((s.toList == (⟨#[]⟩:ByteArray).toList) && true)))) && ((t.toList == (⟨#[]⟩:ByteArray).toList) && ((u.toList == (⟨#[]⟩:ByteArray).toList) && ((c == 0) && ((e == 0) && true))))
theorem eql_last (k r k2 r2 a b:Int) (d:Bool) (s t u:ByteArray) (c e:Int) (w:World) :
  (binOp .eql 35 (.agg #[.int .i64 k,.int .i64 r,.int .i64 a,.int .i64 b,.bool d,.string s,.string t,.string u,.int .i64 c,.int .i64 e]) (.agg #[.int .i64 k2,.int .i64 r2,.int .i64 0,.int .i64 0,.bool false,.string ⟨#[]⟩,.string ⟨#[]⟩,.string ⟨#[]⟩,.int .i64 0,.int .i64 0])).run Tryz.prog w=.ok (.bool ((k == k2) && ((r == r2) && bareB a b d s t u c e))) w:=by
 rw [run_eql_struct]
 have h1:Tryz.prog.underlying 35=some (.struct (Tryz.prog.fieldsOf 35)):=by kernel_rfl
 have h2:Tryz.prog.stoodInHeld 35=false:=by kernel_rfl
 rw [run_equalIn_agg w 9999 35 _ _ h1 h2]
 have hu:=uLast
 have key:(Op.eqFields 9999 #[.int .i64 k,.int .i64 r,.int .i64 a,.int .i64 b,.bool d,.string s,.string t,.string u,.int .i64 c,.int .i64 e] #[.int .i64 k2,.int .i64 r2,.int .i64 0,.int .i64 0,.bool false,.string ⟨#[]⟩,.string ⟨#[]⟩,.string ⟨#[]⟩,.int .i64 0,.int .i64 0] (Tryz.prog.fieldsOf 35).toList).run Tryz.prog w=.ok ((k == k2) && ((r == r2) && bareB a b d s t u c e)) w:=by
  match h:(Tryz.prog.fieldsOf 35).toList with
  | [f0,f1,f2,f3,f4,f5,f6] =>
   rw [h] at hu
   simp only [List.map_cons,List.map_nil,List.cons.injEq,and_true] at hu
   obtain ⟨e0,e1,e2,e3,e4,e5,e6⟩:=hu
   refine eqF_int e0 (by decide) rfl rfl (eqF_int e1 (by decide) rfl rfl ?_)
   unfold bareB
   simp only [Prod.mk.injEq] at e2
   obtain ⟨n2,t2,o2⟩:=e2
   refine eqF_cons (by rw [n2];decide) (a:=.agg #[.int .i64 a,.int .i64 b,.bool d,.string s]) (b:=.agg #[.int .i64 0,.int .i64 0,.bool false,.string ⟨#[]⟩]) ?_ ?_ ?_ ?_
   ·rw [t2,o2];exact part_play _ 2 _ rfl w
   ·rw [t2,o2];exact part_play _ 2 _ rfl w
   ·rw [t2];exact equalIn_play 9997 a 0 b 0 d false s ⟨#[]⟩ w
   ·exact eqF_str e3 (by decide) rfl rfl (eqF_str e4 (by decide) rfl rfl (eqF_int e5 (by decide) rfl rfl (eqF_int e6 (by decide) rfl rfl rfl)))
  | [] | [_] | [_,_] | [_,_,_] | [_,_,_,_] | [_,_,_,_,_] | [_,_,_,_,_,_] | _ :: _ :: _ :: _ :: _ :: _ :: _ :: _ :: _=>rw [h] at hu;simp at hu
 rw [key]
 rfl
end Go.Proofs.YtgphkffbbmmmmaaGreatDoor
set_option maxRecDepth 100000
set_option maxHeartbeats 8000000
namespace Go.Proofs.YtgphkffbbmmmmaaGreatDoor
open Go.ChangeShapes Go.WideShapes Go.ChangeAt Go.RowKit Go.Sort

/-! ### Plain: the board after a play is found on the turned board too -/
theorem mkB_ext {a b:List UInt8} (h:a=b):mkB a=mkB b:=by rw [h]
theorem bytes_ext {s t:ByteArray} (h:s.data.toList=t.data.toList):s=t:=ByteArray.ext (Array.toList_inj.1 h)
theorem sq_ext {n:Nat} {a b:List UInt8} (ha:a.length=n * n) (hb:b.length=n * n) (h:∀ r c,r < n→c < n→a.getD (r * n+c) 0=b.getD (r * n+c) 0):a=b:=by
 apply List.ext_getElem (by rw [ha,hb])
 intro m hm hm2
 have hn:0 < n:=by
  rcases Nat.eq_zero_or_pos n with e | e
  ·subst e;omega
  ·exact e
 have h1:m / n < n:=Nat.div_lt_of_lt_mul (by rw [← ha];exact hm)
 have h2:m % n < n:=Nat.mod_lt _ hn
 have h3:=h (m / n) (m % n) h1 h2
 have e:m / n * n+m % n=m:=by rw [Nat.mul_comm];exact Nat.div_add_mod m n
 rw [e,u8get hm,u8get hm2] at h3
 exact h3
where u8get {l:List UInt8} {j:Nat} (h:j < l.length):l.getD j 0=l[j]:=by simp [h]
theorem set_getD (l:List UInt8) (i m:Nat) (x:UInt8):(l.set i x).getD m 0=if i=m then (if i < l.length then x else 0) else l.getD m 0:=by
 rw [List.getD_eq_getElem?_getD,List.getElem?_set,List.getD_eq_getElem?_getD]
 by_cases e:i=m
 ·rw [if_pos e,if_pos e]
  by_cases h:i < l.length
  ·rw [if_pos h,if_pos h];rfl
  ·rw [if_neg h,if_neg h];rfl
 ·rw [if_neg e,if_neg e]
theorem turned_idx {p:Ply} (hd:p.down=true) (n k:Nat):p.turn.idx n k=(p.sc k * n+p.sr k).toNat:=by
 unfold Ply.idx Ply.sr Ply.sc Ply.turn
 simp [hd]
theorem madeK_turn {b:Brd} {p:Ply} {n:Nat} (h:PGood b p n) (hd:p.down=true) (L L2:List UInt8) (hl:L.length=n * n) (hl2:L2.length=n * n) (h0:∀ r c,r < n→c < n→L2.getD (c * n+r) 0=L.getD (r * n+c) 0) :
  ∀ k,k≤p.word.size→∀ r c,r < n→c < n→(madeK n p.turn L2 k).getD (c * n+r) 0=(madeK n p L k).getD (r * n+c) 0
 | 0,_,r,c,hr,hc=>h0 r c hr hc
 | k+1,hk,r,c,hr,hc=>by
  obtain ⟨i,j,e1,e2,l1,l2,e3,_⟩:=h.idx_lt (show k < p.word.size by omega)
  have e4:p.turn.idx n k=j * n+i:=by
   rw [turned_idx hd,e1,e2,← Int.natCast_mul,← Int.natCast_add,Int.toNat_natCast]
  rw [madeK,madeK,e3,e4,set_getD,set_getD,madeK_len,madeK_len,hl,hl2]
  have ih:=madeK_turn h hd L L2 hl hl2 h0 k (by omega) r c hr hc
  by_cases e:i=r∧j=c
  ·obtain ⟨rfl,rfl⟩:=e
   rw [if_pos rfl,if_pos rfl,if_pos (row_ltn hc hr),if_pos (row_ltn hr hc)]
   rfl
  ·have n1:¬ i * n+j=r * n+c:=fun x=>e (mul_inj l2 hc x)
   have n2:¬ j * n+i=c * n+r:=fun x=>e (by have:=mul_inj l1 hr x;exact ⟨this.2,this.1⟩)
   rw [if_neg n1,if_neg n2]
   exact ih
theorem made_turn {b:Brd} {p:Ply} {n:Nat} (h:PGood b p n) (hd:p.down=true):(b.turn.made p.turn).turn=b.made p:=by
 have hbt:b.size.toNat=n:=by rw [h.good.size];simp
 have hlc:b.cells.data.toList.length=n * n:=by have:=h.good.cells;simpa using this
 have hlp:b.premium.data.toList.length=n * n:=by have:=h.good.prem;simpa using this
 unfold Brd.made Brd.turn
 simp only [hbt,mkB_data]
 congr 1
 ·refine bytes_ext ?_
  rw [mkB_data]
  refine sq_ext (turnB_len _ _) hlp fun r c hr hc=>?_
  rw [turnB_get hr hc,turnB_get hc hr]
 ·refine mkB_ext (sq_ext (turnB_len _ _) (by rw [madeK_len];exact hlc) fun r c hr hc=>?_)
  rw [turnB_get hr hc]
  exact madeK_turn h hd b.cells.data.toList (turnB n b.cells.data.toList) hlc (turnB_len _ _) (fun r c hr hc=>turnB_get hc hr) _ (Nat.le_refl _) r c hr hc
theorem made_flat_down {b:Brd} {p:Ply} {n:Nat} (h:PGood b p n) (hd:p.down=true):((b.flat p.down).made p.flat).turn=b.made p:=by
 have e1:b.flat p.down=b.turn:=by unfold Brd.flat;rw [hd];rfl
 have e2:p.flat=p.turn:=by unfold Ply.flat;rw [hd];rfl
 rw [e1,e2]
 exact made_turn h hd
theorem made_flat_across {b:Brd} {p:Ply} (hd:p.down=false):(b.flat p.down).made p.flat=b.made p:=by
 have e1:b.flat p.down=b:=by unfold Brd.flat;rw [hd];rfl
 have e2:p.flat=p:=by unfold Ply.flat;rw [hd];rfl
 rw [e1,e2]
theorem flat_idx {b:Brd} {p:Ply} {n:Nat} (h:PGood b p n):∃ R C:Nat,p.flat.row=R∧p.flat.col=C∧R < n∧C+p.word.size≤n∧∀ k,k < p.word.size→p.flat.idx n k=R * n+C+k∧R * n+C+k < n * n:=by
 have r0:=h.r0
 have r1:=h.r1
 have c0:=h.c0
 have c1:=h.c1
 obtain ⟨R,hR⟩:=Int.eq_ofNat_of_zero_le r0
 obtain ⟨C,hC⟩:=Int.eq_ofNat_of_zero_le c0
 have fd:p.flat.down=false:=by
  unfold Ply.flat
  cases hd:p.down with
  | false=>simp [hd]
  | true=>simp [Ply.turn,hd]
 refine ⟨R,C,by rw [Ply.flat_row,hR],by rw [Ply.flat_col,hC],by omega,by omega,fun k hk=>⟨?_,?_⟩⟩
 ·unfold Ply.idx Ply.sr Ply.sc
  rw [fd,Ply.flat_row,Ply.flat_col,hR,hC]
  simp only [Bool.false_eq_true,if_false]
  have:(R:Int) * (n:Int)+((C:Int)+(k:Int))=((R * n+C+k:Nat):Int):=by push_cast;omega
  rw [this,Int.toNat_natCast]
 ·have h1:C+k < n:=by omega
  have:=row_ltn (show R < n by omega) h1
  omega
theorem l12Make_any (b:Brd) (p:Ply) (n g o:Nat) (w:World) (hg:BAt w g o b) (hp:PGood b p n) :
  Calls Tryz.prog 173 #[.pointer (some ⟨g,o,none⟩),.agg #[.int .i64 p.row,.int .i64 p.col,.bool p.down,.string p.word]] w fun e w'=>e=.returned (.agg #[.int .i64 (b.made p).size,.string (b.made p).premium,.string (b.made p).cells])∧Below w.heap.size w w':=by
 have hlt:=hg.lt
 have hn15:=hp.good.hi
 have hs12:=hp.twelve
 have hgf:=hp.good.flat p.down
 have hfn:=hgf.size
 have hft:(b.flat p.down).size.toNat=n:=by rw [hfn];simp
 have hfc:=hgf.cells
 have hnn:n * n≤225:=sq_mono hn15
 have HGD:=Lh hp.good
 obtain ⟨R,C,hR,hC,hR1,hC1,hix⟩:=flat_idx hp
 obtain ⟨w2,hw2⟩:∃ w2,w2=(w.alloc (.cells #[.int .i64 p.row,.int .i64 p.col,.bool p.down,.string p.word] 33)).alloc (.cells #[.int .i64 0,.string ⟨#[]⟩,.string ⟨#[]⟩] 29):=⟨_,rfl⟩
 have hb:Below w.heap.size w w2:=by rw [hw2];exact ((Below.refl _ _).alloc (Nat.le_refl _) _).alloc (by simp) _
 have VP:Hid (VarAt w2 w.heap.size 33 [.int .i64 p.row,.int .i64 p.col,.bool p.down,.string p.word]):=by
  rw [hw2]
  exact Lh ((VarAt.new w 33 [.int .i64 p.row,.int .i64 p.col,.bool p.down,.string p.word]).kept ((Below.refl _ _).alloc (Nat.le_refl _) _))
 have VR:Hid (VarAt w2 (w.heap.size+1) 29 [.int .i64 0,.string ⟨#[]⟩,.string ⟨#[]⟩]):=by
  rw [hw2]
  have:=VarAt.new (w.alloc (.cells #[.int .i64 p.row,.int .i64 p.col,.bool p.down,.string p.word] 33)) 29 [.int .i64 0,.string ⟨#[]⟩,.string ⟨#[]⟩]
  simp only [World.size_alloc] at this
  exact Lh this
 have HG:=Lh (hg.kept hb)
 have HW2:=Lh hw2
 clear hw2 hg
 have hmd:(b.flat p.down).made p.flat=⟨(b.flat p.down).size,(b.flat p.down).premium,mkB (madeK n p.flat (b.flat p.down).cells.data.toList p.word.size)⟩:=by
  unfold Brd.made
  rw [hft,Ply.flat_word]
 have HDN:Hid (p.down=true→(⟨(b.flat p.down).size,(b.flat p.down).premium,mkB (madeK n p.flat (b.flat p.down).cells.data.toList p.word.size)⟩:Brd).turn=b.made p):=Lh (fun h=>by rw [← hmd];exact made_flat_down hp h)
 have HAC:Hid (p.down=false→(⟨(b.flat p.down).size,(b.flat p.down).premium,mkB (madeK n p.flat (b.flat p.down).cells.data.toList p.word.size)⟩:Brd)=b.made p):=Lh (fun h=>by rw [← hmd];exact made_flat_across h)
 have HMG:Hid ((⟨(b.flat p.down).size,(b.flat p.down).premium,mkB (madeK n p.flat (b.flat p.down).cells.data.toList p.word.size)⟩:Brd).Good n):=Lh (by
  refine ⟨hgf.size,hgf.lo,hgf.hi,hgf.prem,?_,hgf.okP,?_⟩
  ·show (mkB _).size=_
   rw [mkB_size,madeK_len]
   have:=hgf.cells
   simpa using this
  ·unfold allC
   show (mkB _).data.toList.all _=true
   rw [mkB_data]
   refine madeK_all hgf.okC _ (by rw [Ply.flat_word];exact Nat.le_refl _) ?_
   rw [Ply.flat_word,List.all_eq_true]
   intro x hx
   have:=List.all_eq_true.1 hp.letters x hx
   unfold letB at this
   unfold cellB
   rw [Bool.or_assoc,this,Bool.or_true])
 have HLN:=Lh (madeK_len n p.flat (b.flat p.down).cells.data.toList)
 have HSC:Hid (∀ k,madeK n p.flat (b.flat p.down).cells.data.toList (k+1)=(madeK n p.flat (b.flat p.down).cells.data.toList k).set (p.flat.idx n k) (p.word.data.toList.getD k 0)):=Lh (fun k=>by rw [madeK,Ply.flat_word])
 have HM0:Hid (madeK n p.flat (b.flat p.down).cells.data.toList 0=(b.flat p.down).cells.data.toList):=Lh rfl
 have HFL:Hid (∀ W,BAt W g o b→Calls Tryz.prog 170 #[.pointer (some ⟨g,o,none⟩),.agg #[.int .i64 p.row,.int .i64 p.col,.bool p.down,.string p.word]] W fun e w'=>e=.returned (flatV b p)∧Below W.heap.size W w'):=Lh (fun W h=>l12Flat_any b p n g o W HGD.out h)
 have HTP:Hid (∀ (c:Brd) x W,c.Good n→BAt W x 0 c→Calls Tryz.prog 202 #[.pointer (some ⟨x,0,none⟩)] W fun e w'=>e=.returned (.agg #[.int .i64 c.turn.size,.string c.turn.premium,.string c.turn.cells])∧Below W.heap.size W w'):=Lh (fun c x W h1 h2=>l11Transpose_any c n x 0 W h1 h2)
 have HIX:=Lh hix
 have HCL:Hid ((b.flat p.down).cells.data.toList.length=(b.flat p.down).cells.size):=Lh (by simp)
 clear hp hgf hmd hix HGD hft
 generalize b.made p=res at *
 unfold flatV at HFL
 rw [hfn] at HFL HDN HAC HMG
 clear hfn
 generalize (b.flat p.down).premium=fp at *
 generalize (b.flat p.down).cells=fc at *
 rw [hR,hC] at HFL
 generalize p.flat.down=fd at *
 generalize hmk:madeK n p.flat fc.data.toList=mk at *
 have HFC:=Lh hfc
 clear hmk hfc
 go_enter Tryz.func173,Tryz.ntmps173
 go_upto_region 1 with fail
 rw [← HW2.out]
 clear HW2
 have p0:=VP.out.cell (i:=0) rfl
 have p1:=VP.out.cell (i:=1) rfl
 have p2:=VP.out.cell (i:=2) rfl
 have p3:=VP.out.cell (i:=3) rfl
 go_wp2_with fail
 refine (HFL.out _ HG.out).mono ?_
 rintro e w3 ⟨rfl,hd⟩
 have hz2:=VR.out.lt
 clear p0 p1 p2 p3 HG HFL
 replace hb:=hb.trans (hd.mono hb.size)
 replace VP:=Lh (VP.out.kept hd)
 replace VR:=Lh (VR.out.kept hd)
 clear hd
 have hz3:=VR.out.lt
 have HF:Hid (VarAt ((w3.alloc (.cells #[.int .i64 n,.string fp,.string fc] 29)).alloc (.cells #[.int .i64 R,.int .i64 C,.bool fd,.string p.word] 33)) w3.heap.size 29 [.int .i64 n,.string fp,.string fc]):=Lh ((VarAt.new w3 29 [.int .i64 n,.string fp,.string fc]).kept ((Below.refl _ _).alloc (Nat.le_refl _) _))
 have HQ:Hid (VarAt ((w3.alloc (.cells #[.int .i64 n,.string fp,.string fc] 29)).alloc (.cells #[.int .i64 R,.int .i64 C,.bool fd,.string p.word] 33)) (w3.heap.size+1) 33 [.int .i64 R,.int .i64 C,.bool fd,.string p.word]):=Lh (by
  have:=VarAt.new (w3.alloc (.cells #[.int .i64 n,.string fp,.string fc] 29)) 33 [.int .i64 R,.int .i64 C,.bool fd,.string p.word]
  simp only [World.size_alloc] at this
  exact this)
 have hd:Below w3.heap.size w3 ((w3.alloc (.cells #[.int .i64 n,.string fp,.string fc] 29)).alloc (.cells #[.int .i64 R,.int .i64 C,.bool fd,.string p.word] 33)):=((Below.refl _ _).alloc (Nat.le_refl _) _).alloc (by simp) _
 replace hb:=hb.trans (hd.mono hb.size)
 replace VP:=Lh (VP.out.kept hd)
 replace VR:=Lh (VR.out.kept hd)
 clear hd
 go_upto_region 2 with fail
 have hz5:w3.heap.size+1 < ((w3.alloc (.cells #[.int .i64 n,.string fp,.string fc] 29)).alloc (.cells #[.int .i64 R,.int .i64 C,.bool fd,.string p.word] 33)).heap.size:=by simp
 generalize (w3.alloc (.cells #[.int .i64 n,.string fp,.string fc] 29)).alloc (.cells #[.int .i64 R,.int .i64 C,.bool fd,.string p.word] 33)=w5 at *
 generalize w3.heap.size=B at *
 obtain ⟨cp,w6,hcp,hcv,hr,hd⟩:=bytes_of fc w5
 have HR:Hid (RowB w6 w5.heap.size (mk 0)):=Lh (by rw [HM0.out];exact hr)
 have f2:=HF.out.cell (i:=2) rfl
 clear hr HM0
 go_upto_region 4 with fail
 clear hcv f2
 replace hb:=hb.trans (hd.mono hb.size)
 replace VP:=Lh (VP.out.kept hd)
 replace VR:=Lh (VR.out.kept hd)
 replace HF:=Lh (HF.out.kept hd)
 replace HQ:=Lh (HQ.out.kept hd)
 clear hd
 generalize w5.heap.size=G at *
 go_loopw [8] (fun iv wr=>∃ k:Nat,k≤p.word.size∧iv=.int .i64 k∧Hid (RowB wr G (mk k))∧Hid (VarAt wr B 29 [.int .i64 n,.string fp,.string fc])∧Hid (VarAt wr (B+1) 33 [.int .i64 R,.int .i64 C,.bool fd,.string p.word])∧Hid (VarAt wr w.heap.size 33 [.int .i64 p.row,.int .i64 p.col,.bool p.down,.string p.word])∧Hid (VarAt wr (w.heap.size+1) 29 [.int .i64 0,.string ⟨#[]⟩,.string ⟨#[]⟩])∧Below w.heap.size w wr) (fun iv _=>p.word.size - (intOf iv).toNat)
 case atStart=>exact ⟨0,Nat.zero_le _,rfl,HR,HF,HQ,VP,VR,hb⟩
 case round =>
  clear HR HF HQ VP VR hb
  obtain ⟨k,hk,rfl,HR,HF,HQ,VP,VR,hb⟩:=hrel
  have q3:=HQ.out.cell (i:=3) rfl
  by_cases hkl:k < p.word.size
  ·obtain ⟨e3,hin⟩:=HIX.out k hkl
   have HT:Hid (mk (k+1)=(mk k).set (R * n+C+k) p.word[k]):=Lh (by rw [HSC.out,e3,getD_byt hkl])
   have HPL:=Lh (HLN.out k)
   clear e3
   go_upto_region 6 with fail
   have hcz:=HFC.out
   have hd:Below wr.heap.size wr wr.drew:=(Below.refl _ _).drew
   replace HR:=Lh (HR.out.kept hd)
   clear q3
   replace hb:=hb.trans (hd.mono hb.size)
   replace HF:=Lh (HF.out.kept hd)
   replace HQ:=Lh (HQ.out.kept hd)
   replace VP:=Lh (VP.out.kept hd)
   replace VR:=Lh (VR.out.kept hd)
   clear hd
   have q0:=HQ.out.cell (i:=0) rfl
   have q1:=HQ.out.cell (i:=1) rfl
   have q3:=HQ.out.cell (i:=3) rfl
   have f0:=HF.out.cell (i:=0) rfl
   obtain ⟨q,hq⟩:∃ q,q=R * n:=⟨_,rfl⟩
   have hqi:(R:Int) * (n:Int)=(q:Int):=by rw [hq];push_cast;rfl
   rw [← hq] at HT hin
   have wr1:IntKind.i64.wrap (q:Int)=q:=IntWalk.i64_in _ (by omega)
   have wr2:IntKind.i64.wrap ((q:Int)+(C:Int))=(q:Int)+C:=IntWalk.i64_in _ (by omega)
   have wr3:IntKind.i64.wrap ((q:Int)+(C:Int)+(k:Int))=(q:Int)+C+k:=IntWalk.i64_in _ (by omega)
   have wr4:((q:Int)+(C:Int)+(k:Int)).toNat=q+C+k:=by omega
   have wr5:(0:Int)≤(q:Int)+(C:Int)+(k:Int):=by omega
   have wr6:(q:Int)+(C:Int)+(k:Int) < (fc.size:Int):=by omega
   have hmx:q+C+k < (mk k).length:=by rw [HPL.out,HCL.out];omega
   have st:=HR.out.cell (i:=q+C+k) hmx
   have sf:=HR.out.free (i:=q+C+k) hmx
   clear hq hcz
   refine wp_region_still_tail 16 (by kernel_rfl) (by kernel_rfl) ?_
   simp only [List.take_succ_cons,List.take_zero,List.drop_succ_cons,List.drop_zero]
   change wpStill _ _ wr.drew (fun a'=>wpList _ _ _ _ a' wr.drew) _ _
   generalize wr.drew=wd at *
   repeat still_step
   refine wpStill_nil ?_
   obtain ⟨h9,k9⟩:=HR.out.set (q+C+k) p.word[k]
   have HR9:=Lh (h9.as HT.out.symm)
   have HF9:=Lh (HF.out.grown k9 (by simp;omega))
   have HQ9:=Lh (HQ.out.grown k9 (by simp;omega))
   have VP9:=Lh (VP.out.grown k9 (by simp;omega))
   have VR9:=Lh (VR.out.grown k9 (by simp;omega))
   have hb9:=hb.grown k9 hb.size (fun q h=>by cases h;omega)
   clear h9 k9 HR HF HQ VP VR hb q0 q1 q3 f0 wr1 wr2 wr3
   go_wp2
   go_roundw
   case rel=>exact ⟨k+1,by omega,by go_num,HR9,HF9,HQ9,VP9,VR9,hb9⟩
   case measure=>simp [intOf];omega
  ·obtain rfl:k=p.word.size:=by omega
   have hcv:=HR.out.str (n:=fc.size) (cap:=cp) (by rw [HLN.out,HCL.out])
   have f0:=HF.out.cell (i:=0) rfl
   have f1:=HF.out.cell (i:=1) rfl
   generalize mkB (mk p.word.size)=sm at *
   have HX:Hid (BAt (wr.alloc (.cells #[.int .i64 n,.string fp,.string sm] 29)) wr.heap.size 0 (⟨n,fp,sm⟩:Brd)):=Lh (BAt.new wr ⟨n,fp,sm⟩ 29)
   have hd:Below wr.heap.size wr (wr.alloc (.cells #[.int .i64 n,.string fp,.string sm] 29)):=(Below.refl _ _).alloc (Nat.le_refl _) _
   clear HR HF HQ
   replace hb:=hb.trans (hd.mono hb.size)
   replace VP:=Lh (VP.out.kept hd)
   replace VR:=Lh (VR.out.kept hd)
   clear hd
   go_upto_region 8 with fail
   clear hcv f0 f1 q3
   generalize wr.alloc (.cells #[.int .i64 n,.string fp,.string sm] 29)=w7 at *
   generalize wr.heap.size=X at *
   have p2:=VP.out.cell (i:=2) rfl
   cases hdn:p.down with
   | false =>
    have hre:=HAC.out hdn
    subst hre
    obtain ⟨x0,x1,x2⟩:=HX.out
    rw [hdn] at p2
    have t0:=VR.out.cell (i:=0) rfl
    have t1:=VR.out.cell (i:=1) rfl
    have t2:=VR.out.cell (i:=2) rfl
    have u0:=VR.out.free 0
    have u1:=VR.out.free 1
    have u2:=VR.out.free 2
    obtain ⟨o0,k0⟩:=VR.out.set 0 (.int .i64 n)
    obtain ⟨o1,k1⟩:=o0.set 1 (.string fp)
    obtain ⟨o2,k2⟩:=o1.set 2 (.string sm)
    have GG:=grownBy_trans (grownBy_trans k0 k1) k2
    have hb9:=hb.grown GG hb.size (fun q h=>by cases h;omega)
    have e0:=o2.cell (i:=0) (v:=.int .i64 n) rfl
    have e1:=o2.cell (i:=1) (v:=.string fp) rfl
    have e2:=o2.cell (i:=2) (v:=.string sm) rfl
    clear o0 o1 o2 k0 k1 k2 GG
    go_wp2
    refine bodyPost_ret (v:=.agg #[.int .i64 n,.string fp,.string sm]) (by simp [results,Tryz.results173,go_sem,e0,e1,e2]) rfl ?_
    exact ⟨rfl,hb9⟩
   | true =>
    have HTX:Hid (∀ W,BAt W X 0 (⟨n,fp,sm⟩:Brd)→Calls Tryz.prog 202 #[.pointer (some ⟨X,0,none⟩)] W fun e w'=>e=.returned (.agg #[.int .i64 res.size,.string res.premium,.string res.cells])∧Below W.heap.size W w'):=Lh (fun W h=>by
     have:=HTP.out _ X W HMG.out h
     rw [HDN.out hdn] at this
     exact this)
    rw [hdn] at p2
    obtain ⟨rn,rp,rc⟩:=res
    simp only at HTX
    go_wp2_with fail
    refine (HTX.out _ HX.out).mono ?_
    rintro e w8 ⟨rfl,hd⟩
    clear p2
    replace hb:=hb.trans (hd.mono hb.size)
    replace VR:=Lh (VR.out.kept hd)
    clear hd
    have t0:=VR.out.cell (i:=0) rfl
    have t1:=VR.out.cell (i:=1) rfl
    have t2:=VR.out.cell (i:=2) rfl
    have u0:=VR.out.free 0
    have u1:=VR.out.free 1
    have u2:=VR.out.free 2
    obtain ⟨o0,k0⟩:=VR.out.set 0 (.int .i64 rn)
    obtain ⟨o1,k1⟩:=o0.set 1 (.string rp)
    obtain ⟨o2,k2⟩:=o1.set 2 (.string rc)
    have GG:=grownBy_trans (grownBy_trans k0 k1) k2
    have hb9:=hb.grown GG hb.size (fun q h=>by cases h;omega)
    have e0:=o2.cell (i:=0) (v:=.int .i64 rn) rfl
    have e1:=o2.cell (i:=1) (v:=.string rp) rfl
    have e2:=o2.cell (i:=2) (v:=.string rc) rfl
    clear o0 o1 o2 k0 k1 k2 GG
    go_wp2
    refine bodyPost_ret (v:=.agg #[.int .i64 rn,.string rp,.string rc]) (by simp [results,Tryz.results173,go_sem,e0,e1,e2]) rfl ?_
    exact ⟨rfl,hb9⟩
end Go.Proofs.YtgphkffbbmmmmaaGreatDoor
