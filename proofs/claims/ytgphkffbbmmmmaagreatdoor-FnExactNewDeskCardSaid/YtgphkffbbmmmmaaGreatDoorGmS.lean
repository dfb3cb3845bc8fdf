/- Plain definitions and lemmas: when a game is valid. No condition. · Contracts: the reference's bags, repeated bytes, all tiles of a tile set, setups. No condition but that lengths fit an int. -/
import Derived.Test.YtgphkffbbmmmmaaGreatDoorGam
import Derived.Test.YtgphkffbbmmmmaaGreatDoorLgF
import Derived.Lib.QuietBelow
set_option maxRecDepth 100000
set_option maxHeartbeats 4000000
namespace Go.Proofs.YtgphkffbbmmmmaaGreatDoor
open Go.ChangeShapes Go.WideShapes Go.ChangeAt Go.RowKit Go.Sort

/-! ### Sorted piles of lists that are alike -/
theorem cnt_eq {a b:List UInt8} (h:a.Perm b):cntI a=cntI b:=by
 funext k
 unfold cntI
 rw [cnt_perm h k]
theorem srt_congr {a b:List UInt8} (h:a.Perm b):srtL a=srtL b:=by unfold srtL;rw [cnt_eq h]
theorem all_perm {a b:List UInt8} (h:a.Perm b) (f:UInt8→Bool):a.all f=b.all f:=by
 rw [Bool.eq_iff_iff,List.all_eq_true,List.all_eq_true]
 exact ⟨fun x c hc=>x c (h.mem_iff.2 hc),fun x c hc=>x c (h.mem_iff.1 hc)⟩
/-- sorting what another way of sorting has left -/
theorem srt_of {R l:List UInt8} (h:l.all tileB=true) (hs:SortedT R) (hp:R.Perm l):R=srtL l:=srt_eq h hs hp

/-! ### Bags -/
def bagOk (l:List UInt8):Bool:=l.all tileB && decide (l.length≤120)
def Stp.ok (s:Stp):Bool:=s.tiles.ok && (lexOk s.lexicon && (s.board.ok && (s.board.blank && (withinB s.seconds 0 36000 && withinB s.rule 0 3))))
structure Stp.Good (s:Stp):Prop where
 tiles:s.tiles.ok=true
 lexicon:lexOk s.lexicon=true
 board:s.board.ok=true
 blank:s.board.blank=true
 seconds:withinB s.seconds 0 36000=true
 rule:withinB s.rule 0 3=true
theorem Stp.good {s:Stp} (h:s.ok=true):s.Good:=by
 unfold Stp.ok at h
 simp only [Bool.and_eq_true] at h
 exact ⟨h.1,h.2.1,h.2.2.1,h.2.2.2.1,h.2.2.2.2.1,h.2.2.2.2.2⟩

/-! ### All tiles of a tile set -/
def allK (x:Tls) (n:Nat):List UInt8:=List.replicate x.blanks.toNat 63++(List.range n).flatMap fun i=>List.replicate (x.counts.getD i 0).toNat (x.letters.data.toList.getD i 0)
def allL (x:Tls):List UInt8:=allK x x.letters.size
theorem allK_zero (x:Tls):allK x 0=List.replicate x.blanks.toNat 63:=by simp [allK]
theorem allK_succ (x:Tls) (n:Nat):allK x (n+1)=allK x n++List.replicate (x.counts.getD n 0).toNat (x.letters.data.toList.getD n 0):=by
 unfold allK
 rw [List.range_succ,List.flatMap_append,List.append_assoc]
 simp
theorem allK_len (x:Tls) (hb:x.blanks≤4) (hc:∀ i,x.counts.getD i 0≤20):∀ n,(allK x n).length≤4+20 * n
 | 0=>by rw [allK_zero,List.length_replicate];omega
 | n+1=>by
  rw [allK_succ,List.length_append,List.length_replicate]
  have:=allK_len x hb hc n
  have:=hc n
  omega

/-! ### Games -/
/-- the letters on the board, as tiles -/
def Gam.lets (x:Gam):List UInt8:=(lettersL x.board.cells.data.toList).map tlC
def Gam.rack (x:Gam) (k:Nat):ByteArray:=x.racks.getD k ⟨#[]⟩
/-- the tiles of a game are all tiles -/
def Gam.fits (x:Gam):Bool:=decide (srtL (x.bag.data.toList++(x.rack 0).data.toList++(x.rack 1).data.toList++srtL x.lets)=allL x.setup.tiles)
def Gam.before (x:Gam):Brd:=⟨x.board.size,x.board.premium,x.last.before⟩
/-- the number of tiles that the last play placed -/
def Gam.placed (x:Gam):Nat:=(x.before.fresh x.last.play).length
def Gam.mover (x:Gam):ByteArray:=x.rack x.last.player.toNat
def Gam.playOk (x:Gam):Bool :=
 decide (x.last.player=1 - x.player) && (x.before.okPlay x.last.play && (decide ((x.before.made x.last.play).cells=x.board.cells) && (decide (x.placed≤7) && (bagOk x.last.drawn.data.toList && (decide (x.last.drawn.size≤x.placed) && (decide ((x.mover.size:Int) - x.last.drawn.size+x.placed≤7) && (hasT x.mover.data.toList x.last.drawn.data.toList && (decide (x.last.score=x.before.score x.last.play x.setup.tiles) && (decide (x.last.score≤20000) && (withinB x.last.zeros 0 5 && decide (x.zeros=0)))))))))))
/-- the last action has no fields but its kind and the player -/
def Lst.bare (l:Lst):Bool:=decide (l.play.row=0) && (decide (l.play.col=0) && (!l.play.down && (decide (l.play.word.size=0) && (decide (l.before.size=0) && (decide (l.drawn.size=0) && (decide (l.score=0) && decide (l.zeros=0)))))))
def Gam.lastOk (x:Gam):Bool :=
 if x.last.kind=0 then x.last.bare && decide (x.last.player=0)
 else if x.last.kind=2 then x.last.bare && withinB x.last.player 0 1
 else if x.last.kind=3 then x.last.bare && withinB x.last.player 0 1
 else if x.last.kind=1 then x.playOk else false
/-- a player's rack, score and clock -/
def Gam.sideOk (x:Gam) (k:Nat):Bool:=rackOk (x.rack k).data.toList && (withinB (x.scores.getD k 0) (-100000) 100000 && withinB (x.clocks.getD k 0) (-36000) 36000)
def Gam.headOk (x:Gam):Bool:=x.setup.ok && (x.board.ok && (decide (x.board.size=x.setup.board.size) && (decide (x.board.premium=x.setup.board.premium) && bagOk x.bag.data.toList)))
def Gam.listOk (x:Gam):Bool:=decide (x.racks.length=2) && (decide (x.scores.length=2) && (decide (x.clocks.length=2) && withinB x.player 0 1))
def Gam.ok (x:Gam):Bool:=x.headOk && (x.listOk && (x.sideOk 0 && (x.sideOk 1 && (withinB x.zeros 0 6 && ((x.over || decide (x.zeros < 6)) && (x.fits && x.lastOk))))))
end Go.Proofs.YtgphkffbbmmmmaaGreatDoor

namespace Go.Proofs.YtgphkffbbmmmmaaGreatDoor
open Go.ChangeShapes Go.WideShapes Go.ChangeAt Go.RowKit Go.Sort

theorem bag_no {l:List UInt8} (h:l.all tileB=false):bagOk l=false:=by unfold bagOk;rw [h];rfl
theorem bag_yes {l:List UInt8} (h:l.all tileB=true):bagOk l=decide (l.length≤120):=by unfold bagOk;rw [h];rfl
theorem l17Ok_any (s:ByteArray) (w:World) (hs:s.size≤9223372036854775807):Calls Tryz.prog 62 #[.string s] w fun e w'=>e=.returned (.bool (bagOk s.data.toList))∧w=w':=by
 have HNO:=Lh (fun k (h:k < s.size) (hp:tileI (s[k].toNat:Int)=false)=>bag_no (all_get (s:=s) (p:=tileB) (k:=k) h hp))
 have HEND:Hid (∀ k (h:s.size≤k) (hp:upTo tileI s k),bagOk s.data.toList=decide (s.size≤120)):=Lh (fun k h hp=>by
  rw [bag_yes (all_end (s:=s) (p:=tileB) (k:=k) h hp)]
  simp)
 generalize bagOk s.data.toList=res at *
 go_enter Tryz.func62,Tryz.ntmps62
 go_wp2
 go_loop [3] (fun i=>∃ k:Nat,k≤s.size∧i=.int .i64 k∧Hid (upTo tileI s k)) (fun i=>s.size - (intOf i).toNat)
 case atStart=>exact ⟨0,Nat.zero_le _,rfl,Lh (upTo.zero _ _)⟩
 case round =>
  obtain ⟨k,hk,rfl,HA⟩:=hrel
  by_cases hlt:k < s.size
  ·cases h1:tileI (s[k].toNat:Int) with
   | true =>
    have HN:Hid (upTo tileI s (k+1)):=Lh (all_step hlt HA.out h1)
    go_wp2_with fail
    refine (l03Tile_any _ _).mono ?_
    rintro e w' ⟨rfl,rfl⟩
    rw [h1]
    clear h1
    go_wp2
    go_round
    case rel=>exact ⟨k+1,by omega,by go_num,HN⟩
    case measure=>simp [intOf];omega
   | false =>
    have HN:Hid (res=false):=Lh (HNO.out k hlt h1)
    go_wp2_with fail
    refine (l03Tile_any _ _).mono ?_
    rintro e w' ⟨rfl,rfl⟩
    rw [h1]
    clear h1
    go_wp2
    go_ret
    exact ⟨ret_bool HN.out.symm,rfl⟩
  ·have HN:=Lh (HEND.out k (by omega) HA.out)
   go_wp2
   go_ret
   exact ⟨ret_bool (by rw [HN.out];exact decide_eq_decide.2 (by omega)),rfl⟩
theorem l02Repeat_any (c:UInt8) (n:Nat) (w:World) (hn:n≤100000) :
  Calls Tryz.prog 57 #[.int .u8 (c.toNat:Int),.int .i64 (n:Int)] w (StrPost w (List.replicate n c)):=by
 obtain ⟨i0,hi0,hi1,hi2,hi3⟩:=info_parts infoByte
 have hd0:Below w.heap.size w (w.alloc (.cells #[] 5)):=(Below.refl _ _).alloc (Nat.le_refl _) _
 have HO:Hid ((w.alloc (.cells #[] 5)).ownsRow w.heap.size 5 1 (.slice (some ⟨w.heap.size,0,none⟩) 0 0) 0 ((List.replicate 0 c).flatMap U8.enc)):=Lh (
  World.ownsRow_made (base:=w.heap.size) (e:=5) (size:=1) w #[] 0 (Nat.le_refl _) (by unfold maxLen;omega) rfl)
 have hb:=hd0
 have HSN:Hid (∀ k,(List.replicate (k+1) c)=List.replicate k c++[c]):=Lh (fun k=>rep_snoc k c)
 have HLN:Hid (∀ k,(List.replicate k c).length=k):=Lh (fun k=>List.length_replicate)
 clear hd0
 obtain ⟨rp,hrp⟩:∃ rp:Nat→List UInt8,∀ k,rp k=List.replicate k c:=⟨_,fun _=>rfl⟩
 have HRP:=Lh hrp
 simp only [← hrp] at HO HSN HLN ⊢
 clear hrp
 go_enter Tryz.func57,Tryz.ntmps57
 go_wp2_with fail
 go_loopw [1,5] (fun nv ov wr=>∃ (k g1 cap:Nat),k≤n∧nv=.int .i64 ((n - k:Nat):Int)∧ov=.slice (some ⟨g1,0,none⟩) k cap∧Hid (wr.ownsRow w.heap.size 5 1 (.slice (some ⟨g1,0,none⟩) k cap) k ((rp k).flatMap U8.enc))∧Below w.heap.size w wr) (fun nv _ _=>(intOf nv).toNat)
 case atStart=>exact ⟨0,_,0,Nat.zero_le _,rfl,rfl,HO,hb⟩
 case round =>
  clear HO hb
  obtain ⟨k,g1,cap,hk,rfl,rfl,HO,hb⟩:=hrel
  by_cases h0:0 < n - k
  ·have hnk:((n - (k+1):Nat):Int)=((n - k:Nat):Int) - 1:=by omega
   have HNK:=Lh hnk
   have hp0:0 < ((n - k:Nat):Int):=by omega
   have hk1:k+1≤n:=by omega
   have hdn:n - k≤100000:=by omega
   clear hnk
   generalize n - k=d at *
   have wr1:IntKind.i64.wrap ((d:Int) - 1)=(d:Int) - 1:=IntWalk.i64_in _ (by omega)
   have hx:Below wr.heap.size wr (wr.alloc (.cells #[.int .u8 ((c.toNat:Int))] 5)):=(Below.refl _ _).alloc (Nat.le_refl _) _
   have KN:=Lh (new_byte wr c 5)
   have HOX:=Lh (own_below HO.out hx)
   have hz2:=hb.size
   have hbx:=hb.trans (hx.mono hb.size)
   have HS:=Lh (HSN.out k)
   clear hx HO hb
   go_wp2_with (at_builtin;go_must (refine wpList_append_lies _ rfl (.tmp 11) (.tmp 13) 49 rfl w.heap.size 5 i0 _ 1 1 Tryz.underlying49 hi0 hi1 hi2 hi3 rfl (by decide) _ k ((rp k).flatMap U8.enc) (by rfl) HOX.out ⟨wr.heap.size,0,none⟩ 1 1 (U8.enc c) (by rfl) rfl KN.out (u8_one1 c) (by decide) ?c1 ?c2 ?c3 _ rfl ?_))
   case c1=>unfold maxLen;omega
   case c2=>omega
   case c3=>(first | omega | (simp only [World.size_alloc];omega))
   intro g7 cap7 w7 hown hgr hwh hlt7
   have hb7:=hbx.grown hgr hbx.size (fun q e=>by have:=(HOX.out.lt q e).1;omega)
   have HO7:Hid (w7.ownsRow w.heap.size 5 1 (.slice (some ⟨g7,0,none⟩) (k+1) cap7) (k+1) ((rp (k+1)).flatMap U8.enc)):=Lh (by rw [HS.out,snoc_flat U8.enc];exact hown)
   clear hown hgr hwh KN hlt7 HOX hbx hz2 HS
   go_wp2
   go_roundw
   case rel=>exact ⟨k+1,g7,cap7,hk1,by rw [HNK.out],rfl,HO7,hb7⟩
   case measure=>simp [intOf];omega
  ·obtain rfl:k=n:=by omega
   rw [Nat.sub_self]
   have hcv:=own_bytes HO.out (HLN.out _).symm
   clear HO HSN
   go_wp2
   go_ret
   exact ⟨rfl,hb⟩
/-! ### All tiles -/
theorem Tls.counts_rng {x:Tls} (h:x.ok=true):(0≤x.blanks∧x.blanks≤4)∧∀ i,0≤x.counts.getD i 0∧x.counts.getD i 0≤20:=by
 unfold Tls.ok at h
 simp only [Bool.and_eq_true,decide_eq_true_eq,within_iff] at h
 obtain ⟨h1,h2,h3,h4,h5,h6⟩:=h
 refine ⟨h4,fun i=>?_⟩
 by_cases hi:i < x.letters.size
 ·have:=all_range_get h5 hi
  unfold Tls.okAt at this
  simp only [Bool.and_eq_true,within_iff] at this
  omega
 ·rw [show x.counts.getD i 0=0 from by rw [List.getD_eq_getElem?_getD,List.getElem?_eq_none (by omega)];rfl]
  omega
theorem l02All_any (x:Tls) (q:TlA) (g:Nat) (w:World) (ht:TAt w g x q) (hk:x.ok=true) :
  Calls Tryz.prog 60 #[.pointer (some ⟨g,0,none⟩)] w (StrPost w (allL x)):=by
 have hx:=Tls.good hk
 obtain ⟨hbl,hcr⟩:=Tls.counts_rng hk
 have HT:=Lh ht
 have hlt:=block_lt ht.1.1
 have HCR:=Lh hcr
 have H3:=Lh hx.counts
 have h26:=hx.hi
 have HST:=Lh (fun i=>allK_succ x i)
 have HLN:Hid (∀ i,(allK x i).length≤4+20 * i):=Lh (fun i=>allK_len x hbl.2 (fun j=>(hcr j).2) i)
 have HR0:Hid (∀ W,Calls Tryz.prog 57 #[.int .u8 63,.int .i64 x.blanks] W (StrPost W (allK x 0))):=Lh (fun W=>by
  have:=l02Repeat_any 63 x.blanks.toNat W (by omega)
  rw [show ((x.blanks.toNat:Nat):Int)=x.blanks from by omega] at this
  rw [allK_zero]
  exact this)
 have HRI:Hid (∀ i (h:i < x.letters.size) W,Calls Tryz.prog 57 #[.int .u8 (x.letters[i].toNat:Int),.int .i64 (x.counts.getD i 0)] W (StrPost W (List.replicate (x.counts.getD i 0).toNat (x.letters.data.toList.getD i 0)))):=Lh (fun i h W=>by
  have h1:=hcr i
  have:=l02Repeat_any x.letters[i] (x.counts.getD i 0).toNat W (by omega)
  rw [show (((x.counts.getD i 0).toNat:Nat):Int)=x.counts.getD i 0 from by omega] at this
  rw [u8_byte h]
  exact this)
 obtain ⟨c0,c1,c2,c3⟩:=ht.1
 clear ht hx hk hcr
 unfold allL
 go_enter Tryz.func60,Tryz.ntmps60
 go_wp2_with fail
 refine (HR0.out _).mono ?_
 rintro e w2 ⟨rfl,hb⟩
 clear HR0 c0 c1 c2 c3
 go_wp2_with fail
 go_loopw [3,4] (fun sv iv wr=>∃ k:Nat,k≤x.letters.size∧iv=.int .i64 k∧sv=.string (mkB (allK x k))∧Below w.heap.size w wr) (fun _ iv _=>x.letters.size - (intOf iv).toNat)
 case atStart=>exact ⟨0,Nat.zero_le _,rfl,rfl,hb⟩
 case round =>
  clear hb
  obtain ⟨k,hk,rfl,rfl,hb⟩:=hrel
  have c0:wr.cell? ⟨g,0,none⟩=some (.string x.letters):=cell_kept HT.out.1.1 hb
  by_cases hkl:k < x.letters.size
  ·have hkc:k < x.counts.length:=by rw [H3.out];exact hkl
   obtain ⟨cb,co,hca,vc⟩:=num_cell (HT.out.2.2.kept hb) hkc
   have HCA:=Lh hca
   have c2:wr.cell? ⟨g,2,none⟩=some (.slice (some ⟨cb,co,none⟩) x.counts.length q.counts.c):=cell_kept (by rw [← hca];exact HT.out.1.2.2.1) hb
   have HRK:=Lh (HRI.out k hkl)
   have HS:=Lh (HST.out k)
   have hl1:=HLN.out k
   have hl2:=HLN.out (k+1)
   rw [HS.out,List.length_append] at hl2
   have hA:Hid (mkB (allK x k++List.replicate (x.counts.getD k 0).toNat (x.letters.data.toList.getD k 0))=mkB (allK x (k+1))):=Lh (by rw [HS.out])
   clear hca HS HST HLN
   generalize x.counts.getD k 0=cc at *
   generalize List.replicate cc.toNat (x.letters.data.toList.getD k 0)=rp at *
   generalize allK x k=ak at *
   have HLA:Hid (mkB ak++mkB rp=mkB (allK x (k+1))):=Lh (by rw [cat_mk,mkB_data,mkB_data];exact hA.out)
   have hsz:(mkB ak).size+(mkB rp).size≤9223372036854775807:=by rw [mkB_size,mkB_size];omega
   generalize mkB ak=sa at *
   have hk0:(k:Int) < (x.letters.size:Int):=by omega
   go_upto_region 5 with fail
   have a0:=cell_regrown c0
   have a2:=cell_regrown c2
   have a4:=cell_regrown vc
   refine wp_region_quiet_below (by kernel_rfl) (by kernel_rfl) ?_
   repeat (go_big_quiet_step ((first | (go_at_call 57;exact Calls.regrown_of (HRK.out _)))))
   refine wpQuiet_nil ?_
   intro wx hw'
   obtain ⟨⟨dq,oq⟩,hw''⟩:=hw'
   have hdx:=below_regrown wr dq oq
   rw [← hw''] at hdx
   clear hw'' a0 a2 a4 c0 c2 vc
   replace hb:=hb.trans (hdx.mono hb.size)
   clear hdx
   rw [HLA.out]
   go_wp2
   go_roundw
   case rel=>exact ⟨k+1,by omega,by go_num,rfl,hb⟩
   case measure=>simp [intOf];omega
  ·obtain rfl:k=x.letters.size:=by omega
   go_wp2
   go_ret
   exact ⟨rfl,hb⟩
/-! ### Setups -/
/-- a setup lies at the head of a block -/
structure SAt (w:World) (g:Nat) (s:Stp) (q:StA):Prop where
 tiles:TAt w g s.tiles q.tiles
 lexc:w.cell? ⟨g,4,none⟩=some (.slice q.lexicon.a s.lexicon.length q.lexicon.c)
 lex:SliceAt w 1 Tx.enc q.lexicon.a s.lexicon
 board:BAt w g 5 s.board
 seconds:w.cell? ⟨g,8,none⟩=some (.int .i64 s.seconds)
 rule:w.cell? ⟨g,9,none⟩=some (.int .i64 s.rule)
theorem SAt.kept {w w':World} {g:Nat} {s:Stp} {q:StA} (h:SAt w g s q) (hb:Below w.heap.size w w'):SAt w' g s q :=
 ⟨h.tiles.kept hb,cell_kept h.lexc hb,h.lex.kept hb,h.board.kept hb,cell_kept h.seconds hb,cell_kept h.rule hb⟩
theorem setup_no1 {s:Stp} (h:s.tiles.ok=false):s.ok=false:=by unfold Stp.ok;rw [h];rfl
theorem setup_no2 {s:Stp} (h:lexOk s.lexicon=false):s.ok=false:=by unfold Stp.ok;rw [h];simp
theorem setup_no3 {s:Stp} (h:s.board.ok=false):s.ok=false:=by unfold Stp.ok;rw [h];simp
theorem setup_no4 {s:Stp} (h:s.board.blank=false):s.ok=false:=by unfold Stp.ok;rw [h];simp
theorem setup_no5 {s:Stp} (h:withinB s.seconds 0 36000=false):s.ok=false:=by unfold Stp.ok;rw [h];simp
theorem setup_last {s:Stp} (h1:s.tiles.ok=true) (h2:lexOk s.lexicon=true) (h3:s.board.ok=true) (h4:s.board.blank=true) (h5:withinB s.seconds 0 36000=true):s.ok=withinB s.rule 0 3:=by unfold Stp.ok;rw [h1,h2,h3,h4,h5];rfl
theorem board_225 {b:Brd} (h:b.ok=true):b.cells.size≤225:=by
 obtain ⟨n,hg⟩:=Brd.good h
 have:=hg.cells
 have:=sq_mono hg.hi
 omega
theorem l18Setup_any (s:Stp) (q:StA) (g:Nat) (w:World) (hs:SAt w g s q) (hf:s.fit) :
  Calls Tryz.prog 61 #[.pointer (some ⟨g,0,none⟩)] w fun e w'=>e=.returned (.bool s.ok)∧Below w.heap.size w w':=by
 obtain ⟨hf1,⟨hf2,hf3⟩,hf4⟩:=hf
 have HS:=Lh hs
 have HF3:=Lh hf3
 clear hs hf3
 have HTK:Hid (∀ W,SAt W g s q→Calls Tryz.prog 58 #[.pointer (some ⟨g,0,none⟩)] W fun e w'=>e=.returned (.bool s.tiles.ok)∧Drew W w'):=Lh (fun W h=>l02Ok_any s.tiles q.tiles g W h.tiles hf1)
 have HLK:Hid (∀ W,SAt W g s q→Calls Tryz.prog 101 #[.pointer (some ⟨g,4,none⟩)] W fun e w'=>e=.returned (.bool (lexOk s.lexicon))∧Drew W w'):=Lh (fun W h=>l05Ok_any s.lexicon g 4 q.lexicon.a q.lexicon.c W h.lexc h.lex hf2 HF3.out)
 have HBK:Hid (∀ W,SAt W g s q→Calls Tryz.prog 90 #[.pointer (some ⟨g,5,none⟩)] W fun e w'=>e=.returned (.bool s.board.ok)∧Drew W w'):=Lh (fun W h=>l11Ok_any s.board g 5 W h.board hf4)
 have HBL:Hid (s.board.ok=true→∀ W,SAt W g s q→Calls Tryz.prog 93 #[.pointer (some ⟨g,5,none⟩)] W (StrPost W (lettersL s.board.cells.data.toList))):=Lh (fun hk W h=>l11Letters_any s.board g 5 W h.board (board_225 hk))
 have HBD:Hid (s.board.blank=(mkB (lettersL s.board.cells.data.toList)).toList.isEmpty):=Lh (by rw [empty_cmp,mkB_size];rfl)
 cases h1:s.tiles.ok with
 | false =>
  have HN:=Lh (setup_no1 h1)
  generalize s.ok=ans at *
  go_enter Tryz.func61,Tryz.ntmps61
  go_wp2_with fail
  refine (HTK.out _ HS.out).mono ?_
  rintro e w2 ⟨rfl,hdq⟩
  rw [h1]
  have hb:=hdq.bels
  clear hdq
  replace HS:=Lh (HS.out.kept hb)
  go_wp2
  go_ret
  exact ⟨ret_bool HN.out.symm,hb⟩
 | true =>
  cases h2:lexOk s.lexicon with
  | false =>
   have HN:=Lh (setup_no2 h2)
   generalize s.ok=ans at *
   go_enter Tryz.func61,Tryz.ntmps61
   go_wp2_with fail
   refine (HTK.out _ HS.out).mono ?_
   rintro e w2 ⟨rfl,hdq⟩
   rw [h1]
   have hb:=hdq.bels
   clear hdq
   replace HS:=Lh (HS.out.kept hb)
   go_wp2_with fail
   refine (HLK.out _ HS.out).mono ?_
   rintro e w3 ⟨rfl,hdq⟩
   rw [h2]
   have hd:=hdq.bels
   clear hdq
   replace hb:=hb.trans (hd.mono hb.size)
   replace HS:=Lh (HS.out.kept hd)
   clear hd
   go_wp2
   go_ret
   exact ⟨ret_bool HN.out.symm,hb⟩
  | true =>
   cases h3:s.board.ok with
   | false =>
    have HN:=Lh (setup_no3 h3)
    generalize s.ok=ans at *
    go_enter Tryz.func61,Tryz.ntmps61
    go_wp2_with fail
    refine (HTK.out _ HS.out).mono ?_
    rintro e w2 ⟨rfl,hdq⟩
    rw [h1]
    have hb:=hdq.bels
    clear hdq
    replace HS:=Lh (HS.out.kept hb)
    go_wp2_with fail
    refine (HLK.out _ HS.out).mono ?_
    rintro e w3 ⟨rfl,hdq⟩
    rw [h2]
    have hd:=hdq.bels
    clear hdq
    replace hb:=hb.trans (hd.mono hb.size)
    replace HS:=Lh (HS.out.kept hd)
    clear hd
    go_wp2_with fail
    refine (HBK.out _ HS.out).mono ?_
    rintro e w4 ⟨rfl,hdq⟩
    rw [h3]
    have hd:=hdq.bels
    clear hdq
    replace hb:=hb.trans (hd.mono hb.size)
    replace HS:=Lh (HS.out.kept hd)
    clear hd
    go_wp2
    go_ret
    exact ⟨ret_bool HN.out.symm,hb⟩
   | true =>
    cases h4:s.board.blank with
    | false =>
     have HN:=Lh (setup_no4 h4)
     have he:(mkB (lettersL s.board.cells.data.toList)).toList.isEmpty=false:=by rw [← HBD.out,h4]
     generalize s.ok=ans at *
     generalize lettersL s.board.cells.data.toList=ll at *
     go_enter Tryz.func61,Tryz.ntmps61
     go_wp2_with fail
     refine (HTK.out _ HS.out).mono ?_
     rintro e w2 ⟨rfl,hdq⟩
     rw [h1]
     have hb:=hdq.bels
     clear hdq
     replace HS:=Lh (HS.out.kept hb)
     go_wp2_with fail
     refine (HLK.out _ HS.out).mono ?_
     rintro e w3 ⟨rfl,hdq⟩
     rw [h2]
     have hd:=hdq.bels
     clear hdq
     replace hb:=hb.trans (hd.mono hb.size)
     replace HS:=Lh (HS.out.kept hd)
     clear hd
     go_wp2_with fail
     refine (HBK.out _ HS.out).mono ?_
     rintro e w4 ⟨rfl,hdq⟩
     rw [h3]
     have hd:=hdq.bels
     clear hdq
     replace hb:=hb.trans (hd.mono hb.size)
     replace HS:=Lh (HS.out.kept hd)
     clear hd
     go_wp2_with fail
     refine (HBL.out h3 _ HS.out).mono ?_
     rintro e w5 ⟨rfl,hd⟩
     replace hb:=hb.trans (hd.mono hb.size)
     replace HS:=Lh (HS.out.kept hd)
     clear hd
     go_wp2
     go_ret
     exact ⟨ret_bool HN.out.symm,hb⟩
    | true =>
     have he:(mkB (lettersL s.board.cells.data.toList)).toList.isEmpty=true:=by rw [← HBD.out,h4]
     cases h5:withinB s.seconds 0 36000 with
     | false =>
      have HN:=Lh (setup_no5 h5)
      generalize s.ok=ans at *
      generalize lettersL s.board.cells.data.toList=ll at *
      go_enter Tryz.func61,Tryz.ntmps61
      go_wp2_with fail
      refine (HTK.out _ HS.out).mono ?_
      rintro e w2 ⟨rfl,hdq⟩
      rw [h1]
      have hb:=hdq.bels
      clear hdq
      replace HS:=Lh (HS.out.kept hb)
      go_wp2_with fail
      refine (HLK.out _ HS.out).mono ?_
      rintro e w3 ⟨rfl,hdq⟩
      rw [h2]
      have hd:=hdq.bels
      clear hdq
      replace hb:=hb.trans (hd.mono hb.size)
      replace HS:=Lh (HS.out.kept hd)
      clear hd
      go_wp2_with fail
      refine (HBK.out _ HS.out).mono ?_
      rintro e w4 ⟨rfl,hdq⟩
      rw [h3]
      have hd:=hdq.bels
      clear hdq
      replace hb:=hb.trans (hd.mono hb.size)
      replace HS:=Lh (HS.out.kept hd)
      clear hd
      go_wp2_with fail
      refine (HBL.out h3 _ HS.out).mono ?_
      rintro e w5 ⟨rfl,hd⟩
      replace hb:=hb.trans (hd.mono hb.size)
      replace HS:=Lh (HS.out.kept hd)
      clear hd
      have c8:=HS.out.seconds
      go_wp2_with fail
      refine (l00In_any _ _ _ _).mono ?_
      rintro e w' ⟨rfl,rfl⟩
      rw [h5]
      go_wp2
      go_ret
      exact ⟨ret_bool HN.out.symm,hb⟩
     | true =>
      have HN:=Lh (setup_last h1 h2 h3 h4 h5)
      generalize s.ok=ans at *
      generalize lettersL s.board.cells.data.toList=ll at *
      go_enter Tryz.func61,Tryz.ntmps61
      go_wp2_with fail
      refine (HTK.out _ HS.out).mono ?_
      rintro e w2 ⟨rfl,hdq⟩
      rw [h1]
      have hb:=hdq.bels
      clear hdq
      replace HS:=Lh (HS.out.kept hb)
      go_wp2_with fail
      refine (HLK.out _ HS.out).mono ?_
      rintro e w3 ⟨rfl,hdq⟩
      rw [h2]
      have hd:=hdq.bels
      clear hdq
      replace hb:=hb.trans (hd.mono hb.size)
      replace HS:=Lh (HS.out.kept hd)
      clear hd
      go_wp2_with fail
      refine (HBK.out _ HS.out).mono ?_
      rintro e w4 ⟨rfl,hdq⟩
      rw [h3]
      have hd:=hdq.bels
      clear hdq
      replace hb:=hb.trans (hd.mono hb.size)
      replace HS:=Lh (HS.out.kept hd)
      clear hd
      go_wp2_with fail
      refine (HBL.out h3 _ HS.out).mono ?_
      rintro e w5 ⟨rfl,hd⟩
      replace hb:=hb.trans (hd.mono hb.size)
      replace HS:=Lh (HS.out.kept hd)
      clear hd
      have c8:=HS.out.seconds
      go_wp2_with fail
      refine (l00In_any _ _ _ _).mono ?_
      rintro e w' ⟨rfl,rfl⟩
      rw [h5]
      have c9:=HS.out.rule
      go_wp2_with fail
      refine (l00In_any _ _ _ _).mono ?_
      rintro e w' ⟨rfl,rfl⟩
      go_wp2
      go_ret
      exact ⟨ret_bool HN.out.symm,hb⟩
end Go.Proofs.YtgphkffbbmmmmaaGreatDoor
