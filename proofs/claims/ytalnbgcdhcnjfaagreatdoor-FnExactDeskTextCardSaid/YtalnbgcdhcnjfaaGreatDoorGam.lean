/- Contracts: the statements' own functions of Setup (sz, to, eq). No condition but that a length fits an int. · Contracts: the statements' own functions of Last (sz, to, eq). No condition but that a length fits an int. · Contracts: the statements' own functions of Game (sz, eq). No condition but that a length fits an int. · Contracts: the statements' own functions of Game (to). No condition but that a length fits an int. -/
import Derived.Test.YtalnbgcdhcnjfaaGreatDoorTiC
import Derived.Test.YtalnbgcdhcnjfaaGreatDoorTx
import Derived.Test.YtalnbgcdhcnjfaaGreatDoorVar
import Derived.Test.YtalnbgcdhcnjfaaGreatDoorBase
set_option maxRecDepth 100000
set_option maxHeartbeats 8000000
namespace Go.Proofs.YtalnbgcdhcnjfaaGreatDoor
open Go.ChangeShapes Go.WideShapes Go.ChangeAt Go.RowKit Go.Sort

structure Stp where
 tiles:Tls
 lexicon:List ByteArray
 board:Brd
 seconds:Int
 rule:Int
/-- where its rows lie -/
structure StA where
 tiles:TlA
 lexicon:Rwa
def Stp.At (x:Stp) (p:StA) (w:World):Prop:=x.tiles.At p.tiles w∧SliceAt w 1 Tx.enc p.lexicon.a x.lexicon
theorem Stp.At.kept {x:Stp} {p:StA} {w w':World} (h:x.At p w) (hb:Below w.heap.size w w'):x.At p w':=⟨Tls.At.kept h.1 hb,h.2.kept hb⟩
/-- its rows are of the call's own -/
def Stp.Own (x:Stp) (p:StA) (base:Nat) (w:World):Prop:=x.tiles.Own p.tiles base w∧w.ownsRow base 9 1 (.slice p.lexicon.a x.lexicon.length p.lexicon.c) x.lexicon.length (x.lexicon.flatMap Tx.enc)
theorem Stp.Own.at {x:Stp} {p:StA} {base:Nat} {w:World} (h:x.Own p base w):x.At p w:=⟨Tls.Own.at h.1,own_slice Tx.enc_len h.2 rfl⟩
theorem Stp.Own.kept {x:Stp} {p:StA} {base:Nat} {w w':World} (h:x.Own p base w) (hb:Below w.heap.size w w'):x.Own p base w':=⟨Tls.Own.kept h.1 hb,own_below h.2 hb⟩
theorem Stp.Own.mono {x:Stp} {p:StA} {base base':Nat} {w:World} (h:x.Own p base w) (hb:base'≤base):x.Own p base' w:=⟨Tls.Own.mono h.1 hb,own_mono h.2 hb⟩
theorem Stp.Own.store {x:Stp} {p:StA} {base g:Nat} {w w':World} (h:x.Own p base w) (hg:w.grownBy w' (some g)) (hlt:g < base):x.Own p base w':=⟨Tls.Own.store h.1 hg hlt,row_store h.2 hg hlt⟩
def Stp.fit (x:Stp):Prop:=x.tiles.fit∧(x.lexicon.length≤9223372036854775807∧∀ m∈x.lexicon,m.size≤9223372036854775807)∧x.board.fit
def Stp.sz (x:Stp):Nat:=x.tiles.sz+(x.lexicon.length+szAll ByteArray.size x.lexicon)+x.board.sz
def Stp.small (x:Stp):Prop:=x.tiles.small∧x.lexicon.length≤1048576
theorem szSetup_any (x:Stp) (p:StA) (left:Int) (w:World) (ha:x.At p w) (h0:0≤left) (h1:left≤1048576) (hf:x.fit) :
  Calls Tryz.prog 19 #[.agg #[.string x.tiles.letters,.slice p.tiles.values.a x.tiles.values.length p.tiles.values.c,.slice p.tiles.counts.a x.tiles.counts.length p.tiles.counts.c,.int .i64 x.tiles.blanks,.slice p.lexicon.a x.lexicon.length p.lexicon.c,.int .i64 x.board.size,.string x.board.premium,.string x.board.cells,.int .i64 x.seconds,.int .i64 x.rule],.int .i64 left] w (SzPost w left x.sz):=by
 have HF:=Lh hf;clear hf
 have hb:Below w.heap.size w (w.alloc (.cells #[.string x.tiles.letters,.slice p.tiles.values.a x.tiles.values.length p.tiles.values.c,.slice p.tiles.counts.a x.tiles.counts.length p.tiles.counts.c,.int .i64 x.tiles.blanks,.slice p.lexicon.a x.lexicon.length p.lexicon.c,.int .i64 x.board.size,.string x.board.premium,.string x.board.cells,.int .i64 x.seconds,.int .i64 x.rule] 31)):=(Below.refl _ _).alloc (Nat.le_refl _) _
 have V:=Lh (VarAt.new w 31 [.string x.tiles.letters,.slice p.tiles.values.a x.tiles.values.length p.tiles.values.c,.slice p.tiles.counts.a x.tiles.counts.length p.tiles.counts.c,.int .i64 x.tiles.blanks,.slice p.lexicon.a x.lexicon.length p.lexicon.c,.int .i64 x.board.size,.string x.board.premium,.string x.board.cells,.int .i64 x.seconds,.int .i64 x.rule])
 have HA:=Lh (ha.kept hb);clear ha
 have HZ:Hid (x.sz=x.tiles.sz+(x.lexicon.length+szAll ByteArray.size x.lexicon)+x.board.sz):=Lh rfl
 go_enter Tryz.func19,Tryz.ntmps19
 go_upto_region 1 with fail
 generalize w.alloc (.cells #[.string x.tiles.letters,.slice p.tiles.values.a x.tiles.values.length p.tiles.values.c,.slice p.tiles.counts.a x.tiles.counts.length p.tiles.counts.c,.int .i64 x.tiles.blanks,.slice p.lexicon.a x.lexicon.length p.lexicon.c,.int .i64 x.board.size,.string x.board.premium,.string x.board.cells,.int .i64 x.seconds,.int .i64 x.rule] 31)=w1 at *
 have c0:=V.out.cell (i:=0) rfl
 have c1:=V.out.cell (i:=1) rfl
 have c2:=V.out.cell (i:=2) rfl
 have c3:=V.out.cell (i:=3) rfl
 have c4:=V.out.cell (i:=4) rfl
 have c5:=V.out.cell (i:=5) rfl
 have c6:=V.out.cell (i:=6) rfl
 have c7:=V.out.cell (i:=7) rfl
 go_wp2_with fail
 refine (szTileSet_any x.tiles p.tiles left _ (HA.out.1) (by omega) (by omega) (HF.out.1)).mono ?_
 rintro e w2 ⟨l1,rfl,z1,hd⟩
 replace hb:=hb.trans (hd.mono hb.size)
 replace c0:=cell_kept c0 hd
 replace c1:=cell_kept c1 hd
 replace c2:=cell_kept c2 hd
 replace c3:=cell_kept c3 hd
 replace c4:=cell_kept c4 hd
 replace c5:=cell_kept c5 hd
 replace c6:=cell_kept c6 hd
 replace c7:=cell_kept c7 hd
 replace V:=Lh (V.out.kept hd)
 replace HA:=Lh (HA.out.kept hd)
 clear hd
 rcases z1 with rfl | ⟨y1,z1⟩
 ·go_wp2
  go_ret
  exact ⟨_,rfl,.inl rfl,hb⟩
 have n1:¬ l1 < 0:=by omega
 go_wp2_with fail
 refine (szLexicon_any x.lexicon p.lexicon.a p.lexicon.c l1 _ (HA.out.2) HF.out.2.1.1 HF.out.2.1.2 (by omega) (by omega)).mono ?_
 rintro e w3 ⟨l2,rfl,z2,hd⟩
 replace hb:=hb.trans (hd.mono hb.size)
 replace c0:=cell_kept c0 hd
 replace c1:=cell_kept c1 hd
 replace c2:=cell_kept c2 hd
 replace c3:=cell_kept c3 hd
 replace c4:=cell_kept c4 hd
 replace c5:=cell_kept c5 hd
 replace c6:=cell_kept c6 hd
 replace c7:=cell_kept c7 hd
 replace V:=Lh (V.out.kept hd)
 replace HA:=Lh (HA.out.kept hd)
 clear hd
 rcases z2 with rfl | ⟨y2,z2⟩
 ·go_wp2
  go_ret
  exact ⟨_,rfl,.inl rfl,hb⟩
 have n2:¬ l2 < 0:=by omega
 go_wp2_with fail
 refine (szBoard_any x.board l2 _ (by omega) (by omega) (HF.out.2.2)).mono ?_
 rintro e w4 ⟨l3,rfl,z3,hd⟩
 replace hb:=hb.trans (hd.mono hb.size)
 replace c0:=cell_kept c0 hd
 replace c1:=cell_kept c1 hd
 replace c2:=cell_kept c2 hd
 replace c3:=cell_kept c3 hd
 replace c4:=cell_kept c4 hd
 replace c5:=cell_kept c5 hd
 replace c6:=cell_kept c6 hd
 replace c7:=cell_kept c7 hd
 replace V:=Lh (V.out.kept hd)
 replace HA:=Lh (HA.out.kept hd)
 clear hd
 rcases z3 with rfl | ⟨y3,z3⟩
 ·go_wp2
  go_ret
  exact ⟨_,rfl,.inl rfl,hb⟩
 have n3:¬ l3 < 0:=by omega
 skip
 go_wp2
 go_ret
 exact ⟨_,rfl,.inr ⟨by omega,by rw [HZ.out];push_cast;omega⟩,hb⟩
/-- its rows lie in blocks of their own -/
def StA.apart (q:StA):Prop:=offA q.tiles.values.a q.tiles.counts.a∧offA q.tiles.values.a q.lexicon.a∧offA q.tiles.counts.a q.lexicon.a
theorem Stp.Own.offs {x:Stp} {q:StA} {base b2 s2 n2 c2:Nat} {w w':World} {e2:TypeId} {L2:List Value} {b:Option Addr} (h:x.Own q base w) (h2:w'.ownsRow b2 e2 s2 (.slice b n2 c2) n2 L2) (hle:w.heap.size≤b2):offA q.tiles.values.a b∧offA q.tiles.counts.a b∧offA q.lexicon.a b :=
 ⟨own_off h.1.1 h2 hle,own_off h.1.2 h2 hle,own_off h.2 h2 hle⟩
theorem toSetupA_any (x:Stp) (p:StA) (w:World) (ha:x.At p w) (hs:x.small) :
  Calls Tryz.prog 34 #[.agg #[.string x.tiles.letters,.slice p.tiles.values.a x.tiles.values.length p.tiles.values.c,.slice p.tiles.counts.a x.tiles.counts.length p.tiles.counts.c,.int .i64 x.tiles.blanks,.slice p.lexicon.a x.lexicon.length p.lexicon.c,.int .i64 x.board.size,.string x.board.premium,.string x.board.cells,.int .i64 x.seconds,.int .i64 x.rule]] w fun e w'=>∃ q:StA,e=.returned (.agg #[.string x.tiles.letters,.slice q.tiles.values.a x.tiles.values.length q.tiles.values.c,.slice q.tiles.counts.a x.tiles.counts.length q.tiles.counts.c,.int .i64 x.tiles.blanks,.slice q.lexicon.a x.lexicon.length q.lexicon.c,.int .i64 x.board.size,.string x.board.premium,.string x.board.cells,.int .i64 x.seconds,.int .i64 x.rule])∧x.Own q w.heap.size w'∧q.apart∧Below w.heap.size w w':=by
 obtain ⟨w3,hw3⟩:∃ w3,w3=((w.alloc (.cells #[.string x.tiles.letters,.slice p.tiles.values.a x.tiles.values.length p.tiles.values.c,.slice p.tiles.counts.a x.tiles.counts.length p.tiles.counts.c,.int .i64 x.tiles.blanks,.slice p.lexicon.a x.lexicon.length p.lexicon.c,.int .i64 x.board.size,.string x.board.premium,.string x.board.cells,.int .i64 x.seconds,.int .i64 x.rule] 31)).alloc (.cells #[.string ⟨#[]⟩,.slice none 0 0,.slice none 0 0,.int .i64 0,.slice none 0 0,.int .i64 0,.string ⟨#[]⟩,.string ⟨#[]⟩,.int .i64 0,.int .i64 0] 46)).alloc (.cells #[.string ⟨#[]⟩,.slice none 0 0,.slice none 0 0,.int .i64 0,.slice none 0 0,.int .i64 0,.string ⟨#[]⟩,.string ⟨#[]⟩,.int .i64 0,.int .i64 0] 46):=⟨_,rfl⟩
 have hb:Below w.heap.size w w3:=by rw [hw3];exact (((Below.refl _ _).alloc (Nat.le_refl _) _).alloc (by simp) _).alloc (by simp;omega) _
 have VI:Hid (VarAt w3 w.heap.size 31 [.string x.tiles.letters,.slice p.tiles.values.a x.tiles.values.length p.tiles.values.c,.slice p.tiles.counts.a x.tiles.counts.length p.tiles.counts.c,.int .i64 x.tiles.blanks,.slice p.lexicon.a x.lexicon.length p.lexicon.c,.int .i64 x.board.size,.string x.board.premium,.string x.board.cells,.int .i64 x.seconds,.int .i64 x.rule]):=by
  rw [hw3]
  exact Lh (((VarAt.new w 31 [.string x.tiles.letters,.slice p.tiles.values.a x.tiles.values.length p.tiles.values.c,.slice p.tiles.counts.a x.tiles.counts.length p.tiles.counts.c,.int .i64 x.tiles.blanks,.slice p.lexicon.a x.lexicon.length p.lexicon.c,.int .i64 x.board.size,.string x.board.premium,.string x.board.cells,.int .i64 x.seconds,.int .i64 x.rule]).kept ((Below.refl _ _).alloc (Nat.le_refl _) _)).kept ((Below.refl _ _).alloc (Nat.le_refl _) _))
 have VR:Hid (VarAt w3 (w.heap.size+1) 46 [.string ⟨#[]⟩,.slice none 0 0,.slice none 0 0,.int .i64 0,.slice none 0 0,.int .i64 0,.string ⟨#[]⟩,.string ⟨#[]⟩,.int .i64 0,.int .i64 0]):=by
  rw [hw3]
  have:=(VarAt.new (w.alloc (.cells #[.string x.tiles.letters,.slice p.tiles.values.a x.tiles.values.length p.tiles.values.c,.slice p.tiles.counts.a x.tiles.counts.length p.tiles.counts.c,.int .i64 x.tiles.blanks,.slice p.lexicon.a x.lexicon.length p.lexicon.c,.int .i64 x.board.size,.string x.board.premium,.string x.board.cells,.int .i64 x.seconds,.int .i64 x.rule] 31)) 46 [.string ⟨#[]⟩,.slice none 0 0,.slice none 0 0,.int .i64 0,.slice none 0 0,.int .i64 0,.string ⟨#[]⟩,.string ⟨#[]⟩,.int .i64 0,.int .i64 0]).kept ((Below.refl _ _).alloc (Nat.le_refl _) (.cells #[.string ⟨#[]⟩,.slice none 0 0,.slice none 0 0,.int .i64 0,.slice none 0 0,.int .i64 0,.string ⟨#[]⟩,.string ⟨#[]⟩,.int .i64 0,.int .i64 0] 46))
  simp only [World.size_alloc] at this
  exact Lh this
 have VO:Hid (VarAt w3 (w.heap.size+1+1) 46 [.string ⟨#[]⟩,.slice none 0 0,.slice none 0 0,.int .i64 0,.slice none 0 0,.int .i64 0,.string ⟨#[]⟩,.string ⟨#[]⟩,.int .i64 0,.int .i64 0]):=by
  rw [hw3]
  have:=VarAt.new ((w.alloc (.cells #[.string x.tiles.letters,.slice p.tiles.values.a x.tiles.values.length p.tiles.values.c,.slice p.tiles.counts.a x.tiles.counts.length p.tiles.counts.c,.int .i64 x.tiles.blanks,.slice p.lexicon.a x.lexicon.length p.lexicon.c,.int .i64 x.board.size,.string x.board.premium,.string x.board.cells,.int .i64 x.seconds,.int .i64 x.rule] 31)).alloc (.cells #[.string ⟨#[]⟩,.slice none 0 0,.slice none 0 0,.int .i64 0,.slice none 0 0,.int .i64 0,.string ⟨#[]⟩,.string ⟨#[]⟩,.int .i64 0,.int .i64 0] 46)) 46 [.string ⟨#[]⟩,.slice none 0 0,.slice none 0 0,.int .i64 0,.slice none 0 0,.int .i64 0,.string ⟨#[]⟩,.string ⟨#[]⟩,.int .i64 0,.int .i64 0]
  simp only [World.size_alloc] at this
  exact Lh this
 have HW3:=Lh hw3;clear hw3
 have HA:=Lh ha;clear ha
 have HS:=Lh hs;clear hs
 go_enter Tryz.func34,Tryz.ntmps34
 go_upto_region 2 with fail
 rw [← HW3.out]
 clear HW3
 have c0:=VI.out.cell (i:=0) rfl
 have c1:=VI.out.cell (i:=1) rfl
 have c2:=VI.out.cell (i:=2) rfl
 have c3:=VI.out.cell (i:=3) rfl
 go_wp2_with fail
 refine (toTileSetA_any x.tiles p.tiles _ (Tls.At.kept HA.out.1 hb) (HS.out.1)).mono ?_
 rintro e w4 ⟨r_tiles,rfl,ho,A_tiles,hd⟩
 have O_tiles:=Lh (ho.mono (show w.heap.size+1+1+1≤_ from VO.out.lt));clear ho
 replace VI:=Lh (VI.out.kept hd)
 replace VR:=Lh (VR.out.kept hd)
 replace VO:=Lh (VO.out.kept hd)
 replace hb:=hb.trans (hd.mono hb.size)
 clear hd c0 c1 c2 c3
 have d0:=VO.out.cell (i:=0) rfl
 have f0:=VO.out.free 0
 have d1:=VO.out.cell (i:=1) rfl
 have f1:=VO.out.free 1
 have d2:=VO.out.cell (i:=2) rfl
 have f2:=VO.out.free 2
 have d3:=VO.out.cell (i:=3) rfl
 have f3:=VO.out.free 3
 go_upto_region 3 with fail
 clear d0 f0 d1 f1 d2 f2 d3 f3
 obtain ⟨o0,k0⟩:=VO.out.set 0 (.string x.tiles.letters)
 obtain ⟨o1,k1⟩:=o0.set 1 (.slice r_tiles.values.a x.tiles.values.length r_tiles.values.c)
 obtain ⟨o2,k2⟩:=o1.set 2 (.slice r_tiles.counts.a x.tiles.counts.length r_tiles.counts.c)
 obtain ⟨o3,k3⟩:=o2.set 3 (.int .i64 x.tiles.blanks)
 have GG:=(grownBy_trans (grownBy_trans (grownBy_trans k0 k1) k2) k3)
 have o9:=Lh o3
 clear VO o0 k0 o1 k1 o2 k2 o3 k3
 have VO:=o9;clear o9
 replace VI:=Lh (VI.out.grown GG (by simp;try omega))
 replace VR:=Lh (VR.out.grown GG (by simp;try omega))
 replace hb:=hb.grown GG hb.size (fun q h=>by cases h;omega)
 replace O_tiles:=Lh (O_tiles.out.store GG (by omega))
 clear GG
 generalize ((((w4.setCell ⟨w.heap.size+1+1,0,none⟩ (.string x.tiles.letters)).setCell ⟨w.heap.size+1+1,1,none⟩ (.slice r_tiles.values.a x.tiles.values.length r_tiles.values.c)).setCell ⟨w.heap.size+1+1,2,none⟩ (.slice r_tiles.counts.a x.tiles.counts.length r_tiles.counts.c)).setCell ⟨w.heap.size+1+1,3,none⟩ (.int .i64 x.tiles.blanks))=w5 at *
 have c4:=VI.out.cell (i:=4) rfl
 go_wp2_with fail
 refine (toLexicon_any x.lexicon p.lexicon.a p.lexicon.c _ ((HA.out.2).kept hb) HS.out.2).mono ?_
 rintro e w6 ⟨r_lexicon,rfl,ho,hd⟩
 have A_lexicon:=own_off O_tiles.out.1 ho (Nat.le_refl _)
 have B_lexicon:=own_off O_tiles.out.2 ho (Nat.le_refl _)
 have O_lexicon:=Lh (own_mono ho (show w.heap.size+1+1+1≤_ from VO.out.lt));clear ho
 replace O_tiles:=Lh (O_tiles.out.kept hd)
 replace VI:=Lh (VI.out.kept hd)
 replace VR:=Lh (VR.out.kept hd)
 replace VO:=Lh (VO.out.kept hd)
 replace hb:=hb.trans (hd.mono hb.size)
 clear hd c4
 have d4:=VO.out.cell (i:=4) rfl
 have f4:=VO.out.free 4
 go_upto_region 4 with fail
 clear d4 f4
 obtain ⟨o0,k0⟩:=VO.out.set 4 (.slice (some ⟨r_lexicon,0,none⟩) x.lexicon.length x.lexicon.length)
 have GG:=k0
 have o9:=Lh o0
 clear VO o0 k0
 have VO:=o9;clear o9
 replace VI:=Lh (VI.out.grown GG (by simp;try omega))
 replace VR:=Lh (VR.out.grown GG (by simp;try omega))
 replace hb:=hb.grown GG hb.size (fun q h=>by cases h;omega)
 replace O_tiles:=Lh (O_tiles.out.store GG (by omega))
 replace O_lexicon:=Lh (row_store O_lexicon.out GG (by omega))
 clear GG
 generalize (w6.setCell ⟨w.heap.size+1+1,4,none⟩ (.slice (some ⟨r_lexicon,0,none⟩) x.lexicon.length x.lexicon.length))=w7 at *
 have c5:=VI.out.cell (i:=5) rfl
 have c6:=VI.out.cell (i:=6) rfl
 have c7:=VI.out.cell (i:=7) rfl
 go_wp2_with fail
 refine (toBoard_any x.board _).mono ?_
 rintro e w8 ⟨rfl,hd⟩
 replace O_tiles:=Lh (O_tiles.out.kept hd)
 replace O_lexicon:=Lh (own_below O_lexicon.out hd)
 replace VI:=Lh (VI.out.kept hd)
 replace VR:=Lh (VR.out.kept hd)
 replace VO:=Lh (VO.out.kept hd)
 replace hb:=hb.trans (hd.mono hb.size)
 clear hd c5 c6 c7
 have d5:=VO.out.cell (i:=5) rfl
 have f5:=VO.out.free 5
 have d6:=VO.out.cell (i:=6) rfl
 have f6:=VO.out.free 6
 have d7:=VO.out.cell (i:=7) rfl
 have f7:=VO.out.free 7
 go_upto_region 5 with fail
 clear d5 f5 d6 f6 d7 f7
 obtain ⟨o0,k0⟩:=VO.out.set 5 (.int .i64 x.board.size)
 obtain ⟨o1,k1⟩:=o0.set 6 (.string x.board.premium)
 obtain ⟨o2,k2⟩:=o1.set 7 (.string x.board.cells)
 have GG:=(grownBy_trans (grownBy_trans k0 k1) k2)
 have o9:=Lh o2
 clear VO o0 k0 o1 k1 o2 k2
 have VO:=o9;clear o9
 replace VI:=Lh (VI.out.grown GG (by simp;try omega))
 replace VR:=Lh (VR.out.grown GG (by simp;try omega))
 replace hb:=hb.grown GG hb.size (fun q h=>by cases h;omega)
 replace O_tiles:=Lh (O_tiles.out.store GG (by omega))
 replace O_lexicon:=Lh (row_store O_lexicon.out GG (by omega))
 clear GG
 generalize (((w8.setCell ⟨w.heap.size+1+1,5,none⟩ (.int .i64 x.board.size)).setCell ⟨w.heap.size+1+1,6,none⟩ (.string x.board.premium)).setCell ⟨w.heap.size+1+1,7,none⟩ (.string x.board.cells))=w9 at *
 have c8:=VI.out.cell (i:=8) rfl
 have d8:=VO.out.cell (i:=8) rfl
 have f8:=VO.out.free 8
 go_upto_region 6 with fail
 clear d8 f8 c8
 obtain ⟨o0,k0⟩:=VO.out.set 8 (.int .i64 x.seconds)
 have GG:=k0
 have o9:=Lh o0
 clear VO o0 k0
 have VO:=o9;clear o9
 replace VI:=Lh (VI.out.grown GG (by simp;try omega))
 replace VR:=Lh (VR.out.grown GG (by simp;try omega))
 replace hb:=hb.grown GG hb.size (fun q h=>by cases h;omega)
 replace O_tiles:=Lh (O_tiles.out.store GG (by omega))
 replace O_lexicon:=Lh (row_store O_lexicon.out GG (by omega))
 clear GG
 generalize (w9.setCell ⟨w.heap.size+1+1,8,none⟩ (.int .i64 x.seconds))=w10 at *
 have c9:=VI.out.cell (i:=9) rfl
 have d9:=VO.out.cell (i:=9) rfl
 have f9:=VO.out.free 9
 go_upto_region 7 with fail
 clear d9 f9 c9
 obtain ⟨o0,k0⟩:=VO.out.set 9 (.int .i64 x.rule)
 have GG:=k0
 have o9:=Lh o0
 clear VO o0 k0
 have VO:=o9;clear o9
 replace VI:=Lh (VI.out.grown GG (by simp;try omega))
 replace VR:=Lh (VR.out.grown GG (by simp;try omega))
 replace hb:=hb.grown GG hb.size (fun q h=>by cases h;omega)
 replace O_tiles:=Lh (O_tiles.out.store GG (by omega))
 replace O_lexicon:=Lh (row_store O_lexicon.out GG (by omega))
 clear GG
 generalize (w10.setCell ⟨w.heap.size+1+1,9,none⟩ (.int .i64 x.rule))=w11 at *
 have t0:=VO.out.cell (i:=0) (v:=.string x.tiles.letters) rfl
 have u0:=VR.out.cell (i:=0) rfl
 have f0:=VR.out.free 0
 have t1:=VO.out.cell (i:=1) (v:=.slice r_tiles.values.a x.tiles.values.length r_tiles.values.c) rfl
 have u1:=VR.out.cell (i:=1) rfl
 have f1:=VR.out.free 1
 have t2:=VO.out.cell (i:=2) (v:=.slice r_tiles.counts.a x.tiles.counts.length r_tiles.counts.c) rfl
 have u2:=VR.out.cell (i:=2) rfl
 have f2:=VR.out.free 2
 have t3:=VO.out.cell (i:=3) (v:=.int .i64 x.tiles.blanks) rfl
 have u3:=VR.out.cell (i:=3) rfl
 have f3:=VR.out.free 3
 have t4:=VO.out.cell (i:=4) (v:=.slice (some ⟨r_lexicon,0,none⟩) x.lexicon.length x.lexicon.length) rfl
 have u4:=VR.out.cell (i:=4) rfl
 have f4:=VR.out.free 4
 have t5:=VO.out.cell (i:=5) (v:=.int .i64 x.board.size) rfl
 have u5:=VR.out.cell (i:=5) rfl
 have f5:=VR.out.free 5
 have t6:=VO.out.cell (i:=6) (v:=.string x.board.premium) rfl
 have u6:=VR.out.cell (i:=6) rfl
 have f6:=VR.out.free 6
 have t7:=VO.out.cell (i:=7) (v:=.string x.board.cells) rfl
 have u7:=VR.out.cell (i:=7) rfl
 have f7:=VR.out.free 7
 have t8:=VO.out.cell (i:=8) (v:=.int .i64 x.seconds) rfl
 have u8:=VR.out.cell (i:=8) rfl
 have f8:=VR.out.free 8
 have t9:=VO.out.cell (i:=9) (v:=.int .i64 x.rule) rfl
 have u9:=VR.out.cell (i:=9) rfl
 have f9:=VR.out.free 9
 obtain ⟨o0,k0⟩:=VR.out.set 0 (.string x.tiles.letters)
 obtain ⟨o1,k1⟩:=o0.set 1 (.slice r_tiles.values.a x.tiles.values.length r_tiles.values.c)
 obtain ⟨o2,k2⟩:=o1.set 2 (.slice r_tiles.counts.a x.tiles.counts.length r_tiles.counts.c)
 obtain ⟨o3,k3⟩:=o2.set 3 (.int .i64 x.tiles.blanks)
 obtain ⟨o4,k4⟩:=o3.set 4 (.slice (some ⟨r_lexicon,0,none⟩) x.lexicon.length x.lexicon.length)
 obtain ⟨o5,k5⟩:=o4.set 5 (.int .i64 x.board.size)
 obtain ⟨o6,k6⟩:=o5.set 6 (.string x.board.premium)
 obtain ⟨o7,k7⟩:=o6.set 7 (.string x.board.cells)
 obtain ⟨o8,k8⟩:=o7.set 8 (.int .i64 x.seconds)
 obtain ⟨o9,k9⟩:=o8.set 9 (.int .i64 x.rule)
 have GG:=(grownBy_trans (grownBy_trans (grownBy_trans (grownBy_trans (grownBy_trans (grownBy_trans (grownBy_trans (grownBy_trans (grownBy_trans k0 k1) k2) k3) k4) k5) k6) k7) k8) k9)
 have hb9:=hb.grown GG hb.size (fun q h=>by cases h;omega)
 have e0:=o9.cell (i:=0) (v:=.string x.tiles.letters) rfl
 have e1:=o9.cell (i:=1) (v:=.slice r_tiles.values.a x.tiles.values.length r_tiles.values.c) rfl
 have e2:=o9.cell (i:=2) (v:=.slice r_tiles.counts.a x.tiles.counts.length r_tiles.counts.c) rfl
 have e3:=o9.cell (i:=3) (v:=.int .i64 x.tiles.blanks) rfl
 have e4:=o9.cell (i:=4) (v:=.slice (some ⟨r_lexicon,0,none⟩) x.lexicon.length x.lexicon.length) rfl
 have e5:=o9.cell (i:=5) (v:=.int .i64 x.board.size) rfl
 have e6:=o9.cell (i:=6) (v:=.string x.board.premium) rfl
 have e7:=o9.cell (i:=7) (v:=.string x.board.cells) rfl
 have e8:=o9.cell (i:=8) (v:=.int .i64 x.seconds) rfl
 have e9:=o9.cell (i:=9) (v:=.int .i64 x.rule) rfl
 replace O_tiles:=Lh (O_tiles.out.store GG (by omega))
 replace O_lexicon:=Lh (row_store O_lexicon.out GG (by omega))
 clear GG VI VR VO hb o0 k0 o1 k1 o2 k2 o3 k3 o4 k4 o5 k5 o6 k6 o7 k7 o8 k8 o9 k9
 go_wp2
 refine bodyPost_ret (v:=.agg #[.string x.tiles.letters,.slice r_tiles.values.a x.tiles.values.length r_tiles.values.c,.slice r_tiles.counts.a x.tiles.counts.length r_tiles.counts.c,.int .i64 x.tiles.blanks,.slice (some ⟨r_lexicon,0,none⟩) x.lexicon.length x.lexicon.length,.int .i64 x.board.size,.string x.board.premium,.string x.board.cells,.int .i64 x.seconds,.int .i64 x.rule]) (by simp [results,Tryz.results34,go_sem,e0,e1,e2,e3,e4,e5,e6,e7,e8,e9]) rfl ?_
 exact ⟨⟨r_tiles,⟨some ⟨r_lexicon,0,none⟩,x.lexicon.length⟩⟩,rfl,⟨O_tiles.out.mono (by omega),own_mono O_lexicon.out (by omega)⟩,⟨A_tiles,A_lexicon,B_lexicon⟩,hb9⟩
theorem eqSetup_any (x:Stp) (p q:StA) (w:World) (ha:x.At p w) (hc:x.At q w) (hf:x.fit) :
  Calls Tryz.prog 46 #[.agg #[.string x.tiles.letters,.slice p.tiles.values.a x.tiles.values.length p.tiles.values.c,.slice p.tiles.counts.a x.tiles.counts.length p.tiles.counts.c,.int .i64 x.tiles.blanks,.slice p.lexicon.a x.lexicon.length p.lexicon.c,.int .i64 x.board.size,.string x.board.premium,.string x.board.cells,.int .i64 x.seconds,.int .i64 x.rule],.agg #[.string x.tiles.letters,.slice q.tiles.values.a x.tiles.values.length q.tiles.values.c,.slice q.tiles.counts.a x.tiles.counts.length q.tiles.counts.c,.int .i64 x.tiles.blanks,.slice q.lexicon.a x.lexicon.length q.lexicon.c,.int .i64 x.board.size,.string x.board.premium,.string x.board.cells,.int .i64 x.seconds,.int .i64 x.rule]] w fun e w'=>e=.returned (.bool true)∧Below w.heap.size w w':=by
 have HF:=Lh hf;clear hf
 obtain ⟨w2,hw2⟩:∃ w2,w2=(w.alloc (.cells #[.string x.tiles.letters,.slice p.tiles.values.a x.tiles.values.length p.tiles.values.c,.slice p.tiles.counts.a x.tiles.counts.length p.tiles.counts.c,.int .i64 x.tiles.blanks,.slice p.lexicon.a x.lexicon.length p.lexicon.c,.int .i64 x.board.size,.string x.board.premium,.string x.board.cells,.int .i64 x.seconds,.int .i64 x.rule] 46)).alloc (.cells #[.string x.tiles.letters,.slice q.tiles.values.a x.tiles.values.length q.tiles.values.c,.slice q.tiles.counts.a x.tiles.counts.length q.tiles.counts.c,.int .i64 x.tiles.blanks,.slice q.lexicon.a x.lexicon.length q.lexicon.c,.int .i64 x.board.size,.string x.board.premium,.string x.board.cells,.int .i64 x.seconds,.int .i64 x.rule] 46):=⟨_,rfl⟩
 have hb:Below w.heap.size w w2:=by rw [hw2];exact ((Below.refl _ _).alloc (Nat.le_refl _) _).alloc (by simp) _
 have VA:Hid (VarAt w2 w.heap.size 46 [.string x.tiles.letters,.slice p.tiles.values.a x.tiles.values.length p.tiles.values.c,.slice p.tiles.counts.a x.tiles.counts.length p.tiles.counts.c,.int .i64 x.tiles.blanks,.slice p.lexicon.a x.lexicon.length p.lexicon.c,.int .i64 x.board.size,.string x.board.premium,.string x.board.cells,.int .i64 x.seconds,.int .i64 x.rule]):=by
  rw [hw2]
  exact Lh ((VarAt.new w 46 [.string x.tiles.letters,.slice p.tiles.values.a x.tiles.values.length p.tiles.values.c,.slice p.tiles.counts.a x.tiles.counts.length p.tiles.counts.c,.int .i64 x.tiles.blanks,.slice p.lexicon.a x.lexicon.length p.lexicon.c,.int .i64 x.board.size,.string x.board.premium,.string x.board.cells,.int .i64 x.seconds,.int .i64 x.rule]).kept ((Below.refl _ _).alloc (Nat.le_refl _) _))
 have VB:Hid (VarAt w2 (w.heap.size+1) 46 [.string x.tiles.letters,.slice q.tiles.values.a x.tiles.values.length q.tiles.values.c,.slice q.tiles.counts.a x.tiles.counts.length q.tiles.counts.c,.int .i64 x.tiles.blanks,.slice q.lexicon.a x.lexicon.length q.lexicon.c,.int .i64 x.board.size,.string x.board.premium,.string x.board.cells,.int .i64 x.seconds,.int .i64 x.rule]):=by
  rw [hw2]
  have:=VarAt.new (w.alloc (.cells #[.string x.tiles.letters,.slice p.tiles.values.a x.tiles.values.length p.tiles.values.c,.slice p.tiles.counts.a x.tiles.counts.length p.tiles.counts.c,.int .i64 x.tiles.blanks,.slice p.lexicon.a x.lexicon.length p.lexicon.c,.int .i64 x.board.size,.string x.board.premium,.string x.board.cells,.int .i64 x.seconds,.int .i64 x.rule] 46)) 46 [.string x.tiles.letters,.slice q.tiles.values.a x.tiles.values.length q.tiles.values.c,.slice q.tiles.counts.a x.tiles.counts.length q.tiles.counts.c,.int .i64 x.tiles.blanks,.slice q.lexicon.a x.lexicon.length q.lexicon.c,.int .i64 x.board.size,.string x.board.premium,.string x.board.cells,.int .i64 x.seconds,.int .i64 x.rule]
  simp only [World.size_alloc] at this
  exact Lh this
 have HA:=Lh ha;clear ha
 have HC:=Lh hc;clear hc
 have HW2:=Lh hw2;clear hw2
 go_enter Tryz.func46,Tryz.ntmps46
 go_upto_region 1 with fail
 rw [← HW2.out]
 clear HW2
 have c0:=VA.out.cell (i:=0) rfl
 have d0:=VB.out.cell (i:=0) rfl
 have c1:=VA.out.cell (i:=1) rfl
 have d1:=VB.out.cell (i:=1) rfl
 have c2:=VA.out.cell (i:=2) rfl
 have d2:=VB.out.cell (i:=2) rfl
 have c3:=VA.out.cell (i:=3) rfl
 have d3:=VB.out.cell (i:=3) rfl
 have c4:=VA.out.cell (i:=4) rfl
 have d4:=VB.out.cell (i:=4) rfl
 have c5:=VA.out.cell (i:=5) rfl
 have d5:=VB.out.cell (i:=5) rfl
 have c6:=VA.out.cell (i:=6) rfl
 have d6:=VB.out.cell (i:=6) rfl
 have c7:=VA.out.cell (i:=7) rfl
 have d7:=VB.out.cell (i:=7) rfl
 have c8:=VA.out.cell (i:=8) rfl
 have d8:=VB.out.cell (i:=8) rfl
 have c9:=VA.out.cell (i:=9) rfl
 have d9:=VB.out.cell (i:=9) rfl
 go_wp2_with fail
 refine (eqTileSet_any x.tiles p.tiles q.tiles _ (Tls.At.kept HA.out.1 hb) (Tls.At.kept HC.out.1 hb) (HF.out.1)).mono ?_
 rintro e w3 ⟨rfl,hd⟩
 replace hb:=hb.trans (hd.mono hb.size)
 replace c0:=cell_kept c0 hd
 replace d0:=cell_kept d0 hd
 replace c1:=cell_kept c1 hd
 replace d1:=cell_kept d1 hd
 replace c2:=cell_kept c2 hd
 replace d2:=cell_kept d2 hd
 replace c3:=cell_kept c3 hd
 replace d3:=cell_kept d3 hd
 replace c4:=cell_kept c4 hd
 replace d4:=cell_kept d4 hd
 replace c5:=cell_kept c5 hd
 replace d5:=cell_kept d5 hd
 replace c6:=cell_kept c6 hd
 replace d6:=cell_kept d6 hd
 replace c7:=cell_kept c7 hd
 replace d7:=cell_kept d7 hd
 replace c8:=cell_kept c8 hd
 replace d8:=cell_kept d8 hd
 replace c9:=cell_kept c9 hd
 replace d9:=cell_kept d9 hd
 clear hd
 go_wp2_with fail
 refine (eqLexicon_any x.lexicon p.lexicon.a q.lexicon.a p.lexicon.c q.lexicon.c _ ((HA.out.2).kept hb) ((HC.out.2).kept hb) HF.out.2.1.1).mono ?_
 rintro e w4 ⟨rfl,hd⟩
 replace hb:=hb.trans (hd.mono hb.size)
 replace c0:=cell_kept c0 hd
 replace d0:=cell_kept d0 hd
 replace c1:=cell_kept c1 hd
 replace d1:=cell_kept d1 hd
 replace c2:=cell_kept c2 hd
 replace d2:=cell_kept d2 hd
 replace c3:=cell_kept c3 hd
 replace d3:=cell_kept d3 hd
 replace c4:=cell_kept c4 hd
 replace d4:=cell_kept d4 hd
 replace c5:=cell_kept c5 hd
 replace d5:=cell_kept d5 hd
 replace c6:=cell_kept c6 hd
 replace d6:=cell_kept d6 hd
 replace c7:=cell_kept c7 hd
 replace d7:=cell_kept d7 hd
 replace c8:=cell_kept c8 hd
 replace d8:=cell_kept d8 hd
 replace c9:=cell_kept c9 hd
 replace d9:=cell_kept d9 hd
 clear hd
 go_wp2_with fail
 refine (eqBoard_any x.board _).mono ?_
 rintro e w5 ⟨rfl,hd⟩
 replace hb:=hb.trans (hd.mono hb.size)
 replace c0:=cell_kept c0 hd
 replace d0:=cell_kept d0 hd
 replace c1:=cell_kept c1 hd
 replace d1:=cell_kept d1 hd
 replace c2:=cell_kept c2 hd
 replace d2:=cell_kept d2 hd
 replace c3:=cell_kept c3 hd
 replace d3:=cell_kept d3 hd
 replace c4:=cell_kept c4 hd
 replace d4:=cell_kept d4 hd
 replace c5:=cell_kept c5 hd
 replace d5:=cell_kept d5 hd
 replace c6:=cell_kept c6 hd
 replace d6:=cell_kept d6 hd
 replace c7:=cell_kept c7 hd
 replace d7:=cell_kept d7 hd
 replace c8:=cell_kept c8 hd
 replace d8:=cell_kept d8 hd
 replace c9:=cell_kept c9 hd
 replace d9:=cell_kept d9 hd
 clear hd
 go_wp2
 go_ret
 exact ⟨rfl,hb⟩
end Go.Proofs.YtalnbgcdhcnjfaaGreatDoor

namespace Go.Proofs.YtalnbgcdhcnjfaaGreatDoor
open Go.ChangeShapes Go.WideShapes Go.ChangeAt Go.RowKit Go.Sort

structure Lst where
 kind:Int
 player:Int
 play:Ply
 before:ByteArray
 drawn:ByteArray
 score:Int
 zeros:Int
def Lst.fit (x:Lst):Prop:=x.play.fit∧x.before.size≤9223372036854775807∧x.drawn.size≤9223372036854775807
def Lst.sz (x:Lst):Nat:=x.play.sz+x.before.size+x.drawn.size
theorem szLast_any (x:Lst) (left:Int) (w:World) (h0:0≤left) (h1:left≤1048576) (hf:x.fit) :
  Calls Tryz.prog 23 #[.agg #[.int .i64 x.kind,.int .i64 x.player,.int .i64 x.play.row,.int .i64 x.play.col,.bool x.play.down,.string x.play.word,.string x.before,.string x.drawn,.int .i64 x.score,.int .i64 x.zeros],.int .i64 left] w (SzPost w left x.sz):=by
 have HF:=Lh hf;clear hf
 have hb:Below w.heap.size w (w.alloc (.cells #[.int .i64 x.kind,.int .i64 x.player,.int .i64 x.play.row,.int .i64 x.play.col,.bool x.play.down,.string x.play.word,.string x.before,.string x.drawn,.int .i64 x.score,.int .i64 x.zeros] 35)):=(Below.refl _ _).alloc (Nat.le_refl _) _
 have V:=Lh (VarAt.new w 35 [.int .i64 x.kind,.int .i64 x.player,.int .i64 x.play.row,.int .i64 x.play.col,.bool x.play.down,.string x.play.word,.string x.before,.string x.drawn,.int .i64 x.score,.int .i64 x.zeros])
 have HZ:Hid (x.sz=x.play.sz+x.before.size+x.drawn.size):=Lh rfl
 have q_before:x.before.size≤9223372036854775807:=HF.out.2.1
 have q_drawn:x.drawn.size≤9223372036854775807:=HF.out.2.2
 go_enter Tryz.func23,Tryz.ntmps23
 go_upto_region 1 with fail
 generalize w.alloc (.cells #[.int .i64 x.kind,.int .i64 x.player,.int .i64 x.play.row,.int .i64 x.play.col,.bool x.play.down,.string x.play.word,.string x.before,.string x.drawn,.int .i64 x.score,.int .i64 x.zeros] 35)=w1 at *
 have c2:=V.out.cell (i:=2) rfl
 have c3:=V.out.cell (i:=3) rfl
 have c4:=V.out.cell (i:=4) rfl
 have c5:=V.out.cell (i:=5) rfl
 have c6:=V.out.cell (i:=6) rfl
 have c7:=V.out.cell (i:=7) rfl
 go_wp2_with fail
 refine (szPlay_any x.play left _ (by omega) (by omega) (HF.out.1)).mono ?_
 rintro e w2 ⟨l1,rfl,z1,hd⟩
 replace hb:=hb.trans (hd.mono hb.size)
 replace c2:=cell_kept c2 hd
 replace c3:=cell_kept c3 hd
 replace c4:=cell_kept c4 hd
 replace c5:=cell_kept c5 hd
 replace c6:=cell_kept c6 hd
 replace c7:=cell_kept c7 hd
 replace V:=Lh (V.out.kept hd)
 clear hd
 rcases z1 with rfl | ⟨y1,z1⟩
 ·go_wp2
  go_ret
  exact ⟨_,rfl,.inl rfl,hb⟩
 have n1:¬ l1 < 0:=by omega
 by_cases g_before:l1 - x.before.size < 0
 ·go_wp2
  go_ret
  exact ⟨_,rfl,.inl rfl,hb⟩
 by_cases g_drawn:(l1 - x.before.size) - x.drawn.size < 0
 ·go_wp2
  go_ret
  exact ⟨_,rfl,.inl rfl,hb⟩
 skip
 go_wp2
 go_ret
 exact ⟨_,rfl,.inr ⟨by omega,by rw [HZ.out];push_cast;omega⟩,hb⟩
theorem toLast_any (x:Lst) (w:World) :
  Calls Tryz.prog 38 #[.agg #[.int .i64 x.kind,.int .i64 x.player,.int .i64 x.play.row,.int .i64 x.play.col,.bool x.play.down,.string x.play.word,.string x.before,.string x.drawn,.int .i64 x.score,.int .i64 x.zeros]] w fun e w'=>e=.returned (.agg #[.int .i64 x.kind,.int .i64 x.player,.int .i64 x.play.row,.int .i64 x.play.col,.bool x.play.down,.string x.play.word,.string x.before,.string x.drawn,.int .i64 x.score,.int .i64 x.zeros])∧Below w.heap.size w w':=by
 obtain ⟨w3,hw3⟩:∃ w3,w3=((w.alloc (.cells #[.int .i64 x.kind,.int .i64 x.player,.int .i64 x.play.row,.int .i64 x.play.col,.bool x.play.down,.string x.play.word,.string x.before,.string x.drawn,.int .i64 x.score,.int .i64 x.zeros] 35)).alloc (.cells #[.int .i64 0,.int .i64 0,.int .i64 0,.int .i64 0,.bool false,.string ⟨#[]⟩,.string ⟨#[]⟩,.string ⟨#[]⟩,.int .i64 0,.int .i64 0] 49)).alloc (.cells #[.int .i64 0,.int .i64 0,.int .i64 0,.int .i64 0,.bool false,.string ⟨#[]⟩,.string ⟨#[]⟩,.string ⟨#[]⟩,.int .i64 0,.int .i64 0] 49):=⟨_,rfl⟩
 have hb:Below w.heap.size w w3:=by rw [hw3];exact (((Below.refl _ _).alloc (Nat.le_refl _) _).alloc (by simp) _).alloc (by simp;omega) _
 have VI:Hid (VarAt w3 w.heap.size 35 [.int .i64 x.kind,.int .i64 x.player,.int .i64 x.play.row,.int .i64 x.play.col,.bool x.play.down,.string x.play.word,.string x.before,.string x.drawn,.int .i64 x.score,.int .i64 x.zeros]):=by
  rw [hw3]
  exact Lh (((VarAt.new w 35 [.int .i64 x.kind,.int .i64 x.player,.int .i64 x.play.row,.int .i64 x.play.col,.bool x.play.down,.string x.play.word,.string x.before,.string x.drawn,.int .i64 x.score,.int .i64 x.zeros]).kept ((Below.refl _ _).alloc (Nat.le_refl _) _)).kept ((Below.refl _ _).alloc (Nat.le_refl _) _))
 have VR:Hid (VarAt w3 (w.heap.size+1) 49 [.int .i64 0,.int .i64 0,.int .i64 0,.int .i64 0,.bool false,.string ⟨#[]⟩,.string ⟨#[]⟩,.string ⟨#[]⟩,.int .i64 0,.int .i64 0]):=by
  rw [hw3]
  have:=(VarAt.new (w.alloc (.cells #[.int .i64 x.kind,.int .i64 x.player,.int .i64 x.play.row,.int .i64 x.play.col,.bool x.play.down,.string x.play.word,.string x.before,.string x.drawn,.int .i64 x.score,.int .i64 x.zeros] 35)) 49 [.int .i64 0,.int .i64 0,.int .i64 0,.int .i64 0,.bool false,.string ⟨#[]⟩,.string ⟨#[]⟩,.string ⟨#[]⟩,.int .i64 0,.int .i64 0]).kept ((Below.refl _ _).alloc (Nat.le_refl _) (.cells #[.int .i64 0,.int .i64 0,.int .i64 0,.int .i64 0,.bool false,.string ⟨#[]⟩,.string ⟨#[]⟩,.string ⟨#[]⟩,.int .i64 0,.int .i64 0] 49))
  simp only [World.size_alloc] at this
  exact Lh this
 have VO:Hid (VarAt w3 (w.heap.size+1+1) 49 [.int .i64 0,.int .i64 0,.int .i64 0,.int .i64 0,.bool false,.string ⟨#[]⟩,.string ⟨#[]⟩,.string ⟨#[]⟩,.int .i64 0,.int .i64 0]):=by
  rw [hw3]
  have:=VarAt.new ((w.alloc (.cells #[.int .i64 x.kind,.int .i64 x.player,.int .i64 x.play.row,.int .i64 x.play.col,.bool x.play.down,.string x.play.word,.string x.before,.string x.drawn,.int .i64 x.score,.int .i64 x.zeros] 35)).alloc (.cells #[.int .i64 0,.int .i64 0,.int .i64 0,.int .i64 0,.bool false,.string ⟨#[]⟩,.string ⟨#[]⟩,.string ⟨#[]⟩,.int .i64 0,.int .i64 0] 49)) 49 [.int .i64 0,.int .i64 0,.int .i64 0,.int .i64 0,.bool false,.string ⟨#[]⟩,.string ⟨#[]⟩,.string ⟨#[]⟩,.int .i64 0,.int .i64 0]
  simp only [World.size_alloc] at this
  exact Lh this
 have HW3:=Lh hw3;clear hw3
 go_enter Tryz.func38,Tryz.ntmps38
 go_upto_region 2 with fail
 rw [← HW3.out]
 clear HW3
 have c0:=VI.out.cell (i:=0) rfl
 have d0:=VO.out.cell (i:=0) rfl
 have f0:=VO.out.free 0
 go_upto_region 3 with fail
 clear d0 f0 c0
 obtain ⟨o0,k0⟩:=VO.out.set 0 (.int .i64 x.kind)
 have GG:=k0
 have o9:=Lh o0
 clear VO o0 k0
 have VO:=o9;clear o9
 replace VI:=Lh (VI.out.grown GG (by simp;try omega))
 replace VR:=Lh (VR.out.grown GG (by simp;try omega))
 replace hb:=hb.grown GG hb.size (fun q h=>by cases h;omega)
 clear GG
 generalize (w3.setCell ⟨w.heap.size+1+1,0,none⟩ (.int .i64 x.kind))=w4 at *
 have c1:=VI.out.cell (i:=1) rfl
 have d1:=VO.out.cell (i:=1) rfl
 have f1:=VO.out.free 1
 go_upto_region 4 with fail
 clear d1 f1 c1
 obtain ⟨o0,k0⟩:=VO.out.set 1 (.int .i64 x.player)
 have GG:=k0
 have o9:=Lh o0
 clear VO o0 k0
 have VO:=o9;clear o9
 replace VI:=Lh (VI.out.grown GG (by simp;try omega))
 replace VR:=Lh (VR.out.grown GG (by simp;try omega))
 replace hb:=hb.grown GG hb.size (fun q h=>by cases h;omega)
 clear GG
 generalize (w4.setCell ⟨w.heap.size+1+1,1,none⟩ (.int .i64 x.player))=w5 at *
 have c2:=VI.out.cell (i:=2) rfl
 have c3:=VI.out.cell (i:=3) rfl
 have c4:=VI.out.cell (i:=4) rfl
 have c5:=VI.out.cell (i:=5) rfl
 go_wp2_with fail
 refine (toPlay_any x.play _).mono ?_
 rintro e w6 ⟨rfl,hd⟩
 replace VI:=Lh (VI.out.kept hd)
 replace VR:=Lh (VR.out.kept hd)
 replace VO:=Lh (VO.out.kept hd)
 replace hb:=hb.trans (hd.mono hb.size)
 clear hd c2 c3 c4 c5
 have d2:=VO.out.cell (i:=2) rfl
 have f2:=VO.out.free 2
 have d3:=VO.out.cell (i:=3) rfl
 have f3:=VO.out.free 3
 have d4:=VO.out.cell (i:=4) rfl
 have f4:=VO.out.free 4
 have d5:=VO.out.cell (i:=5) rfl
 have f5:=VO.out.free 5
 go_upto_region 5 with fail
 clear d2 f2 d3 f3 d4 f4 d5 f5
 obtain ⟨o0,k0⟩:=VO.out.set 2 (.int .i64 x.play.row)
 obtain ⟨o1,k1⟩:=o0.set 3 (.int .i64 x.play.col)
 obtain ⟨o2,k2⟩:=o1.set 4 (.bool x.play.down)
 obtain ⟨o3,k3⟩:=o2.set 5 (.string x.play.word)
 have GG:=(grownBy_trans (grownBy_trans (grownBy_trans k0 k1) k2) k3)
 have o9:=Lh o3
 clear VO o0 k0 o1 k1 o2 k2 o3 k3
 have VO:=o9;clear o9
 replace VI:=Lh (VI.out.grown GG (by simp;try omega))
 replace VR:=Lh (VR.out.grown GG (by simp;try omega))
 replace hb:=hb.grown GG hb.size (fun q h=>by cases h;omega)
 clear GG
 generalize ((((w6.setCell ⟨w.heap.size+1+1,2,none⟩ (.int .i64 x.play.row)).setCell ⟨w.heap.size+1+1,3,none⟩ (.int .i64 x.play.col)).setCell ⟨w.heap.size+1+1,4,none⟩ (.bool x.play.down)).setCell ⟨w.heap.size+1+1,5,none⟩ (.string x.play.word))=w7 at *
 have c6:=VI.out.cell (i:=6) rfl
 have d6:=VO.out.cell (i:=6) rfl
 have f6:=VO.out.free 6
 go_upto_region 6 with fail
 clear d6 f6 c6
 obtain ⟨o0,k0⟩:=VO.out.set 6 (.string x.before)
 have GG:=k0
 have o9:=Lh o0
 clear VO o0 k0
 have VO:=o9;clear o9
 replace VI:=Lh (VI.out.grown GG (by simp;try omega))
 replace VR:=Lh (VR.out.grown GG (by simp;try omega))
 replace hb:=hb.grown GG hb.size (fun q h=>by cases h;omega)
 clear GG
 generalize (w7.setCell ⟨w.heap.size+1+1,6,none⟩ (.string x.before))=w8 at *
 have c7:=VI.out.cell (i:=7) rfl
 have d7:=VO.out.cell (i:=7) rfl
 have f7:=VO.out.free 7
 go_upto_region 7 with fail
 clear d7 f7 c7
 obtain ⟨o0,k0⟩:=VO.out.set 7 (.string x.drawn)
 have GG:=k0
 have o9:=Lh o0
 clear VO o0 k0
 have VO:=o9;clear o9
 replace VI:=Lh (VI.out.grown GG (by simp;try omega))
 replace VR:=Lh (VR.out.grown GG (by simp;try omega))
 replace hb:=hb.grown GG hb.size (fun q h=>by cases h;omega)
 clear GG
 generalize (w8.setCell ⟨w.heap.size+1+1,7,none⟩ (.string x.drawn))=w9 at *
 have c8:=VI.out.cell (i:=8) rfl
 have d8:=VO.out.cell (i:=8) rfl
 have f8:=VO.out.free 8
 go_upto_region 8 with fail
 clear d8 f8 c8
 obtain ⟨o0,k0⟩:=VO.out.set 8 (.int .i64 x.score)
 have GG:=k0
 have o9:=Lh o0
 clear VO o0 k0
 have VO:=o9;clear o9
 replace VI:=Lh (VI.out.grown GG (by simp;try omega))
 replace VR:=Lh (VR.out.grown GG (by simp;try omega))
 replace hb:=hb.grown GG hb.size (fun q h=>by cases h;omega)
 clear GG
 generalize (w9.setCell ⟨w.heap.size+1+1,8,none⟩ (.int .i64 x.score))=w10 at *
 have c9:=VI.out.cell (i:=9) rfl
 have d9:=VO.out.cell (i:=9) rfl
 have f9:=VO.out.free 9
 go_upto_region 9 with fail
 clear d9 f9 c9
 obtain ⟨o0,k0⟩:=VO.out.set 9 (.int .i64 x.zeros)
 have GG:=k0
 have o9:=Lh o0
 clear VO o0 k0
 have VO:=o9;clear o9
 replace VI:=Lh (VI.out.grown GG (by simp;try omega))
 replace VR:=Lh (VR.out.grown GG (by simp;try omega))
 replace hb:=hb.grown GG hb.size (fun q h=>by cases h;omega)
 clear GG
 generalize (w10.setCell ⟨w.heap.size+1+1,9,none⟩ (.int .i64 x.zeros))=w11 at *
 have t0:=VO.out.cell (i:=0) (v:=.int .i64 x.kind) rfl
 have u0:=VR.out.cell (i:=0) rfl
 have f0:=VR.out.free 0
 have t1:=VO.out.cell (i:=1) (v:=.int .i64 x.player) rfl
 have u1:=VR.out.cell (i:=1) rfl
 have f1:=VR.out.free 1
 have t2:=VO.out.cell (i:=2) (v:=.int .i64 x.play.row) rfl
 have u2:=VR.out.cell (i:=2) rfl
 have f2:=VR.out.free 2
 have t3:=VO.out.cell (i:=3) (v:=.int .i64 x.play.col) rfl
 have u3:=VR.out.cell (i:=3) rfl
 have f3:=VR.out.free 3
 have t4:=VO.out.cell (i:=4) (v:=.bool x.play.down) rfl
 have u4:=VR.out.cell (i:=4) rfl
 have f4:=VR.out.free 4
 have t5:=VO.out.cell (i:=5) (v:=.string x.play.word) rfl
 have u5:=VR.out.cell (i:=5) rfl
 have f5:=VR.out.free 5
 have t6:=VO.out.cell (i:=6) (v:=.string x.before) rfl
 have u6:=VR.out.cell (i:=6) rfl
 have f6:=VR.out.free 6
 have t7:=VO.out.cell (i:=7) (v:=.string x.drawn) rfl
 have u7:=VR.out.cell (i:=7) rfl
 have f7:=VR.out.free 7
 have t8:=VO.out.cell (i:=8) (v:=.int .i64 x.score) rfl
 have u8:=VR.out.cell (i:=8) rfl
 have f8:=VR.out.free 8
 have t9:=VO.out.cell (i:=9) (v:=.int .i64 x.zeros) rfl
 have u9:=VR.out.cell (i:=9) rfl
 have f9:=VR.out.free 9
 obtain ⟨o0,k0⟩:=VR.out.set 0 (.int .i64 x.kind)
 obtain ⟨o1,k1⟩:=o0.set 1 (.int .i64 x.player)
 obtain ⟨o2,k2⟩:=o1.set 2 (.int .i64 x.play.row)
 obtain ⟨o3,k3⟩:=o2.set 3 (.int .i64 x.play.col)
 obtain ⟨o4,k4⟩:=o3.set 4 (.bool x.play.down)
 obtain ⟨o5,k5⟩:=o4.set 5 (.string x.play.word)
 obtain ⟨o6,k6⟩:=o5.set 6 (.string x.before)
 obtain ⟨o7,k7⟩:=o6.set 7 (.string x.drawn)
 obtain ⟨o8,k8⟩:=o7.set 8 (.int .i64 x.score)
 obtain ⟨o9,k9⟩:=o8.set 9 (.int .i64 x.zeros)
 have GG:=(grownBy_trans (grownBy_trans (grownBy_trans (grownBy_trans (grownBy_trans (grownBy_trans (grownBy_trans (grownBy_trans (grownBy_trans k0 k1) k2) k3) k4) k5) k6) k7) k8) k9)
 have hb9:=hb.grown GG hb.size (fun q h=>by cases h;omega)
 have e0:=o9.cell (i:=0) (v:=.int .i64 x.kind) rfl
 have e1:=o9.cell (i:=1) (v:=.int .i64 x.player) rfl
 have e2:=o9.cell (i:=2) (v:=.int .i64 x.play.row) rfl
 have e3:=o9.cell (i:=3) (v:=.int .i64 x.play.col) rfl
 have e4:=o9.cell (i:=4) (v:=.bool x.play.down) rfl
 have e5:=o9.cell (i:=5) (v:=.string x.play.word) rfl
 have e6:=o9.cell (i:=6) (v:=.string x.before) rfl
 have e7:=o9.cell (i:=7) (v:=.string x.drawn) rfl
 have e8:=o9.cell (i:=8) (v:=.int .i64 x.score) rfl
 have e9:=o9.cell (i:=9) (v:=.int .i64 x.zeros) rfl
 clear GG VI VR VO hb o0 k0 o1 k1 o2 k2 o3 k3 o4 k4 o5 k5 o6 k6 o7 k7 o8 k8 o9 k9
 go_wp2
 refine bodyPost_ret (v:=.agg #[.int .i64 x.kind,.int .i64 x.player,.int .i64 x.play.row,.int .i64 x.play.col,.bool x.play.down,.string x.play.word,.string x.before,.string x.drawn,.int .i64 x.score,.int .i64 x.zeros]) (by simp [results,Tryz.results38,go_sem,e0,e1,e2,e3,e4,e5,e6,e7,e8,e9]) rfl ?_
 exact ⟨rfl,hb9⟩
theorem eqLast_any (x:Lst) (w:World) :
  Calls Tryz.prog 50 #[.agg #[.int .i64 x.kind,.int .i64 x.player,.int .i64 x.play.row,.int .i64 x.play.col,.bool x.play.down,.string x.play.word,.string x.before,.string x.drawn,.int .i64 x.score,.int .i64 x.zeros],.agg #[.int .i64 x.kind,.int .i64 x.player,.int .i64 x.play.row,.int .i64 x.play.col,.bool x.play.down,.string x.play.word,.string x.before,.string x.drawn,.int .i64 x.score,.int .i64 x.zeros]] w fun e w'=>e=.returned (.bool true)∧Below w.heap.size w w':=by
 obtain ⟨w2,hw2⟩:∃ w2,w2=(w.alloc (.cells #[.int .i64 x.kind,.int .i64 x.player,.int .i64 x.play.row,.int .i64 x.play.col,.bool x.play.down,.string x.play.word,.string x.before,.string x.drawn,.int .i64 x.score,.int .i64 x.zeros] 49)).alloc (.cells #[.int .i64 x.kind,.int .i64 x.player,.int .i64 x.play.row,.int .i64 x.play.col,.bool x.play.down,.string x.play.word,.string x.before,.string x.drawn,.int .i64 x.score,.int .i64 x.zeros] 49):=⟨_,rfl⟩
 have hb:Below w.heap.size w w2:=by rw [hw2];exact ((Below.refl _ _).alloc (Nat.le_refl _) _).alloc (by simp) _
 have VA:Hid (VarAt w2 w.heap.size 49 [.int .i64 x.kind,.int .i64 x.player,.int .i64 x.play.row,.int .i64 x.play.col,.bool x.play.down,.string x.play.word,.string x.before,.string x.drawn,.int .i64 x.score,.int .i64 x.zeros]):=by
  rw [hw2]
  exact Lh ((VarAt.new w 49 [.int .i64 x.kind,.int .i64 x.player,.int .i64 x.play.row,.int .i64 x.play.col,.bool x.play.down,.string x.play.word,.string x.before,.string x.drawn,.int .i64 x.score,.int .i64 x.zeros]).kept ((Below.refl _ _).alloc (Nat.le_refl _) _))
 have VB:Hid (VarAt w2 (w.heap.size+1) 49 [.int .i64 x.kind,.int .i64 x.player,.int .i64 x.play.row,.int .i64 x.play.col,.bool x.play.down,.string x.play.word,.string x.before,.string x.drawn,.int .i64 x.score,.int .i64 x.zeros]):=by
  rw [hw2]
  have:=VarAt.new (w.alloc (.cells #[.int .i64 x.kind,.int .i64 x.player,.int .i64 x.play.row,.int .i64 x.play.col,.bool x.play.down,.string x.play.word,.string x.before,.string x.drawn,.int .i64 x.score,.int .i64 x.zeros] 49)) 49 [.int .i64 x.kind,.int .i64 x.player,.int .i64 x.play.row,.int .i64 x.play.col,.bool x.play.down,.string x.play.word,.string x.before,.string x.drawn,.int .i64 x.score,.int .i64 x.zeros]
  simp only [World.size_alloc] at this
  exact Lh this
 have HW2:=Lh hw2;clear hw2
 go_enter Tryz.func50,Tryz.ntmps50
 go_upto_region 1 with fail
 rw [← HW2.out]
 clear HW2
 have c0:=VA.out.cell (i:=0) rfl
 have d0:=VB.out.cell (i:=0) rfl
 have c1:=VA.out.cell (i:=1) rfl
 have d1:=VB.out.cell (i:=1) rfl
 have c2:=VA.out.cell (i:=2) rfl
 have d2:=VB.out.cell (i:=2) rfl
 have c3:=VA.out.cell (i:=3) rfl
 have d3:=VB.out.cell (i:=3) rfl
 have c4:=VA.out.cell (i:=4) rfl
 have d4:=VB.out.cell (i:=4) rfl
 have c5:=VA.out.cell (i:=5) rfl
 have d5:=VB.out.cell (i:=5) rfl
 have c6:=VA.out.cell (i:=6) rfl
 have d6:=VB.out.cell (i:=6) rfl
 have c7:=VA.out.cell (i:=7) rfl
 have d7:=VB.out.cell (i:=7) rfl
 have c8:=VA.out.cell (i:=8) rfl
 have d8:=VB.out.cell (i:=8) rfl
 have c9:=VA.out.cell (i:=9) rfl
 have d9:=VB.out.cell (i:=9) rfl
 go_wp2_with fail
 refine (eqPlay_any x.play _).mono ?_
 rintro e w3 ⟨rfl,hd⟩
 replace hb:=hb.trans (hd.mono hb.size)
 replace c0:=cell_kept c0 hd
 replace d0:=cell_kept d0 hd
 replace c1:=cell_kept c1 hd
 replace d1:=cell_kept d1 hd
 replace c2:=cell_kept c2 hd
 replace d2:=cell_kept d2 hd
 replace c3:=cell_kept c3 hd
 replace d3:=cell_kept d3 hd
 replace c4:=cell_kept c4 hd
 replace d4:=cell_kept d4 hd
 replace c5:=cell_kept c5 hd
 replace d5:=cell_kept d5 hd
 replace c6:=cell_kept c6 hd
 replace d6:=cell_kept d6 hd
 replace c7:=cell_kept c7 hd
 replace d7:=cell_kept d7 hd
 replace c8:=cell_kept c8 hd
 replace d8:=cell_kept d8 hd
 replace c9:=cell_kept c9 hd
 replace d9:=cell_kept d9 hd
 clear hd
 go_wp2
 go_ret
 exact ⟨rfl,hb⟩
end Go.Proofs.YtalnbgcdhcnjfaaGreatDoor

namespace Go.Proofs.YtalnbgcdhcnjfaaGreatDoor
open Go.ChangeShapes Go.WideShapes Go.ChangeAt Go.RowKit Go.Sort

structure Gam where
 setup:Stp
 board:Brd
 bag:ByteArray
 racks:List ByteArray
 scores:List Int
 clocks:List Int
 player:Int
 zeros:Int
 last:Lst
 over:Bool
/-- where its rows lie -/
structure GaA where
 setup:StA
 racks:Rwa
 scores:Rwa
 clocks:Rwa
def Gam.At (x:Gam) (p:GaA) (w:World):Prop:=x.setup.At p.setup w∧SliceAt w 1 Tx.enc p.racks.a x.racks∧SliceAt w 1 I64.enc p.scores.a x.scores∧SliceAt w 1 I64.enc p.clocks.a x.clocks
theorem Gam.At.kept {x:Gam} {p:GaA} {w w':World} (h:x.At p w) (hb:Below w.heap.size w w'):x.At p w':=⟨Stp.At.kept h.1 hb,h.2.1.kept hb,h.2.2.1.kept hb,h.2.2.2.kept hb⟩
/-- its rows are of the call's own -/
def Gam.Own (x:Gam) (p:GaA) (base:Nat) (w:World):Prop:=x.setup.Own p.setup base w∧w.ownsRow base 9 1 (.slice p.racks.a x.racks.length p.racks.c) x.racks.length (x.racks.flatMap Tx.enc)∧w.ownsRow base 2 1 (.slice p.scores.a x.scores.length p.scores.c) x.scores.length (x.scores.flatMap I64.enc)∧w.ownsRow base 2 1 (.slice p.clocks.a x.clocks.length p.clocks.c) x.clocks.length (x.clocks.flatMap I64.enc)
theorem Gam.Own.at {x:Gam} {p:GaA} {base:Nat} {w:World} (h:x.Own p base w):x.At p w:=⟨Stp.Own.at h.1,own_slice Tx.enc_len h.2.1 rfl,own_slice I64.enc_len h.2.2.1 rfl,own_slice I64.enc_len h.2.2.2 rfl⟩
theorem Gam.Own.kept {x:Gam} {p:GaA} {base:Nat} {w w':World} (h:x.Own p base w) (hb:Below w.heap.size w w'):x.Own p base w':=⟨Stp.Own.kept h.1 hb,own_below h.2.1 hb,own_below h.2.2.1 hb,own_below h.2.2.2 hb⟩
theorem Gam.Own.mono {x:Gam} {p:GaA} {base base':Nat} {w:World} (h:x.Own p base w) (hb:base'≤base):x.Own p base' w:=⟨Stp.Own.mono h.1 hb,own_mono h.2.1 hb,own_mono h.2.2.1 hb,own_mono h.2.2.2 hb⟩
theorem Gam.Own.store {x:Gam} {p:GaA} {base g:Nat} {w w':World} (h:x.Own p base w) (hg:w.grownBy w' (some g)) (hlt:g < base):x.Own p base w':=⟨Stp.Own.store h.1 hg hlt,row_store h.2.1 hg hlt,row_store h.2.2.1 hg hlt,row_store h.2.2.2 hg hlt⟩
def Gam.fit (x:Gam):Prop:=x.setup.fit∧x.board.fit∧x.bag.size≤9223372036854775807∧(x.racks.length≤9223372036854775807∧∀ m∈x.racks,m.size≤9223372036854775807)∧x.scores.length≤9223372036854775807∧x.clocks.length≤9223372036854775807∧x.last.fit
def Gam.sz (x:Gam):Nat:=x.setup.sz+x.board.sz+x.bag.size+(x.racks.length+szAll ByteArray.size x.racks)+x.scores.length+x.clocks.length+x.last.sz
def Gam.small (x:Gam):Prop:=x.setup.small∧x.racks.length≤1048576∧x.scores.length≤1048576∧x.clocks.length≤1048576
theorem szGame_any (x:Gam) (p:GaA) (left:Int) (w:World) (ha:x.At p w) (h0:0≤left) (h1:left≤1048576) (hf:x.fit) :
  Calls Tryz.prog 12 #[.agg #[.string x.setup.tiles.letters,.slice p.setup.tiles.values.a x.setup.tiles.values.length p.setup.tiles.values.c,.slice p.setup.tiles.counts.a x.setup.tiles.counts.length p.setup.tiles.counts.c,.int .i64 x.setup.tiles.blanks,.slice p.setup.lexicon.a x.setup.lexicon.length p.setup.lexicon.c,.int .i64 x.setup.board.size,.string x.setup.board.premium,.string x.setup.board.cells,.int .i64 x.setup.seconds,.int .i64 x.setup.rule,.int .i64 x.board.size,.string x.board.premium,.string x.board.cells,.string x.bag,.slice p.racks.a x.racks.length p.racks.c,.slice p.scores.a x.scores.length p.scores.c,.slice p.clocks.a x.clocks.length p.clocks.c,.int .i64 x.player,.int .i64 x.zeros,.int .i64 x.last.kind,.int .i64 x.last.player,.int .i64 x.last.play.row,.int .i64 x.last.play.col,.bool x.last.play.down,.string x.last.play.word,.string x.last.before,.string x.last.drawn,.int .i64 x.last.score,.int .i64 x.last.zeros,.bool x.over],.int .i64 left] w (SzPost w left x.sz):=by
 have HF:=Lh hf;clear hf
 have hb:Below w.heap.size w (w.alloc (.cells #[.string x.setup.tiles.letters,.slice p.setup.tiles.values.a x.setup.tiles.values.length p.setup.tiles.values.c,.slice p.setup.tiles.counts.a x.setup.tiles.counts.length p.setup.tiles.counts.c,.int .i64 x.setup.tiles.blanks,.slice p.setup.lexicon.a x.setup.lexicon.length p.setup.lexicon.c,.int .i64 x.setup.board.size,.string x.setup.board.premium,.string x.setup.board.cells,.int .i64 x.setup.seconds,.int .i64 x.setup.rule,.int .i64 x.board.size,.string x.board.premium,.string x.board.cells,.string x.bag,.slice p.racks.a x.racks.length p.racks.c,.slice p.scores.a x.scores.length p.scores.c,.slice p.clocks.a x.clocks.length p.clocks.c,.int .i64 x.player,.int .i64 x.zeros,.int .i64 x.last.kind,.int .i64 x.last.player,.int .i64 x.last.play.row,.int .i64 x.last.play.col,.bool x.last.play.down,.string x.last.play.word,.string x.last.before,.string x.last.drawn,.int .i64 x.last.score,.int .i64 x.last.zeros,.bool x.over] 37)):=(Below.refl _ _).alloc (Nat.le_refl _) _
 have V:=Lh (VarAt.new w 37 [.string x.setup.tiles.letters,.slice p.setup.tiles.values.a x.setup.tiles.values.length p.setup.tiles.values.c,.slice p.setup.tiles.counts.a x.setup.tiles.counts.length p.setup.tiles.counts.c,.int .i64 x.setup.tiles.blanks,.slice p.setup.lexicon.a x.setup.lexicon.length p.setup.lexicon.c,.int .i64 x.setup.board.size,.string x.setup.board.premium,.string x.setup.board.cells,.int .i64 x.setup.seconds,.int .i64 x.setup.rule,.int .i64 x.board.size,.string x.board.premium,.string x.board.cells,.string x.bag,.slice p.racks.a x.racks.length p.racks.c,.slice p.scores.a x.scores.length p.scores.c,.slice p.clocks.a x.clocks.length p.clocks.c,.int .i64 x.player,.int .i64 x.zeros,.int .i64 x.last.kind,.int .i64 x.last.player,.int .i64 x.last.play.row,.int .i64 x.last.play.col,.bool x.last.play.down,.string x.last.play.word,.string x.last.before,.string x.last.drawn,.int .i64 x.last.score,.int .i64 x.last.zeros,.bool x.over])
 have HA:=Lh (ha.kept hb);clear ha
 have HZ:Hid (x.sz=x.setup.sz+x.board.sz+x.bag.size+(x.racks.length+szAll ByteArray.size x.racks)+x.scores.length+x.clocks.length+x.last.sz):=Lh rfl
 have q_bag:x.bag.size≤9223372036854775807:=HF.out.2.2.1
 have q_scores:x.scores.length≤9223372036854775807:=HF.out.2.2.2.2.1
 have q_clocks:x.clocks.length≤9223372036854775807:=HF.out.2.2.2.2.2.1
 go_enter Tryz.func12,Tryz.ntmps12
 go_upto_region 1 with fail
 generalize w.alloc (.cells #[.string x.setup.tiles.letters,.slice p.setup.tiles.values.a x.setup.tiles.values.length p.setup.tiles.values.c,.slice p.setup.tiles.counts.a x.setup.tiles.counts.length p.setup.tiles.counts.c,.int .i64 x.setup.tiles.blanks,.slice p.setup.lexicon.a x.setup.lexicon.length p.setup.lexicon.c,.int .i64 x.setup.board.size,.string x.setup.board.premium,.string x.setup.board.cells,.int .i64 x.setup.seconds,.int .i64 x.setup.rule,.int .i64 x.board.size,.string x.board.premium,.string x.board.cells,.string x.bag,.slice p.racks.a x.racks.length p.racks.c,.slice p.scores.a x.scores.length p.scores.c,.slice p.clocks.a x.clocks.length p.clocks.c,.int .i64 x.player,.int .i64 x.zeros,.int .i64 x.last.kind,.int .i64 x.last.player,.int .i64 x.last.play.row,.int .i64 x.last.play.col,.bool x.last.play.down,.string x.last.play.word,.string x.last.before,.string x.last.drawn,.int .i64 x.last.score,.int .i64 x.last.zeros,.bool x.over] 37)=w1 at *
 have c0:=V.out.cell (i:=0) rfl
 have c1:=V.out.cell (i:=1) rfl
 have c2:=V.out.cell (i:=2) rfl
 have c3:=V.out.cell (i:=3) rfl
 have c4:=V.out.cell (i:=4) rfl
 have c5:=V.out.cell (i:=5) rfl
 have c6:=V.out.cell (i:=6) rfl
 have c7:=V.out.cell (i:=7) rfl
 have c8:=V.out.cell (i:=8) rfl
 have c9:=V.out.cell (i:=9) rfl
 have c10:=V.out.cell (i:=10) rfl
 have c11:=V.out.cell (i:=11) rfl
 have c12:=V.out.cell (i:=12) rfl
 have c13:=V.out.cell (i:=13) rfl
 have c14:=V.out.cell (i:=14) rfl
 have c15:=V.out.cell (i:=15) rfl
 have c16:=V.out.cell (i:=16) rfl
 have c19:=V.out.cell (i:=19) rfl
 have c20:=V.out.cell (i:=20) rfl
 have c21:=V.out.cell (i:=21) rfl
 have c22:=V.out.cell (i:=22) rfl
 have c23:=V.out.cell (i:=23) rfl
 have c24:=V.out.cell (i:=24) rfl
 have c25:=V.out.cell (i:=25) rfl
 have c26:=V.out.cell (i:=26) rfl
 have c27:=V.out.cell (i:=27) rfl
 have c28:=V.out.cell (i:=28) rfl
 go_wp2_with fail
 refine (szSetup_any x.setup p.setup left _ (HA.out.1) (by omega) (by omega) (HF.out.1)).mono ?_
 rintro e w2 ⟨l1,rfl,z1,hd⟩
 replace hb:=hb.trans (hd.mono hb.size)
 replace c0:=cell_kept c0 hd
 replace c1:=cell_kept c1 hd
 replace c2:=cell_kept c2 hd
 replace c3:=cell_kept c3 hd
 replace c4:=cell_kept c4 hd
 replace c5:=cell_kept c5 hd
 replace c6:=cell_kept c6 hd
 replace c7:=cell_kept c7 hd
 replace c8:=cell_kept c8 hd
 replace c9:=cell_kept c9 hd
 replace c10:=cell_kept c10 hd
 replace c11:=cell_kept c11 hd
 replace c12:=cell_kept c12 hd
 replace c13:=cell_kept c13 hd
 replace c14:=cell_kept c14 hd
 replace c15:=cell_kept c15 hd
 replace c16:=cell_kept c16 hd
 replace c19:=cell_kept c19 hd
 replace c20:=cell_kept c20 hd
 replace c21:=cell_kept c21 hd
 replace c22:=cell_kept c22 hd
 replace c23:=cell_kept c23 hd
 replace c24:=cell_kept c24 hd
 replace c25:=cell_kept c25 hd
 replace c26:=cell_kept c26 hd
 replace c27:=cell_kept c27 hd
 replace c28:=cell_kept c28 hd
 replace V:=Lh (V.out.kept hd)
 replace HA:=Lh (HA.out.kept hd)
 clear hd
 rcases z1 with rfl | ⟨y1,z1⟩
 ·go_wp2
  go_ret
  exact ⟨_,rfl,.inl rfl,hb⟩
 have n1:¬ l1 < 0:=by omega
 go_wp2_with fail
 refine (szBoard_any x.board l1 _ (by omega) (by omega) (HF.out.2.1)).mono ?_
 rintro e w3 ⟨l2,rfl,z2,hd⟩
 replace hb:=hb.trans (hd.mono hb.size)
 replace c0:=cell_kept c0 hd
 replace c1:=cell_kept c1 hd
 replace c2:=cell_kept c2 hd
 replace c3:=cell_kept c3 hd
 replace c4:=cell_kept c4 hd
 replace c5:=cell_kept c5 hd
 replace c6:=cell_kept c6 hd
 replace c7:=cell_kept c7 hd
 replace c8:=cell_kept c8 hd
 replace c9:=cell_kept c9 hd
 replace c10:=cell_kept c10 hd
 replace c11:=cell_kept c11 hd
 replace c12:=cell_kept c12 hd
 replace c13:=cell_kept c13 hd
 replace c14:=cell_kept c14 hd
 replace c15:=cell_kept c15 hd
 replace c16:=cell_kept c16 hd
 replace c19:=cell_kept c19 hd
 replace c20:=cell_kept c20 hd
 replace c21:=cell_kept c21 hd
 replace c22:=cell_kept c22 hd
 replace c23:=cell_kept c23 hd
 replace c24:=cell_kept c24 hd
 replace c25:=cell_kept c25 hd
 replace c26:=cell_kept c26 hd
 replace c27:=cell_kept c27 hd
 replace c28:=cell_kept c28 hd
 replace V:=Lh (V.out.kept hd)
 replace HA:=Lh (HA.out.kept hd)
 clear hd
 rcases z2 with rfl | ⟨y2,z2⟩
 ·go_wp2
  go_ret
  exact ⟨_,rfl,.inl rfl,hb⟩
 have n2:¬ l2 < 0:=by omega
 by_cases g_bag:l2 - x.bag.size < 0
 ·go_wp2
  go_ret
  exact ⟨_,rfl,.inl rfl,hb⟩
 go_wp2_with fail
 refine (szStringS_any x.racks p.racks.a p.racks.c (l2 - x.bag.size) _ (HA.out.2.1) HF.out.2.2.2.1.1 HF.out.2.2.2.1.2 (by omega) (by omega)).mono ?_
 rintro e w4 ⟨l3,rfl,z3,hd⟩
 replace hb:=hb.trans (hd.mono hb.size)
 replace c0:=cell_kept c0 hd
 replace c1:=cell_kept c1 hd
 replace c2:=cell_kept c2 hd
 replace c3:=cell_kept c3 hd
 replace c4:=cell_kept c4 hd
 replace c5:=cell_kept c5 hd
 replace c6:=cell_kept c6 hd
 replace c7:=cell_kept c7 hd
 replace c8:=cell_kept c8 hd
 replace c9:=cell_kept c9 hd
 replace c10:=cell_kept c10 hd
 replace c11:=cell_kept c11 hd
 replace c12:=cell_kept c12 hd
 replace c13:=cell_kept c13 hd
 replace c14:=cell_kept c14 hd
 replace c15:=cell_kept c15 hd
 replace c16:=cell_kept c16 hd
 replace c19:=cell_kept c19 hd
 replace c20:=cell_kept c20 hd
 replace c21:=cell_kept c21 hd
 replace c22:=cell_kept c22 hd
 replace c23:=cell_kept c23 hd
 replace c24:=cell_kept c24 hd
 replace c25:=cell_kept c25 hd
 replace c26:=cell_kept c26 hd
 replace c27:=cell_kept c27 hd
 replace c28:=cell_kept c28 hd
 replace V:=Lh (V.out.kept hd)
 replace HA:=Lh (HA.out.kept hd)
 clear hd
 rcases z3 with rfl | ⟨y3,z3⟩
 ·go_wp2
  go_ret
  exact ⟨_,rfl,.inl rfl,hb⟩
 have n3:¬ l3 < 0:=by omega
 go_wp2_with fail
 refine (szInt64S_any x.scores p.scores.a p.scores.c l3 _ q_scores (by omega) (by omega)).mono ?_
 rintro e w5 ⟨l4,rfl,z4,hd⟩
 replace hb:=hb.trans (hd.mono hb.size)
 replace c0:=cell_kept c0 hd
 replace c1:=cell_kept c1 hd
 replace c2:=cell_kept c2 hd
 replace c3:=cell_kept c3 hd
 replace c4:=cell_kept c4 hd
 replace c5:=cell_kept c5 hd
 replace c6:=cell_kept c6 hd
 replace c7:=cell_kept c7 hd
 replace c8:=cell_kept c8 hd
 replace c9:=cell_kept c9 hd
 replace c10:=cell_kept c10 hd
 replace c11:=cell_kept c11 hd
 replace c12:=cell_kept c12 hd
 replace c13:=cell_kept c13 hd
 replace c14:=cell_kept c14 hd
 replace c15:=cell_kept c15 hd
 replace c16:=cell_kept c16 hd
 replace c19:=cell_kept c19 hd
 replace c20:=cell_kept c20 hd
 replace c21:=cell_kept c21 hd
 replace c22:=cell_kept c22 hd
 replace c23:=cell_kept c23 hd
 replace c24:=cell_kept c24 hd
 replace c25:=cell_kept c25 hd
 replace c26:=cell_kept c26 hd
 replace c27:=cell_kept c27 hd
 replace c28:=cell_kept c28 hd
 replace V:=Lh (V.out.kept hd)
 replace HA:=Lh (HA.out.kept hd)
 clear hd
 rcases z4 with rfl | ⟨y4,z4⟩
 ·go_wp2
  go_ret
  exact ⟨_,rfl,.inl rfl,hb⟩
 have n4:¬ l4 < 0:=by omega
 go_wp2_with fail
 refine (szInt64S_any x.clocks p.clocks.a p.clocks.c l4 _ q_clocks (by omega) (by omega)).mono ?_
 rintro e w6 ⟨l5,rfl,z5,hd⟩
 replace hb:=hb.trans (hd.mono hb.size)
 replace c0:=cell_kept c0 hd
 replace c1:=cell_kept c1 hd
 replace c2:=cell_kept c2 hd
 replace c3:=cell_kept c3 hd
 replace c4:=cell_kept c4 hd
 replace c5:=cell_kept c5 hd
 replace c6:=cell_kept c6 hd
 replace c7:=cell_kept c7 hd
 replace c8:=cell_kept c8 hd
 replace c9:=cell_kept c9 hd
 replace c10:=cell_kept c10 hd
 replace c11:=cell_kept c11 hd
 replace c12:=cell_kept c12 hd
 replace c13:=cell_kept c13 hd
 replace c14:=cell_kept c14 hd
 replace c15:=cell_kept c15 hd
 replace c16:=cell_kept c16 hd
 replace c19:=cell_kept c19 hd
 replace c20:=cell_kept c20 hd
 replace c21:=cell_kept c21 hd
 replace c22:=cell_kept c22 hd
 replace c23:=cell_kept c23 hd
 replace c24:=cell_kept c24 hd
 replace c25:=cell_kept c25 hd
 replace c26:=cell_kept c26 hd
 replace c27:=cell_kept c27 hd
 replace c28:=cell_kept c28 hd
 replace V:=Lh (V.out.kept hd)
 replace HA:=Lh (HA.out.kept hd)
 clear hd
 rcases z5 with rfl | ⟨y5,z5⟩
 ·go_wp2
  go_ret
  exact ⟨_,rfl,.inl rfl,hb⟩
 have n5:¬ l5 < 0:=by omega
 go_wp2_with fail
 refine (szLast_any x.last l5 _ (by omega) (by omega) (HF.out.2.2.2.2.2.2)).mono ?_
 rintro e w7 ⟨l6,rfl,z6,hd⟩
 replace hb:=hb.trans (hd.mono hb.size)
 replace c0:=cell_kept c0 hd
 replace c1:=cell_kept c1 hd
 replace c2:=cell_kept c2 hd
 replace c3:=cell_kept c3 hd
 replace c4:=cell_kept c4 hd
 replace c5:=cell_kept c5 hd
 replace c6:=cell_kept c6 hd
 replace c7:=cell_kept c7 hd
 replace c8:=cell_kept c8 hd
 replace c9:=cell_kept c9 hd
 replace c10:=cell_kept c10 hd
 replace c11:=cell_kept c11 hd
 replace c12:=cell_kept c12 hd
 replace c13:=cell_kept c13 hd
 replace c14:=cell_kept c14 hd
 replace c15:=cell_kept c15 hd
 replace c16:=cell_kept c16 hd
 replace c19:=cell_kept c19 hd
 replace c20:=cell_kept c20 hd
 replace c21:=cell_kept c21 hd
 replace c22:=cell_kept c22 hd
 replace c23:=cell_kept c23 hd
 replace c24:=cell_kept c24 hd
 replace c25:=cell_kept c25 hd
 replace c26:=cell_kept c26 hd
 replace c27:=cell_kept c27 hd
 replace c28:=cell_kept c28 hd
 replace V:=Lh (V.out.kept hd)
 replace HA:=Lh (HA.out.kept hd)
 clear hd
 rcases z6 with rfl | ⟨y6,z6⟩
 ·go_wp2
  go_ret
  exact ⟨_,rfl,.inl rfl,hb⟩
 have n6:¬ l6 < 0:=by omega
 skip
 go_wp2
 go_ret
 exact ⟨_,rfl,.inr ⟨by omega,by rw [HZ.out];push_cast;omega⟩,hb⟩
theorem eqGame_any (x:Gam) (p q:GaA) (w:World) (ha:x.At p w) (hc:x.At q w) (hf:x.fit) :
  Calls Tryz.prog 16 #[.agg #[.string x.setup.tiles.letters,.slice p.setup.tiles.values.a x.setup.tiles.values.length p.setup.tiles.values.c,.slice p.setup.tiles.counts.a x.setup.tiles.counts.length p.setup.tiles.counts.c,.int .i64 x.setup.tiles.blanks,.slice p.setup.lexicon.a x.setup.lexicon.length p.setup.lexicon.c,.int .i64 x.setup.board.size,.string x.setup.board.premium,.string x.setup.board.cells,.int .i64 x.setup.seconds,.int .i64 x.setup.rule,.int .i64 x.board.size,.string x.board.premium,.string x.board.cells,.string x.bag,.slice p.racks.a x.racks.length p.racks.c,.slice p.scores.a x.scores.length p.scores.c,.slice p.clocks.a x.clocks.length p.clocks.c,.int .i64 x.player,.int .i64 x.zeros,.int .i64 x.last.kind,.int .i64 x.last.player,.int .i64 x.last.play.row,.int .i64 x.last.play.col,.bool x.last.play.down,.string x.last.play.word,.string x.last.before,.string x.last.drawn,.int .i64 x.last.score,.int .i64 x.last.zeros,.bool x.over],.agg #[.string x.setup.tiles.letters,.slice q.setup.tiles.values.a x.setup.tiles.values.length q.setup.tiles.values.c,.slice q.setup.tiles.counts.a x.setup.tiles.counts.length q.setup.tiles.counts.c,.int .i64 x.setup.tiles.blanks,.slice q.setup.lexicon.a x.setup.lexicon.length q.setup.lexicon.c,.int .i64 x.setup.board.size,.string x.setup.board.premium,.string x.setup.board.cells,.int .i64 x.setup.seconds,.int .i64 x.setup.rule,.int .i64 x.board.size,.string x.board.premium,.string x.board.cells,.string x.bag,.slice q.racks.a x.racks.length q.racks.c,.slice q.scores.a x.scores.length q.scores.c,.slice q.clocks.a x.clocks.length q.clocks.c,.int .i64 x.player,.int .i64 x.zeros,.int .i64 x.last.kind,.int .i64 x.last.player,.int .i64 x.last.play.row,.int .i64 x.last.play.col,.bool x.last.play.down,.string x.last.play.word,.string x.last.before,.string x.last.drawn,.int .i64 x.last.score,.int .i64 x.last.zeros,.bool x.over]] w fun e w'=>e=.returned (.bool true)∧Below w.heap.size w w':=by
 have HF:=Lh hf;clear hf
 obtain ⟨w2,hw2⟩:∃ w2,w2=(w.alloc (.cells #[.string x.setup.tiles.letters,.slice p.setup.tiles.values.a x.setup.tiles.values.length p.setup.tiles.values.c,.slice p.setup.tiles.counts.a x.setup.tiles.counts.length p.setup.tiles.counts.c,.int .i64 x.setup.tiles.blanks,.slice p.setup.lexicon.a x.setup.lexicon.length p.setup.lexicon.c,.int .i64 x.setup.board.size,.string x.setup.board.premium,.string x.setup.board.cells,.int .i64 x.setup.seconds,.int .i64 x.setup.rule,.int .i64 x.board.size,.string x.board.premium,.string x.board.cells,.string x.bag,.slice p.racks.a x.racks.length p.racks.c,.slice p.scores.a x.scores.length p.scores.c,.slice p.clocks.a x.clocks.length p.clocks.c,.int .i64 x.player,.int .i64 x.zeros,.int .i64 x.last.kind,.int .i64 x.last.player,.int .i64 x.last.play.row,.int .i64 x.last.play.col,.bool x.last.play.down,.string x.last.play.word,.string x.last.before,.string x.last.drawn,.int .i64 x.last.score,.int .i64 x.last.zeros,.bool x.over] 51)).alloc (.cells #[.string x.setup.tiles.letters,.slice q.setup.tiles.values.a x.setup.tiles.values.length q.setup.tiles.values.c,.slice q.setup.tiles.counts.a x.setup.tiles.counts.length q.setup.tiles.counts.c,.int .i64 x.setup.tiles.blanks,.slice q.setup.lexicon.a x.setup.lexicon.length q.setup.lexicon.c,.int .i64 x.setup.board.size,.string x.setup.board.premium,.string x.setup.board.cells,.int .i64 x.setup.seconds,.int .i64 x.setup.rule,.int .i64 x.board.size,.string x.board.premium,.string x.board.cells,.string x.bag,.slice q.racks.a x.racks.length q.racks.c,.slice q.scores.a x.scores.length q.scores.c,.slice q.clocks.a x.clocks.length q.clocks.c,.int .i64 x.player,.int .i64 x.zeros,.int .i64 x.last.kind,.int .i64 x.last.player,.int .i64 x.last.play.row,.int .i64 x.last.play.col,.bool x.last.play.down,.string x.last.play.word,.string x.last.before,.string x.last.drawn,.int .i64 x.last.score,.int .i64 x.last.zeros,.bool x.over] 51):=⟨_,rfl⟩
 have hb:Below w.heap.size w w2:=by rw [hw2];exact ((Below.refl _ _).alloc (Nat.le_refl _) _).alloc (by simp) _
 have VA:Hid (VarAt w2 w.heap.size 51 [.string x.setup.tiles.letters,.slice p.setup.tiles.values.a x.setup.tiles.values.length p.setup.tiles.values.c,.slice p.setup.tiles.counts.a x.setup.tiles.counts.length p.setup.tiles.counts.c,.int .i64 x.setup.tiles.blanks,.slice p.setup.lexicon.a x.setup.lexicon.length p.setup.lexicon.c,.int .i64 x.setup.board.size,.string x.setup.board.premium,.string x.setup.board.cells,.int .i64 x.setup.seconds,.int .i64 x.setup.rule,.int .i64 x.board.size,.string x.board.premium,.string x.board.cells,.string x.bag,.slice p.racks.a x.racks.length p.racks.c,.slice p.scores.a x.scores.length p.scores.c,.slice p.clocks.a x.clocks.length p.clocks.c,.int .i64 x.player,.int .i64 x.zeros,.int .i64 x.last.kind,.int .i64 x.last.player,.int .i64 x.last.play.row,.int .i64 x.last.play.col,.bool x.last.play.down,.string x.last.play.word,.string x.last.before,.string x.last.drawn,.int .i64 x.last.score,.int .i64 x.last.zeros,.bool x.over]):=by
  rw [hw2]
  exact Lh ((VarAt.new w 51 [.string x.setup.tiles.letters,.slice p.setup.tiles.values.a x.setup.tiles.values.length p.setup.tiles.values.c,.slice p.setup.tiles.counts.a x.setup.tiles.counts.length p.setup.tiles.counts.c,.int .i64 x.setup.tiles.blanks,.slice p.setup.lexicon.a x.setup.lexicon.length p.setup.lexicon.c,.int .i64 x.setup.board.size,.string x.setup.board.premium,.string x.setup.board.cells,.int .i64 x.setup.seconds,.int .i64 x.setup.rule,.int .i64 x.board.size,.string x.board.premium,.string x.board.cells,.string x.bag,.slice p.racks.a x.racks.length p.racks.c,.slice p.scores.a x.scores.length p.scores.c,.slice p.clocks.a x.clocks.length p.clocks.c,.int .i64 x.player,.int .i64 x.zeros,.int .i64 x.last.kind,.int .i64 x.last.player,.int .i64 x.last.play.row,.int .i64 x.last.play.col,.bool x.last.play.down,.string x.last.play.word,.string x.last.before,.string x.last.drawn,.int .i64 x.last.score,.int .i64 x.last.zeros,.bool x.over]).kept ((Below.refl _ _).alloc (Nat.le_refl _) _))
 have VB:Hid (VarAt w2 (w.heap.size+1) 51 [.string x.setup.tiles.letters,.slice q.setup.tiles.values.a x.setup.tiles.values.length q.setup.tiles.values.c,.slice q.setup.tiles.counts.a x.setup.tiles.counts.length q.setup.tiles.counts.c,.int .i64 x.setup.tiles.blanks,.slice q.setup.lexicon.a x.setup.lexicon.length q.setup.lexicon.c,.int .i64 x.setup.board.size,.string x.setup.board.premium,.string x.setup.board.cells,.int .i64 x.setup.seconds,.int .i64 x.setup.rule,.int .i64 x.board.size,.string x.board.premium,.string x.board.cells,.string x.bag,.slice q.racks.a x.racks.length q.racks.c,.slice q.scores.a x.scores.length q.scores.c,.slice q.clocks.a x.clocks.length q.clocks.c,.int .i64 x.player,.int .i64 x.zeros,.int .i64 x.last.kind,.int .i64 x.last.player,.int .i64 x.last.play.row,.int .i64 x.last.play.col,.bool x.last.play.down,.string x.last.play.word,.string x.last.before,.string x.last.drawn,.int .i64 x.last.score,.int .i64 x.last.zeros,.bool x.over]):=by
  rw [hw2]
  have:=VarAt.new (w.alloc (.cells #[.string x.setup.tiles.letters,.slice p.setup.tiles.values.a x.setup.tiles.values.length p.setup.tiles.values.c,.slice p.setup.tiles.counts.a x.setup.tiles.counts.length p.setup.tiles.counts.c,.int .i64 x.setup.tiles.blanks,.slice p.setup.lexicon.a x.setup.lexicon.length p.setup.lexicon.c,.int .i64 x.setup.board.size,.string x.setup.board.premium,.string x.setup.board.cells,.int .i64 x.setup.seconds,.int .i64 x.setup.rule,.int .i64 x.board.size,.string x.board.premium,.string x.board.cells,.string x.bag,.slice p.racks.a x.racks.length p.racks.c,.slice p.scores.a x.scores.length p.scores.c,.slice p.clocks.a x.clocks.length p.clocks.c,.int .i64 x.player,.int .i64 x.zeros,.int .i64 x.last.kind,.int .i64 x.last.player,.int .i64 x.last.play.row,.int .i64 x.last.play.col,.bool x.last.play.down,.string x.last.play.word,.string x.last.before,.string x.last.drawn,.int .i64 x.last.score,.int .i64 x.last.zeros,.bool x.over] 51)) 51 [.string x.setup.tiles.letters,.slice q.setup.tiles.values.a x.setup.tiles.values.length q.setup.tiles.values.c,.slice q.setup.tiles.counts.a x.setup.tiles.counts.length q.setup.tiles.counts.c,.int .i64 x.setup.tiles.blanks,.slice q.setup.lexicon.a x.setup.lexicon.length q.setup.lexicon.c,.int .i64 x.setup.board.size,.string x.setup.board.premium,.string x.setup.board.cells,.int .i64 x.setup.seconds,.int .i64 x.setup.rule,.int .i64 x.board.size,.string x.board.premium,.string x.board.cells,.string x.bag,.slice q.racks.a x.racks.length q.racks.c,.slice q.scores.a x.scores.length q.scores.c,.slice q.clocks.a x.clocks.length q.clocks.c,.int .i64 x.player,.int .i64 x.zeros,.int .i64 x.last.kind,.int .i64 x.last.player,.int .i64 x.last.play.row,.int .i64 x.last.play.col,.bool x.last.play.down,.string x.last.play.word,.string x.last.before,.string x.last.drawn,.int .i64 x.last.score,.int .i64 x.last.zeros,.bool x.over]
  simp only [World.size_alloc] at this
  exact Lh this
 have HA:=Lh ha;clear ha
 have HC:=Lh hc;clear hc
 have HW2:=Lh hw2;clear hw2
 go_enter Tryz.func16,Tryz.ntmps16
 go_upto_region 1 with fail
 rw [← HW2.out]
 clear HW2
 have c0:=VA.out.cell (i:=0) rfl
 have d0:=VB.out.cell (i:=0) rfl
 have c1:=VA.out.cell (i:=1) rfl
 have d1:=VB.out.cell (i:=1) rfl
 have c2:=VA.out.cell (i:=2) rfl
 have d2:=VB.out.cell (i:=2) rfl
 have c3:=VA.out.cell (i:=3) rfl
 have d3:=VB.out.cell (i:=3) rfl
 have c4:=VA.out.cell (i:=4) rfl
 have d4:=VB.out.cell (i:=4) rfl
 have c5:=VA.out.cell (i:=5) rfl
 have d5:=VB.out.cell (i:=5) rfl
 have c6:=VA.out.cell (i:=6) rfl
 have d6:=VB.out.cell (i:=6) rfl
 have c7:=VA.out.cell (i:=7) rfl
 have d7:=VB.out.cell (i:=7) rfl
 have c8:=VA.out.cell (i:=8) rfl
 have d8:=VB.out.cell (i:=8) rfl
 have c9:=VA.out.cell (i:=9) rfl
 have d9:=VB.out.cell (i:=9) rfl
 have c10:=VA.out.cell (i:=10) rfl
 have d10:=VB.out.cell (i:=10) rfl
 have c11:=VA.out.cell (i:=11) rfl
 have d11:=VB.out.cell (i:=11) rfl
 have c12:=VA.out.cell (i:=12) rfl
 have d12:=VB.out.cell (i:=12) rfl
 have c13:=VA.out.cell (i:=13) rfl
 have d13:=VB.out.cell (i:=13) rfl
 have c14:=VA.out.cell (i:=14) rfl
 have d14:=VB.out.cell (i:=14) rfl
 have c15:=VA.out.cell (i:=15) rfl
 have d15:=VB.out.cell (i:=15) rfl
 have c16:=VA.out.cell (i:=16) rfl
 have d16:=VB.out.cell (i:=16) rfl
 have c17:=VA.out.cell (i:=17) rfl
 have d17:=VB.out.cell (i:=17) rfl
 have c18:=VA.out.cell (i:=18) rfl
 have d18:=VB.out.cell (i:=18) rfl
 have c19:=VA.out.cell (i:=19) rfl
 have d19:=VB.out.cell (i:=19) rfl
 have c20:=VA.out.cell (i:=20) rfl
 have d20:=VB.out.cell (i:=20) rfl
 have c21:=VA.out.cell (i:=21) rfl
 have d21:=VB.out.cell (i:=21) rfl
 have c22:=VA.out.cell (i:=22) rfl
 have d22:=VB.out.cell (i:=22) rfl
 have c23:=VA.out.cell (i:=23) rfl
 have d23:=VB.out.cell (i:=23) rfl
 have c24:=VA.out.cell (i:=24) rfl
 have d24:=VB.out.cell (i:=24) rfl
 have c25:=VA.out.cell (i:=25) rfl
 have d25:=VB.out.cell (i:=25) rfl
 have c26:=VA.out.cell (i:=26) rfl
 have d26:=VB.out.cell (i:=26) rfl
 have c27:=VA.out.cell (i:=27) rfl
 have d27:=VB.out.cell (i:=27) rfl
 have c28:=VA.out.cell (i:=28) rfl
 have d28:=VB.out.cell (i:=28) rfl
 have c29:=VA.out.cell (i:=29) rfl
 have d29:=VB.out.cell (i:=29) rfl
 go_wp2_with fail
 refine (eqSetup_any x.setup p.setup q.setup _ (Stp.At.kept HA.out.1 hb) (Stp.At.kept HC.out.1 hb) (HF.out.1)).mono ?_
 rintro e w3 ⟨rfl,hd⟩
 replace hb:=hb.trans (hd.mono hb.size)
 replace c0:=cell_kept c0 hd
 replace d0:=cell_kept d0 hd
 replace c1:=cell_kept c1 hd
 replace d1:=cell_kept d1 hd
 replace c2:=cell_kept c2 hd
 replace d2:=cell_kept d2 hd
 replace c3:=cell_kept c3 hd
 replace d3:=cell_kept d3 hd
 replace c4:=cell_kept c4 hd
 replace d4:=cell_kept d4 hd
 replace c5:=cell_kept c5 hd
 replace d5:=cell_kept d5 hd
 replace c6:=cell_kept c6 hd
 replace d6:=cell_kept d6 hd
 replace c7:=cell_kept c7 hd
 replace d7:=cell_kept d7 hd
 replace c8:=cell_kept c8 hd
 replace d8:=cell_kept d8 hd
 replace c9:=cell_kept c9 hd
 replace d9:=cell_kept d9 hd
 replace c10:=cell_kept c10 hd
 replace d10:=cell_kept d10 hd
 replace c11:=cell_kept c11 hd
 replace d11:=cell_kept d11 hd
 replace c12:=cell_kept c12 hd
 replace d12:=cell_kept d12 hd
 replace c13:=cell_kept c13 hd
 replace d13:=cell_kept d13 hd
 replace c14:=cell_kept c14 hd
 replace d14:=cell_kept d14 hd
 replace c15:=cell_kept c15 hd
 replace d15:=cell_kept d15 hd
 replace c16:=cell_kept c16 hd
 replace d16:=cell_kept d16 hd
 replace c17:=cell_kept c17 hd
 replace d17:=cell_kept d17 hd
 replace c18:=cell_kept c18 hd
 replace d18:=cell_kept d18 hd
 replace c19:=cell_kept c19 hd
 replace d19:=cell_kept d19 hd
 replace c20:=cell_kept c20 hd
 replace d20:=cell_kept d20 hd
 replace c21:=cell_kept c21 hd
 replace d21:=cell_kept d21 hd
 replace c22:=cell_kept c22 hd
 replace d22:=cell_kept d22 hd
 replace c23:=cell_kept c23 hd
 replace d23:=cell_kept d23 hd
 replace c24:=cell_kept c24 hd
 replace d24:=cell_kept d24 hd
 replace c25:=cell_kept c25 hd
 replace d25:=cell_kept d25 hd
 replace c26:=cell_kept c26 hd
 replace d26:=cell_kept d26 hd
 replace c27:=cell_kept c27 hd
 replace d27:=cell_kept d27 hd
 replace c28:=cell_kept c28 hd
 replace d28:=cell_kept d28 hd
 replace c29:=cell_kept c29 hd
 replace d29:=cell_kept d29 hd
 clear hd
 go_wp2_with fail
 refine (eqBoard_any x.board _).mono ?_
 rintro e w4 ⟨rfl,hd⟩
 replace hb:=hb.trans (hd.mono hb.size)
 replace c0:=cell_kept c0 hd
 replace d0:=cell_kept d0 hd
 replace c1:=cell_kept c1 hd
 replace d1:=cell_kept d1 hd
 replace c2:=cell_kept c2 hd
 replace d2:=cell_kept d2 hd
 replace c3:=cell_kept c3 hd
 replace d3:=cell_kept d3 hd
 replace c4:=cell_kept c4 hd
 replace d4:=cell_kept d4 hd
 replace c5:=cell_kept c5 hd
 replace d5:=cell_kept d5 hd
 replace c6:=cell_kept c6 hd
 replace d6:=cell_kept d6 hd
 replace c7:=cell_kept c7 hd
 replace d7:=cell_kept d7 hd
 replace c8:=cell_kept c8 hd
 replace d8:=cell_kept d8 hd
 replace c9:=cell_kept c9 hd
 replace d9:=cell_kept d9 hd
 replace c10:=cell_kept c10 hd
 replace d10:=cell_kept d10 hd
 replace c11:=cell_kept c11 hd
 replace d11:=cell_kept d11 hd
 replace c12:=cell_kept c12 hd
 replace d12:=cell_kept d12 hd
 replace c13:=cell_kept c13 hd
 replace d13:=cell_kept d13 hd
 replace c14:=cell_kept c14 hd
 replace d14:=cell_kept d14 hd
 replace c15:=cell_kept c15 hd
 replace d15:=cell_kept d15 hd
 replace c16:=cell_kept c16 hd
 replace d16:=cell_kept d16 hd
 replace c17:=cell_kept c17 hd
 replace d17:=cell_kept d17 hd
 replace c18:=cell_kept c18 hd
 replace d18:=cell_kept d18 hd
 replace c19:=cell_kept c19 hd
 replace d19:=cell_kept d19 hd
 replace c20:=cell_kept c20 hd
 replace d20:=cell_kept d20 hd
 replace c21:=cell_kept c21 hd
 replace d21:=cell_kept d21 hd
 replace c22:=cell_kept c22 hd
 replace d22:=cell_kept d22 hd
 replace c23:=cell_kept c23 hd
 replace d23:=cell_kept d23 hd
 replace c24:=cell_kept c24 hd
 replace d24:=cell_kept d24 hd
 replace c25:=cell_kept c25 hd
 replace d25:=cell_kept d25 hd
 replace c26:=cell_kept c26 hd
 replace d26:=cell_kept d26 hd
 replace c27:=cell_kept c27 hd
 replace d27:=cell_kept d27 hd
 replace c28:=cell_kept c28 hd
 replace d28:=cell_kept d28 hd
 replace c29:=cell_kept c29 hd
 replace d29:=cell_kept d29 hd
 clear hd
 go_wp2_with fail
 refine (eqStringS_any x.racks p.racks.a q.racks.a p.racks.c q.racks.c _ ((HA.out.2.1).kept hb) ((HC.out.2.1).kept hb) HF.out.2.2.2.1.1).mono ?_
 rintro e w5 ⟨rfl,hd⟩
 replace hb:=hb.trans (hd.mono hb.size)
 replace c0:=cell_kept c0 hd
 replace d0:=cell_kept d0 hd
 replace c1:=cell_kept c1 hd
 replace d1:=cell_kept d1 hd
 replace c2:=cell_kept c2 hd
 replace d2:=cell_kept d2 hd
 replace c3:=cell_kept c3 hd
 replace d3:=cell_kept d3 hd
 replace c4:=cell_kept c4 hd
 replace d4:=cell_kept d4 hd
 replace c5:=cell_kept c5 hd
 replace d5:=cell_kept d5 hd
 replace c6:=cell_kept c6 hd
 replace d6:=cell_kept d6 hd
 replace c7:=cell_kept c7 hd
 replace d7:=cell_kept d7 hd
 replace c8:=cell_kept c8 hd
 replace d8:=cell_kept d8 hd
 replace c9:=cell_kept c9 hd
 replace d9:=cell_kept d9 hd
 replace c10:=cell_kept c10 hd
 replace d10:=cell_kept d10 hd
 replace c11:=cell_kept c11 hd
 replace d11:=cell_kept d11 hd
 replace c12:=cell_kept c12 hd
 replace d12:=cell_kept d12 hd
 replace c13:=cell_kept c13 hd
 replace d13:=cell_kept d13 hd
 replace c14:=cell_kept c14 hd
 replace d14:=cell_kept d14 hd
 replace c15:=cell_kept c15 hd
 replace d15:=cell_kept d15 hd
 replace c16:=cell_kept c16 hd
 replace d16:=cell_kept d16 hd
 replace c17:=cell_kept c17 hd
 replace d17:=cell_kept d17 hd
 replace c18:=cell_kept c18 hd
 replace d18:=cell_kept d18 hd
 replace c19:=cell_kept c19 hd
 replace d19:=cell_kept d19 hd
 replace c20:=cell_kept c20 hd
 replace d20:=cell_kept d20 hd
 replace c21:=cell_kept c21 hd
 replace d21:=cell_kept d21 hd
 replace c22:=cell_kept c22 hd
 replace d22:=cell_kept d22 hd
 replace c23:=cell_kept c23 hd
 replace d23:=cell_kept d23 hd
 replace c24:=cell_kept c24 hd
 replace d24:=cell_kept d24 hd
 replace c25:=cell_kept c25 hd
 replace d25:=cell_kept d25 hd
 replace c26:=cell_kept c26 hd
 replace d26:=cell_kept d26 hd
 replace c27:=cell_kept c27 hd
 replace d27:=cell_kept d27 hd
 replace c28:=cell_kept c28 hd
 replace d28:=cell_kept d28 hd
 replace c29:=cell_kept c29 hd
 replace d29:=cell_kept d29 hd
 clear hd
 go_wp2_with fail
 refine (eqInt64S_any x.scores p.scores.a q.scores.a p.scores.c q.scores.c _ ((HA.out.2.2.1).kept hb) ((HC.out.2.2.1).kept hb) HF.out.2.2.2.2.1).mono ?_
 rintro e w6 ⟨rfl,hd⟩
 replace hb:=hb.trans (hd.mono hb.size)
 replace c0:=cell_kept c0 hd
 replace d0:=cell_kept d0 hd
 replace c1:=cell_kept c1 hd
 replace d1:=cell_kept d1 hd
 replace c2:=cell_kept c2 hd
 replace d2:=cell_kept d2 hd
 replace c3:=cell_kept c3 hd
 replace d3:=cell_kept d3 hd
 replace c4:=cell_kept c4 hd
 replace d4:=cell_kept d4 hd
 replace c5:=cell_kept c5 hd
 replace d5:=cell_kept d5 hd
 replace c6:=cell_kept c6 hd
 replace d6:=cell_kept d6 hd
 replace c7:=cell_kept c7 hd
 replace d7:=cell_kept d7 hd
 replace c8:=cell_kept c8 hd
 replace d8:=cell_kept d8 hd
 replace c9:=cell_kept c9 hd
 replace d9:=cell_kept d9 hd
 replace c10:=cell_kept c10 hd
 replace d10:=cell_kept d10 hd
 replace c11:=cell_kept c11 hd
 replace d11:=cell_kept d11 hd
 replace c12:=cell_kept c12 hd
 replace d12:=cell_kept d12 hd
 replace c13:=cell_kept c13 hd
 replace d13:=cell_kept d13 hd
 replace c14:=cell_kept c14 hd
 replace d14:=cell_kept d14 hd
 replace c15:=cell_kept c15 hd
 replace d15:=cell_kept d15 hd
 replace c16:=cell_kept c16 hd
 replace d16:=cell_kept d16 hd
 replace c17:=cell_kept c17 hd
 replace d17:=cell_kept d17 hd
 replace c18:=cell_kept c18 hd
 replace d18:=cell_kept d18 hd
 replace c19:=cell_kept c19 hd
 replace d19:=cell_kept d19 hd
 replace c20:=cell_kept c20 hd
 replace d20:=cell_kept d20 hd
 replace c21:=cell_kept c21 hd
 replace d21:=cell_kept d21 hd
 replace c22:=cell_kept c22 hd
 replace d22:=cell_kept d22 hd
 replace c23:=cell_kept c23 hd
 replace d23:=cell_kept d23 hd
 replace c24:=cell_kept c24 hd
 replace d24:=cell_kept d24 hd
 replace c25:=cell_kept c25 hd
 replace d25:=cell_kept d25 hd
 replace c26:=cell_kept c26 hd
 replace d26:=cell_kept d26 hd
 replace c27:=cell_kept c27 hd
 replace d27:=cell_kept d27 hd
 replace c28:=cell_kept c28 hd
 replace d28:=cell_kept d28 hd
 replace c29:=cell_kept c29 hd
 replace d29:=cell_kept d29 hd
 clear hd
 go_wp2_with fail
 refine (eqInt64S_any x.clocks p.clocks.a q.clocks.a p.clocks.c q.clocks.c _ ((HA.out.2.2.2).kept hb) ((HC.out.2.2.2).kept hb) HF.out.2.2.2.2.2.1).mono ?_
 rintro e w7 ⟨rfl,hd⟩
 replace hb:=hb.trans (hd.mono hb.size)
 replace c0:=cell_kept c0 hd
 replace d0:=cell_kept d0 hd
 replace c1:=cell_kept c1 hd
 replace d1:=cell_kept d1 hd
 replace c2:=cell_kept c2 hd
 replace d2:=cell_kept d2 hd
 replace c3:=cell_kept c3 hd
 replace d3:=cell_kept d3 hd
 replace c4:=cell_kept c4 hd
 replace d4:=cell_kept d4 hd
 replace c5:=cell_kept c5 hd
 replace d5:=cell_kept d5 hd
 replace c6:=cell_kept c6 hd
 replace d6:=cell_kept d6 hd
 replace c7:=cell_kept c7 hd
 replace d7:=cell_kept d7 hd
 replace c8:=cell_kept c8 hd
 replace d8:=cell_kept d8 hd
 replace c9:=cell_kept c9 hd
 replace d9:=cell_kept d9 hd
 replace c10:=cell_kept c10 hd
 replace d10:=cell_kept d10 hd
 replace c11:=cell_kept c11 hd
 replace d11:=cell_kept d11 hd
 replace c12:=cell_kept c12 hd
 replace d12:=cell_kept d12 hd
 replace c13:=cell_kept c13 hd
 replace d13:=cell_kept d13 hd
 replace c14:=cell_kept c14 hd
 replace d14:=cell_kept d14 hd
 replace c15:=cell_kept c15 hd
 replace d15:=cell_kept d15 hd
 replace c16:=cell_kept c16 hd
 replace d16:=cell_kept d16 hd
 replace c17:=cell_kept c17 hd
 replace d17:=cell_kept d17 hd
 replace c18:=cell_kept c18 hd
 replace d18:=cell_kept d18 hd
 replace c19:=cell_kept c19 hd
 replace d19:=cell_kept d19 hd
 replace c20:=cell_kept c20 hd
 replace d20:=cell_kept d20 hd
 replace c21:=cell_kept c21 hd
 replace d21:=cell_kept d21 hd
 replace c22:=cell_kept c22 hd
 replace d22:=cell_kept d22 hd
 replace c23:=cell_kept c23 hd
 replace d23:=cell_kept d23 hd
 replace c24:=cell_kept c24 hd
 replace d24:=cell_kept d24 hd
 replace c25:=cell_kept c25 hd
 replace d25:=cell_kept d25 hd
 replace c26:=cell_kept c26 hd
 replace d26:=cell_kept d26 hd
 replace c27:=cell_kept c27 hd
 replace d27:=cell_kept d27 hd
 replace c28:=cell_kept c28 hd
 replace d28:=cell_kept d28 hd
 replace c29:=cell_kept c29 hd
 replace d29:=cell_kept d29 hd
 clear hd
 go_wp2_with fail
 refine (eqLast_any x.last _).mono ?_
 rintro e w8 ⟨rfl,hd⟩
 replace hb:=hb.trans (hd.mono hb.size)
 replace c0:=cell_kept c0 hd
 replace d0:=cell_kept d0 hd
 replace c1:=cell_kept c1 hd
 replace d1:=cell_kept d1 hd
 replace c2:=cell_kept c2 hd
 replace d2:=cell_kept d2 hd
 replace c3:=cell_kept c3 hd
 replace d3:=cell_kept d3 hd
 replace c4:=cell_kept c4 hd
 replace d4:=cell_kept d4 hd
 replace c5:=cell_kept c5 hd
 replace d5:=cell_kept d5 hd
 replace c6:=cell_kept c6 hd
 replace d6:=cell_kept d6 hd
 replace c7:=cell_kept c7 hd
 replace d7:=cell_kept d7 hd
 replace c8:=cell_kept c8 hd
 replace d8:=cell_kept d8 hd
 replace c9:=cell_kept c9 hd
 replace d9:=cell_kept d9 hd
 replace c10:=cell_kept c10 hd
 replace d10:=cell_kept d10 hd
 replace c11:=cell_kept c11 hd
 replace d11:=cell_kept d11 hd
 replace c12:=cell_kept c12 hd
 replace d12:=cell_kept d12 hd
 replace c13:=cell_kept c13 hd
 replace d13:=cell_kept d13 hd
 replace c14:=cell_kept c14 hd
 replace d14:=cell_kept d14 hd
 replace c15:=cell_kept c15 hd
 replace d15:=cell_kept d15 hd
 replace c16:=cell_kept c16 hd
 replace d16:=cell_kept d16 hd
 replace c17:=cell_kept c17 hd
 replace d17:=cell_kept d17 hd
 replace c18:=cell_kept c18 hd
 replace d18:=cell_kept d18 hd
 replace c19:=cell_kept c19 hd
 replace d19:=cell_kept d19 hd
 replace c20:=cell_kept c20 hd
 replace d20:=cell_kept d20 hd
 replace c21:=cell_kept c21 hd
 replace d21:=cell_kept d21 hd
 replace c22:=cell_kept c22 hd
 replace d22:=cell_kept d22 hd
 replace c23:=cell_kept c23 hd
 replace d23:=cell_kept d23 hd
 replace c24:=cell_kept c24 hd
 replace d24:=cell_kept d24 hd
 replace c25:=cell_kept c25 hd
 replace d25:=cell_kept d25 hd
 replace c26:=cell_kept c26 hd
 replace d26:=cell_kept d26 hd
 replace c27:=cell_kept c27 hd
 replace d27:=cell_kept d27 hd
 replace c28:=cell_kept c28 hd
 replace d28:=cell_kept d28 hd
 replace c29:=cell_kept c29 hd
 replace d29:=cell_kept d29 hd
 clear hd
 go_wp2
 go_ret
 exact ⟨rfl,hb⟩
end Go.Proofs.YtalnbgcdhcnjfaaGreatDoor

namespace Go.Proofs.YtalnbgcdhcnjfaaGreatDoor
open Go.ChangeShapes Go.WideShapes Go.ChangeAt Go.RowKit Go.Sort

/-- its rows lie in blocks of their own -/
def GaA.apart (q:GaA):Prop:=q.setup.apart∧(offA q.setup.tiles.values.a q.racks.a∧offA q.setup.tiles.counts.a q.racks.a∧offA q.setup.lexicon.a q.racks.a)∧(offA q.setup.tiles.values.a q.scores.a∧offA q.setup.tiles.counts.a q.scores.a∧offA q.setup.lexicon.a q.scores.a)∧offA q.racks.a q.scores.a∧(offA q.setup.tiles.values.a q.clocks.a∧offA q.setup.tiles.counts.a q.clocks.a∧offA q.setup.lexicon.a q.clocks.a)∧offA q.racks.a q.clocks.a∧offA q.scores.a q.clocks.a
theorem toGameA_any (x:Gam) (p:GaA) (w:World) (ha:x.At p w) (hs:x.small) :
  Calls Tryz.prog 14 #[.agg #[.string x.setup.tiles.letters,.slice p.setup.tiles.values.a x.setup.tiles.values.length p.setup.tiles.values.c,.slice p.setup.tiles.counts.a x.setup.tiles.counts.length p.setup.tiles.counts.c,.int .i64 x.setup.tiles.blanks,.slice p.setup.lexicon.a x.setup.lexicon.length p.setup.lexicon.c,.int .i64 x.setup.board.size,.string x.setup.board.premium,.string x.setup.board.cells,.int .i64 x.setup.seconds,.int .i64 x.setup.rule,.int .i64 x.board.size,.string x.board.premium,.string x.board.cells,.string x.bag,.slice p.racks.a x.racks.length p.racks.c,.slice p.scores.a x.scores.length p.scores.c,.slice p.clocks.a x.clocks.length p.clocks.c,.int .i64 x.player,.int .i64 x.zeros,.int .i64 x.last.kind,.int .i64 x.last.player,.int .i64 x.last.play.row,.int .i64 x.last.play.col,.bool x.last.play.down,.string x.last.play.word,.string x.last.before,.string x.last.drawn,.int .i64 x.last.score,.int .i64 x.last.zeros,.bool x.over]] w fun e w'=>∃ q:GaA,e=.returned (.agg #[.string x.setup.tiles.letters,.slice q.setup.tiles.values.a x.setup.tiles.values.length q.setup.tiles.values.c,.slice q.setup.tiles.counts.a x.setup.tiles.counts.length q.setup.tiles.counts.c,.int .i64 x.setup.tiles.blanks,.slice q.setup.lexicon.a x.setup.lexicon.length q.setup.lexicon.c,.int .i64 x.setup.board.size,.string x.setup.board.premium,.string x.setup.board.cells,.int .i64 x.setup.seconds,.int .i64 x.setup.rule,.int .i64 x.board.size,.string x.board.premium,.string x.board.cells,.string x.bag,.slice q.racks.a x.racks.length q.racks.c,.slice q.scores.a x.scores.length q.scores.c,.slice q.clocks.a x.clocks.length q.clocks.c,.int .i64 x.player,.int .i64 x.zeros,.int .i64 x.last.kind,.int .i64 x.last.player,.int .i64 x.last.play.row,.int .i64 x.last.play.col,.bool x.last.play.down,.string x.last.play.word,.string x.last.before,.string x.last.drawn,.int .i64 x.last.score,.int .i64 x.last.zeros,.bool x.over])∧x.Own q w.heap.size w'∧q.apart∧Below w.heap.size w w':=by
 obtain ⟨w3,hw3⟩:∃ w3,w3=((w.alloc (.cells #[.string x.setup.tiles.letters,.slice p.setup.tiles.values.a x.setup.tiles.values.length p.setup.tiles.values.c,.slice p.setup.tiles.counts.a x.setup.tiles.counts.length p.setup.tiles.counts.c,.int .i64 x.setup.tiles.blanks,.slice p.setup.lexicon.a x.setup.lexicon.length p.setup.lexicon.c,.int .i64 x.setup.board.size,.string x.setup.board.premium,.string x.setup.board.cells,.int .i64 x.setup.seconds,.int .i64 x.setup.rule,.int .i64 x.board.size,.string x.board.premium,.string x.board.cells,.string x.bag,.slice p.racks.a x.racks.length p.racks.c,.slice p.scores.a x.scores.length p.scores.c,.slice p.clocks.a x.clocks.length p.clocks.c,.int .i64 x.player,.int .i64 x.zeros,.int .i64 x.last.kind,.int .i64 x.last.player,.int .i64 x.last.play.row,.int .i64 x.last.play.col,.bool x.last.play.down,.string x.last.play.word,.string x.last.before,.string x.last.drawn,.int .i64 x.last.score,.int .i64 x.last.zeros,.bool x.over] 37)).alloc (.cells #[.string ⟨#[]⟩,.slice none 0 0,.slice none 0 0,.int .i64 0,.slice none 0 0,.int .i64 0,.string ⟨#[]⟩,.string ⟨#[]⟩,.int .i64 0,.int .i64 0,.int .i64 0,.string ⟨#[]⟩,.string ⟨#[]⟩,.string ⟨#[]⟩,.slice none 0 0,.slice none 0 0,.slice none 0 0,.int .i64 0,.int .i64 0,.int .i64 0,.int .i64 0,.int .i64 0,.int .i64 0,.bool false,.string ⟨#[]⟩,.string ⟨#[]⟩,.string ⟨#[]⟩,.int .i64 0,.int .i64 0,.bool false] 51)).alloc (.cells #[.string ⟨#[]⟩,.slice none 0 0,.slice none 0 0,.int .i64 0,.slice none 0 0,.int .i64 0,.string ⟨#[]⟩,.string ⟨#[]⟩,.int .i64 0,.int .i64 0,.int .i64 0,.string ⟨#[]⟩,.string ⟨#[]⟩,.string ⟨#[]⟩,.slice none 0 0,.slice none 0 0,.slice none 0 0,.int .i64 0,.int .i64 0,.int .i64 0,.int .i64 0,.int .i64 0,.int .i64 0,.bool false,.string ⟨#[]⟩,.string ⟨#[]⟩,.string ⟨#[]⟩,.int .i64 0,.int .i64 0,.bool false] 51):=⟨_,rfl⟩
 have hb:Below w.heap.size w w3:=by rw [hw3];exact (((Below.refl _ _).alloc (Nat.le_refl _) _).alloc (by simp) _).alloc (by simp;omega) _
 have VI:Hid (VarAt w3 w.heap.size 37 [.string x.setup.tiles.letters,.slice p.setup.tiles.values.a x.setup.tiles.values.length p.setup.tiles.values.c,.slice p.setup.tiles.counts.a x.setup.tiles.counts.length p.setup.tiles.counts.c,.int .i64 x.setup.tiles.blanks,.slice p.setup.lexicon.a x.setup.lexicon.length p.setup.lexicon.c,.int .i64 x.setup.board.size,.string x.setup.board.premium,.string x.setup.board.cells,.int .i64 x.setup.seconds,.int .i64 x.setup.rule,.int .i64 x.board.size,.string x.board.premium,.string x.board.cells,.string x.bag,.slice p.racks.a x.racks.length p.racks.c,.slice p.scores.a x.scores.length p.scores.c,.slice p.clocks.a x.clocks.length p.clocks.c,.int .i64 x.player,.int .i64 x.zeros,.int .i64 x.last.kind,.int .i64 x.last.player,.int .i64 x.last.play.row,.int .i64 x.last.play.col,.bool x.last.play.down,.string x.last.play.word,.string x.last.before,.string x.last.drawn,.int .i64 x.last.score,.int .i64 x.last.zeros,.bool x.over]):=by
  rw [hw3]
  exact Lh (((VarAt.new w 37 [.string x.setup.tiles.letters,.slice p.setup.tiles.values.a x.setup.tiles.values.length p.setup.tiles.values.c,.slice p.setup.tiles.counts.a x.setup.tiles.counts.length p.setup.tiles.counts.c,.int .i64 x.setup.tiles.blanks,.slice p.setup.lexicon.a x.setup.lexicon.length p.setup.lexicon.c,.int .i64 x.setup.board.size,.string x.setup.board.premium,.string x.setup.board.cells,.int .i64 x.setup.seconds,.int .i64 x.setup.rule,.int .i64 x.board.size,.string x.board.premium,.string x.board.cells,.string x.bag,.slice p.racks.a x.racks.length p.racks.c,.slice p.scores.a x.scores.length p.scores.c,.slice p.clocks.a x.clocks.length p.clocks.c,.int .i64 x.player,.int .i64 x.zeros,.int .i64 x.last.kind,.int .i64 x.last.player,.int .i64 x.last.play.row,.int .i64 x.last.play.col,.bool x.last.play.down,.string x.last.play.word,.string x.last.before,.string x.last.drawn,.int .i64 x.last.score,.int .i64 x.last.zeros,.bool x.over]).kept ((Below.refl _ _).alloc (Nat.le_refl _) _)).kept ((Below.refl _ _).alloc (Nat.le_refl _) _))
 have VR:Hid (VarAt w3 (w.heap.size+1) 51 [.string ⟨#[]⟩,.slice none 0 0,.slice none 0 0,.int .i64 0,.slice none 0 0,.int .i64 0,.string ⟨#[]⟩,.string ⟨#[]⟩,.int .i64 0,.int .i64 0,.int .i64 0,.string ⟨#[]⟩,.string ⟨#[]⟩,.string ⟨#[]⟩,.slice none 0 0,.slice none 0 0,.slice none 0 0,.int .i64 0,.int .i64 0,.int .i64 0,.int .i64 0,.int .i64 0,.int .i64 0,.bool false,.string ⟨#[]⟩,.string ⟨#[]⟩,.string ⟨#[]⟩,.int .i64 0,.int .i64 0,.bool false]):=by
  rw [hw3]
  have:=(VarAt.new (w.alloc (.cells #[.string x.setup.tiles.letters,.slice p.setup.tiles.values.a x.setup.tiles.values.length p.setup.tiles.values.c,.slice p.setup.tiles.counts.a x.setup.tiles.counts.length p.setup.tiles.counts.c,.int .i64 x.setup.tiles.blanks,.slice p.setup.lexicon.a x.setup.lexicon.length p.setup.lexicon.c,.int .i64 x.setup.board.size,.string x.setup.board.premium,.string x.setup.board.cells,.int .i64 x.setup.seconds,.int .i64 x.setup.rule,.int .i64 x.board.size,.string x.board.premium,.string x.board.cells,.string x.bag,.slice p.racks.a x.racks.length p.racks.c,.slice p.scores.a x.scores.length p.scores.c,.slice p.clocks.a x.clocks.length p.clocks.c,.int .i64 x.player,.int .i64 x.zeros,.int .i64 x.last.kind,.int .i64 x.last.player,.int .i64 x.last.play.row,.int .i64 x.last.play.col,.bool x.last.play.down,.string x.last.play.word,.string x.last.before,.string x.last.drawn,.int .i64 x.last.score,.int .i64 x.last.zeros,.bool x.over] 37)) 51 [.string ⟨#[]⟩,.slice none 0 0,.slice none 0 0,.int .i64 0,.slice none 0 0,.int .i64 0,.string ⟨#[]⟩,.string ⟨#[]⟩,.int .i64 0,.int .i64 0,.int .i64 0,.string ⟨#[]⟩,.string ⟨#[]⟩,.string ⟨#[]⟩,.slice none 0 0,.slice none 0 0,.slice none 0 0,.int .i64 0,.int .i64 0,.int .i64 0,.int .i64 0,.int .i64 0,.int .i64 0,.bool false,.string ⟨#[]⟩,.string ⟨#[]⟩,.string ⟨#[]⟩,.int .i64 0,.int .i64 0,.bool false]).kept ((Below.refl _ _).alloc (Nat.le_refl _) (.cells #[.string ⟨#[]⟩,.slice none 0 0,.slice none 0 0,.int .i64 0,.slice none 0 0,.int .i64 0,.string ⟨#[]⟩,.string ⟨#[]⟩,.int .i64 0,.int .i64 0,.int .i64 0,.string ⟨#[]⟩,.string ⟨#[]⟩,.string ⟨#[]⟩,.slice none 0 0,.slice none 0 0,.slice none 0 0,.int .i64 0,.int .i64 0,.int .i64 0,.int .i64 0,.int .i64 0,.int .i64 0,.bool false,.string ⟨#[]⟩,.string ⟨#[]⟩,.string ⟨#[]⟩,.int .i64 0,.int .i64 0,.bool false] 51))
  simp only [World.size_alloc] at this
  exact Lh this
 have VO:Hid (VarAt w3 (w.heap.size+1+1) 51 [.string ⟨#[]⟩,.slice none 0 0,.slice none 0 0,.int .i64 0,.slice none 0 0,.int .i64 0,.string ⟨#[]⟩,.string ⟨#[]⟩,.int .i64 0,.int .i64 0,.int .i64 0,.string ⟨#[]⟩,.string ⟨#[]⟩,.string ⟨#[]⟩,.slice none 0 0,.slice none 0 0,.slice none 0 0,.int .i64 0,.int .i64 0,.int .i64 0,.int .i64 0,.int .i64 0,.int .i64 0,.bool false,.string ⟨#[]⟩,.string ⟨#[]⟩,.string ⟨#[]⟩,.int .i64 0,.int .i64 0,.bool false]):=by
  rw [hw3]
  have:=VarAt.new ((w.alloc (.cells #[.string x.setup.tiles.letters,.slice p.setup.tiles.values.a x.setup.tiles.values.length p.setup.tiles.values.c,.slice p.setup.tiles.counts.a x.setup.tiles.counts.length p.setup.tiles.counts.c,.int .i64 x.setup.tiles.blanks,.slice p.setup.lexicon.a x.setup.lexicon.length p.setup.lexicon.c,.int .i64 x.setup.board.size,.string x.setup.board.premium,.string x.setup.board.cells,.int .i64 x.setup.seconds,.int .i64 x.setup.rule,.int .i64 x.board.size,.string x.board.premium,.string x.board.cells,.string x.bag,.slice p.racks.a x.racks.length p.racks.c,.slice p.scores.a x.scores.length p.scores.c,.slice p.clocks.a x.clocks.length p.clocks.c,.int .i64 x.player,.int .i64 x.zeros,.int .i64 x.last.kind,.int .i64 x.last.player,.int .i64 x.last.play.row,.int .i64 x.last.play.col,.bool x.last.play.down,.string x.last.play.word,.string x.last.before,.string x.last.drawn,.int .i64 x.last.score,.int .i64 x.last.zeros,.bool x.over] 37)).alloc (.cells #[.string ⟨#[]⟩,.slice none 0 0,.slice none 0 0,.int .i64 0,.slice none 0 0,.int .i64 0,.string ⟨#[]⟩,.string ⟨#[]⟩,.int .i64 0,.int .i64 0,.int .i64 0,.string ⟨#[]⟩,.string ⟨#[]⟩,.string ⟨#[]⟩,.slice none 0 0,.slice none 0 0,.slice none 0 0,.int .i64 0,.int .i64 0,.int .i64 0,.int .i64 0,.int .i64 0,.int .i64 0,.bool false,.string ⟨#[]⟩,.string ⟨#[]⟩,.string ⟨#[]⟩,.int .i64 0,.int .i64 0,.bool false] 51)) 51 [.string ⟨#[]⟩,.slice none 0 0,.slice none 0 0,.int .i64 0,.slice none 0 0,.int .i64 0,.string ⟨#[]⟩,.string ⟨#[]⟩,.int .i64 0,.int .i64 0,.int .i64 0,.string ⟨#[]⟩,.string ⟨#[]⟩,.string ⟨#[]⟩,.slice none 0 0,.slice none 0 0,.slice none 0 0,.int .i64 0,.int .i64 0,.int .i64 0,.int .i64 0,.int .i64 0,.int .i64 0,.bool false,.string ⟨#[]⟩,.string ⟨#[]⟩,.string ⟨#[]⟩,.int .i64 0,.int .i64 0,.bool false]
  simp only [World.size_alloc] at this
  exact Lh this
 have HW3:=Lh hw3;clear hw3
 have HA:=Lh ha;clear ha
 have HS:=Lh hs;clear hs
 go_enter Tryz.func14,Tryz.ntmps14
 go_upto_region 2 with fail
 rw [← HW3.out]
 clear HW3
 have c0:=VI.out.cell (i:=0) rfl
 have c1:=VI.out.cell (i:=1) rfl
 have c2:=VI.out.cell (i:=2) rfl
 have c3:=VI.out.cell (i:=3) rfl
 have c4:=VI.out.cell (i:=4) rfl
 have c5:=VI.out.cell (i:=5) rfl
 have c6:=VI.out.cell (i:=6) rfl
 have c7:=VI.out.cell (i:=7) rfl
 have c8:=VI.out.cell (i:=8) rfl
 have c9:=VI.out.cell (i:=9) rfl
 go_wp2_with fail
 refine (toSetupA_any x.setup p.setup _ (Stp.At.kept HA.out.1 hb) (HS.out.1)).mono ?_
 rintro e w4 ⟨r_setup,rfl,ho,A_setup,hd⟩
 have O_setup:=Lh (ho.mono (show w.heap.size+1+1+1≤_ from VO.out.lt));clear ho
 replace VI:=Lh (VI.out.kept hd)
 replace VR:=Lh (VR.out.kept hd)
 replace VO:=Lh (VO.out.kept hd)
 replace hb:=hb.trans (hd.mono hb.size)
 clear hd c0 c1 c2 c3 c4 c5 c6 c7 c8 c9
 have d0:=VO.out.cell (i:=0) rfl
 have f0:=VO.out.free 0
 have d1:=VO.out.cell (i:=1) rfl
 have f1:=VO.out.free 1
 have d2:=VO.out.cell (i:=2) rfl
 have f2:=VO.out.free 2
 have d3:=VO.out.cell (i:=3) rfl
 have f3:=VO.out.free 3
 have d4:=VO.out.cell (i:=4) rfl
 have f4:=VO.out.free 4
 have d5:=VO.out.cell (i:=5) rfl
 have f5:=VO.out.free 5
 have d6:=VO.out.cell (i:=6) rfl
 have f6:=VO.out.free 6
 have d7:=VO.out.cell (i:=7) rfl
 have f7:=VO.out.free 7
 have d8:=VO.out.cell (i:=8) rfl
 have f8:=VO.out.free 8
 have d9:=VO.out.cell (i:=9) rfl
 have f9:=VO.out.free 9
 go_upto_region 3 with fail
 clear d0 f0 d1 f1 d2 f2 d3 f3 d4 f4 d5 f5 d6 f6 d7 f7 d8 f8 d9 f9
 obtain ⟨o0,k0⟩:=VO.out.set 0 (.string x.setup.tiles.letters)
 obtain ⟨o1,k1⟩:=o0.set 1 (.slice r_setup.tiles.values.a x.setup.tiles.values.length r_setup.tiles.values.c)
 obtain ⟨o2,k2⟩:=o1.set 2 (.slice r_setup.tiles.counts.a x.setup.tiles.counts.length r_setup.tiles.counts.c)
 obtain ⟨o3,k3⟩:=o2.set 3 (.int .i64 x.setup.tiles.blanks)
 obtain ⟨o4,k4⟩:=o3.set 4 (.slice r_setup.lexicon.a x.setup.lexicon.length r_setup.lexicon.c)
 obtain ⟨o5,k5⟩:=o4.set 5 (.int .i64 x.setup.board.size)
 obtain ⟨o6,k6⟩:=o5.set 6 (.string x.setup.board.premium)
 obtain ⟨o7,k7⟩:=o6.set 7 (.string x.setup.board.cells)
 obtain ⟨o8,k8⟩:=o7.set 8 (.int .i64 x.setup.seconds)
 obtain ⟨o9,k9⟩:=o8.set 9 (.int .i64 x.setup.rule)
 have GG:=(grownBy_trans (grownBy_trans (grownBy_trans (grownBy_trans (grownBy_trans (grownBy_trans (grownBy_trans (grownBy_trans (grownBy_trans k0 k1) k2) k3) k4) k5) k6) k7) k8) k9)
 have oZ:Hid (VarAt ((((((((((w4.setCell ⟨w.heap.size+1+1,0,none⟩ (.string x.setup.tiles.letters)).setCell ⟨w.heap.size+1+1,1,none⟩ (.slice r_setup.tiles.values.a x.setup.tiles.values.length r_setup.tiles.values.c)).setCell ⟨w.heap.size+1+1,2,none⟩ (.slice r_setup.tiles.counts.a x.setup.tiles.counts.length r_setup.tiles.counts.c)).setCell ⟨w.heap.size+1+1,3,none⟩ (.int .i64 x.setup.tiles.blanks)).setCell ⟨w.heap.size+1+1,4,none⟩ (.slice r_setup.lexicon.a x.setup.lexicon.length r_setup.lexicon.c)).setCell ⟨w.heap.size+1+1,5,none⟩ (.int .i64 x.setup.board.size)).setCell ⟨w.heap.size+1+1,6,none⟩ (.string x.setup.board.premium)).setCell ⟨w.heap.size+1+1,7,none⟩ (.string x.setup.board.cells)).setCell ⟨w.heap.size+1+1,8,none⟩ (.int .i64 x.setup.seconds)).setCell ⟨w.heap.size+1+1,9,none⟩ (.int .i64 x.setup.rule)) (w.heap.size+1+1) 51 [.string x.setup.tiles.letters,.slice r_setup.tiles.values.a x.setup.tiles.values.length r_setup.tiles.values.c,.slice r_setup.tiles.counts.a x.setup.tiles.counts.length r_setup.tiles.counts.c,.int .i64 x.setup.tiles.blanks,.slice r_setup.lexicon.a x.setup.lexicon.length r_setup.lexicon.c,.int .i64 x.setup.board.size,.string x.setup.board.premium,.string x.setup.board.cells,.int .i64 x.setup.seconds,.int .i64 x.setup.rule,.int .i64 0,.string ⟨#[]⟩,.string ⟨#[]⟩,.string ⟨#[]⟩,.slice none 0 0,.slice none 0 0,.slice none 0 0,.int .i64 0,.int .i64 0,.int .i64 0,.int .i64 0,.int .i64 0,.int .i64 0,.bool false,.string ⟨#[]⟩,.string ⟨#[]⟩,.string ⟨#[]⟩,.int .i64 0,.int .i64 0,.bool false]):=Lh o9
 clear VO o0 k0 o1 k1 o2 k2 o3 k3 o4 k4 o5 k5 o6 k6 o7 k7 o8 k8 o9 k9
 have VO:=oZ;clear oZ
 replace VI:=Lh (VI.out.grown GG (by simp;try omega))
 replace VR:=Lh (VR.out.grown GG (by simp;try omega))
 replace hb:=hb.grown GG hb.size (fun q h=>by cases h;omega)
 replace O_setup:=Lh (O_setup.out.store GG (by omega))
 clear GG
 generalize ((((((((((w4.setCell ⟨w.heap.size+1+1,0,none⟩ (.string x.setup.tiles.letters)).setCell ⟨w.heap.size+1+1,1,none⟩ (.slice r_setup.tiles.values.a x.setup.tiles.values.length r_setup.tiles.values.c)).setCell ⟨w.heap.size+1+1,2,none⟩ (.slice r_setup.tiles.counts.a x.setup.tiles.counts.length r_setup.tiles.counts.c)).setCell ⟨w.heap.size+1+1,3,none⟩ (.int .i64 x.setup.tiles.blanks)).setCell ⟨w.heap.size+1+1,4,none⟩ (.slice r_setup.lexicon.a x.setup.lexicon.length r_setup.lexicon.c)).setCell ⟨w.heap.size+1+1,5,none⟩ (.int .i64 x.setup.board.size)).setCell ⟨w.heap.size+1+1,6,none⟩ (.string x.setup.board.premium)).setCell ⟨w.heap.size+1+1,7,none⟩ (.string x.setup.board.cells)).setCell ⟨w.heap.size+1+1,8,none⟩ (.int .i64 x.setup.seconds)).setCell ⟨w.heap.size+1+1,9,none⟩ (.int .i64 x.setup.rule))=w5 at *
 have c10:=VI.out.cell (i:=10) rfl
 have c11:=VI.out.cell (i:=11) rfl
 have c12:=VI.out.cell (i:=12) rfl
 go_wp2_with fail
 refine (toBoard_any x.board _).mono ?_
 rintro e w6 ⟨rfl,hd⟩
 replace O_setup:=Lh (O_setup.out.kept hd)
 replace VI:=Lh (VI.out.kept hd)
 replace VR:=Lh (VR.out.kept hd)
 replace VO:=Lh (VO.out.kept hd)
 replace hb:=hb.trans (hd.mono hb.size)
 clear hd c10 c11 c12
 have d10:=VO.out.cell (i:=10) rfl
 have f10:=VO.out.free 10
 have d11:=VO.out.cell (i:=11) rfl
 have f11:=VO.out.free 11
 have d12:=VO.out.cell (i:=12) rfl
 have f12:=VO.out.free 12
 go_upto_region 4 with fail
 clear d10 f10 d11 f11 d12 f12
 obtain ⟨o0,k0⟩:=VO.out.set 10 (.int .i64 x.board.size)
 obtain ⟨o1,k1⟩:=o0.set 11 (.string x.board.premium)
 obtain ⟨o2,k2⟩:=o1.set 12 (.string x.board.cells)
 have GG:=(grownBy_trans (grownBy_trans k0 k1) k2)
 have oZ:Hid (VarAt (((w6.setCell ⟨w.heap.size+1+1,10,none⟩ (.int .i64 x.board.size)).setCell ⟨w.heap.size+1+1,11,none⟩ (.string x.board.premium)).setCell ⟨w.heap.size+1+1,12,none⟩ (.string x.board.cells)) (w.heap.size+1+1) 51 [.string x.setup.tiles.letters,.slice r_setup.tiles.values.a x.setup.tiles.values.length r_setup.tiles.values.c,.slice r_setup.tiles.counts.a x.setup.tiles.counts.length r_setup.tiles.counts.c,.int .i64 x.setup.tiles.blanks,.slice r_setup.lexicon.a x.setup.lexicon.length r_setup.lexicon.c,.int .i64 x.setup.board.size,.string x.setup.board.premium,.string x.setup.board.cells,.int .i64 x.setup.seconds,.int .i64 x.setup.rule,.int .i64 x.board.size,.string x.board.premium,.string x.board.cells,.string ⟨#[]⟩,.slice none 0 0,.slice none 0 0,.slice none 0 0,.int .i64 0,.int .i64 0,.int .i64 0,.int .i64 0,.int .i64 0,.int .i64 0,.bool false,.string ⟨#[]⟩,.string ⟨#[]⟩,.string ⟨#[]⟩,.int .i64 0,.int .i64 0,.bool false]):=Lh o2
 clear VO o0 k0 o1 k1 o2 k2
 have VO:=oZ;clear oZ
 replace VI:=Lh (VI.out.grown GG (by simp;try omega))
 replace VR:=Lh (VR.out.grown GG (by simp;try omega))
 replace hb:=hb.grown GG hb.size (fun q h=>by cases h;omega)
 replace O_setup:=Lh (O_setup.out.store GG (by omega))
 clear GG
 generalize (((w6.setCell ⟨w.heap.size+1+1,10,none⟩ (.int .i64 x.board.size)).setCell ⟨w.heap.size+1+1,11,none⟩ (.string x.board.premium)).setCell ⟨w.heap.size+1+1,12,none⟩ (.string x.board.cells))=w7 at *
 have c13:=VI.out.cell (i:=13) rfl
 have d13:=VO.out.cell (i:=13) rfl
 have f13:=VO.out.free 13
 go_upto_region 5 with fail
 clear d13 f13 c13
 obtain ⟨o0,k0⟩:=VO.out.set 13 (.string x.bag)
 have GG:=k0
 have oZ:Hid (VarAt (w7.setCell ⟨w.heap.size+1+1,13,none⟩ (.string x.bag)) (w.heap.size+1+1) 51 [.string x.setup.tiles.letters,.slice r_setup.tiles.values.a x.setup.tiles.values.length r_setup.tiles.values.c,.slice r_setup.tiles.counts.a x.setup.tiles.counts.length r_setup.tiles.counts.c,.int .i64 x.setup.tiles.blanks,.slice r_setup.lexicon.a x.setup.lexicon.length r_setup.lexicon.c,.int .i64 x.setup.board.size,.string x.setup.board.premium,.string x.setup.board.cells,.int .i64 x.setup.seconds,.int .i64 x.setup.rule,.int .i64 x.board.size,.string x.board.premium,.string x.board.cells,.string x.bag,.slice none 0 0,.slice none 0 0,.slice none 0 0,.int .i64 0,.int .i64 0,.int .i64 0,.int .i64 0,.int .i64 0,.int .i64 0,.bool false,.string ⟨#[]⟩,.string ⟨#[]⟩,.string ⟨#[]⟩,.int .i64 0,.int .i64 0,.bool false]):=Lh o0
 clear VO o0 k0
 have VO:=oZ;clear oZ
 replace VI:=Lh (VI.out.grown GG (by simp;try omega))
 replace VR:=Lh (VR.out.grown GG (by simp;try omega))
 replace hb:=hb.grown GG hb.size (fun q h=>by cases h;omega)
 replace O_setup:=Lh (O_setup.out.store GG (by omega))
 clear GG
 generalize (w7.setCell ⟨w.heap.size+1+1,13,none⟩ (.string x.bag))=w8 at *
 have c14:=VI.out.cell (i:=14) rfl
 go_wp2_with fail
 refine (toStringS_any x.racks p.racks.a p.racks.c _ ((HA.out.2.1).kept hb) HS.out.2.1).mono ?_
 rintro e w9 ⟨r_racks,rfl,ho,hd⟩
 have A_racks:=Stp.Own.offs O_setup.out ho (Nat.le_refl _)
 have O_racks:=Lh (own_mono ho (show w.heap.size+1+1+1≤_ from VO.out.lt));clear ho
 replace O_setup:=Lh (O_setup.out.kept hd)
 replace VI:=Lh (VI.out.kept hd)
 replace VR:=Lh (VR.out.kept hd)
 replace VO:=Lh (VO.out.kept hd)
 replace hb:=hb.trans (hd.mono hb.size)
 clear hd c14
 have d14:=VO.out.cell (i:=14) rfl
 have f14:=VO.out.free 14
 go_upto_region 6 with fail
 clear d14 f14
 obtain ⟨o0,k0⟩:=VO.out.set 14 (.slice (some ⟨r_racks,0,none⟩) x.racks.length x.racks.length)
 have GG:=k0
 have oZ:Hid (VarAt (w9.setCell ⟨w.heap.size+1+1,14,none⟩ (.slice (some ⟨r_racks,0,none⟩) x.racks.length x.racks.length)) (w.heap.size+1+1) 51 [.string x.setup.tiles.letters,.slice r_setup.tiles.values.a x.setup.tiles.values.length r_setup.tiles.values.c,.slice r_setup.tiles.counts.a x.setup.tiles.counts.length r_setup.tiles.counts.c,.int .i64 x.setup.tiles.blanks,.slice r_setup.lexicon.a x.setup.lexicon.length r_setup.lexicon.c,.int .i64 x.setup.board.size,.string x.setup.board.premium,.string x.setup.board.cells,.int .i64 x.setup.seconds,.int .i64 x.setup.rule,.int .i64 x.board.size,.string x.board.premium,.string x.board.cells,.string x.bag,.slice (some ⟨r_racks,0,none⟩) x.racks.length x.racks.length,.slice none 0 0,.slice none 0 0,.int .i64 0,.int .i64 0,.int .i64 0,.int .i64 0,.int .i64 0,.int .i64 0,.bool false,.string ⟨#[]⟩,.string ⟨#[]⟩,.string ⟨#[]⟩,.int .i64 0,.int .i64 0,.bool false]):=Lh o0
 clear VO o0 k0
 have VO:=oZ;clear oZ
 replace VI:=Lh (VI.out.grown GG (by simp;try omega))
 replace VR:=Lh (VR.out.grown GG (by simp;try omega))
 replace hb:=hb.grown GG hb.size (fun q h=>by cases h;omega)
 replace O_setup:=Lh (O_setup.out.store GG (by omega))
 replace O_racks:=Lh (row_store O_racks.out GG (by omega))
 clear GG
 generalize (w9.setCell ⟨w.heap.size+1+1,14,none⟩ (.slice (some ⟨r_racks,0,none⟩) x.racks.length x.racks.length))=w10 at *
 have c15:=VI.out.cell (i:=15) rfl
 go_wp2_with fail
 refine (toInt64S_any x.scores p.scores.a p.scores.c _ ((HA.out.2.2.1).kept hb) HS.out.2.2.1).mono ?_
 rintro e w11 ⟨r_scores,rfl,ho,hd⟩
 have A_scores:=Stp.Own.offs O_setup.out ho (Nat.le_refl _)
 have B_scores:=own_off O_racks.out ho (Nat.le_refl _)
 have O_scores:=Lh (own_mono ho (show w.heap.size+1+1+1≤_ from VO.out.lt));clear ho
 replace O_setup:=Lh (O_setup.out.kept hd)
 replace O_racks:=Lh (own_below O_racks.out hd)
 replace VI:=Lh (VI.out.kept hd)
 replace VR:=Lh (VR.out.kept hd)
 replace VO:=Lh (VO.out.kept hd)
 replace hb:=hb.trans (hd.mono hb.size)
 clear hd c15
 have d15:=VO.out.cell (i:=15) rfl
 have f15:=VO.out.free 15
 go_upto_region 7 with fail
 clear d15 f15
 obtain ⟨o0,k0⟩:=VO.out.set 15 (.slice (some ⟨r_scores,0,none⟩) x.scores.length x.scores.length)
 have GG:=k0
 have oZ:Hid (VarAt (w11.setCell ⟨w.heap.size+1+1,15,none⟩ (.slice (some ⟨r_scores,0,none⟩) x.scores.length x.scores.length)) (w.heap.size+1+1) 51 [.string x.setup.tiles.letters,.slice r_setup.tiles.values.a x.setup.tiles.values.length r_setup.tiles.values.c,.slice r_setup.tiles.counts.a x.setup.tiles.counts.length r_setup.tiles.counts.c,.int .i64 x.setup.tiles.blanks,.slice r_setup.lexicon.a x.setup.lexicon.length r_setup.lexicon.c,.int .i64 x.setup.board.size,.string x.setup.board.premium,.string x.setup.board.cells,.int .i64 x.setup.seconds,.int .i64 x.setup.rule,.int .i64 x.board.size,.string x.board.premium,.string x.board.cells,.string x.bag,.slice (some ⟨r_racks,0,none⟩) x.racks.length x.racks.length,.slice (some ⟨r_scores,0,none⟩) x.scores.length x.scores.length,.slice none 0 0,.int .i64 0,.int .i64 0,.int .i64 0,.int .i64 0,.int .i64 0,.int .i64 0,.bool false,.string ⟨#[]⟩,.string ⟨#[]⟩,.string ⟨#[]⟩,.int .i64 0,.int .i64 0,.bool false]):=Lh o0
 clear VO o0 k0
 have VO:=oZ;clear oZ
 replace VI:=Lh (VI.out.grown GG (by simp;try omega))
 replace VR:=Lh (VR.out.grown GG (by simp;try omega))
 replace hb:=hb.grown GG hb.size (fun q h=>by cases h;omega)
 replace O_setup:=Lh (O_setup.out.store GG (by omega))
 replace O_racks:=Lh (row_store O_racks.out GG (by omega))
 replace O_scores:=Lh (row_store O_scores.out GG (by omega))
 clear GG
 generalize (w11.setCell ⟨w.heap.size+1+1,15,none⟩ (.slice (some ⟨r_scores,0,none⟩) x.scores.length x.scores.length))=w12 at *
 have c16:=VI.out.cell (i:=16) rfl
 go_wp2_with fail
 refine (toInt64S_any x.clocks p.clocks.a p.clocks.c _ ((HA.out.2.2.2).kept hb) HS.out.2.2.2).mono ?_
 rintro e w13 ⟨r_clocks,rfl,ho,hd⟩
 have A_clocks:=Stp.Own.offs O_setup.out ho (Nat.le_refl _)
 have B_clocks:=own_off O_racks.out ho (Nat.le_refl _)
 have C_clocks:=own_off O_scores.out ho (Nat.le_refl _)
 have O_clocks:=Lh (own_mono ho (show w.heap.size+1+1+1≤_ from VO.out.lt));clear ho
 replace O_setup:=Lh (O_setup.out.kept hd)
 replace O_racks:=Lh (own_below O_racks.out hd)
 replace O_scores:=Lh (own_below O_scores.out hd)
 replace VI:=Lh (VI.out.kept hd)
 replace VR:=Lh (VR.out.kept hd)
 replace VO:=Lh (VO.out.kept hd)
 replace hb:=hb.trans (hd.mono hb.size)
 clear hd c16
 have d16:=VO.out.cell (i:=16) rfl
 have f16:=VO.out.free 16
 go_upto_region 8 with fail
 clear d16 f16
 obtain ⟨o0,k0⟩:=VO.out.set 16 (.slice (some ⟨r_clocks,0,none⟩) x.clocks.length x.clocks.length)
 have GG:=k0
 have oZ:Hid (VarAt (w13.setCell ⟨w.heap.size+1+1,16,none⟩ (.slice (some ⟨r_clocks,0,none⟩) x.clocks.length x.clocks.length)) (w.heap.size+1+1) 51 [.string x.setup.tiles.letters,.slice r_setup.tiles.values.a x.setup.tiles.values.length r_setup.tiles.values.c,.slice r_setup.tiles.counts.a x.setup.tiles.counts.length r_setup.tiles.counts.c,.int .i64 x.setup.tiles.blanks,.slice r_setup.lexicon.a x.setup.lexicon.length r_setup.lexicon.c,.int .i64 x.setup.board.size,.string x.setup.board.premium,.string x.setup.board.cells,.int .i64 x.setup.seconds,.int .i64 x.setup.rule,.int .i64 x.board.size,.string x.board.premium,.string x.board.cells,.string x.bag,.slice (some ⟨r_racks,0,none⟩) x.racks.length x.racks.length,.slice (some ⟨r_scores,0,none⟩) x.scores.length x.scores.length,.slice (some ⟨r_clocks,0,none⟩) x.clocks.length x.clocks.length,.int .i64 0,.int .i64 0,.int .i64 0,.int .i64 0,.int .i64 0,.int .i64 0,.bool false,.string ⟨#[]⟩,.string ⟨#[]⟩,.string ⟨#[]⟩,.int .i64 0,.int .i64 0,.bool false]):=Lh o0
 clear VO o0 k0
 have VO:=oZ;clear oZ
 replace VI:=Lh (VI.out.grown GG (by simp;try omega))
 replace VR:=Lh (VR.out.grown GG (by simp;try omega))
 replace hb:=hb.grown GG hb.size (fun q h=>by cases h;omega)
 replace O_setup:=Lh (O_setup.out.store GG (by omega))
 replace O_racks:=Lh (row_store O_racks.out GG (by omega))
 replace O_scores:=Lh (row_store O_scores.out GG (by omega))
 replace O_clocks:=Lh (row_store O_clocks.out GG (by omega))
 clear GG
 generalize (w13.setCell ⟨w.heap.size+1+1,16,none⟩ (.slice (some ⟨r_clocks,0,none⟩) x.clocks.length x.clocks.length))=w14 at *
 have c17:=VI.out.cell (i:=17) rfl
 have d17:=VO.out.cell (i:=17) rfl
 have f17:=VO.out.free 17
 go_upto_region 9 with fail
 clear d17 f17 c17
 obtain ⟨o0,k0⟩:=VO.out.set 17 (.int .i64 x.player)
 have GG:=k0
 have oZ:Hid (VarAt (w14.setCell ⟨w.heap.size+1+1,17,none⟩ (.int .i64 x.player)) (w.heap.size+1+1) 51 [.string x.setup.tiles.letters,.slice r_setup.tiles.values.a x.setup.tiles.values.length r_setup.tiles.values.c,.slice r_setup.tiles.counts.a x.setup.tiles.counts.length r_setup.tiles.counts.c,.int .i64 x.setup.tiles.blanks,.slice r_setup.lexicon.a x.setup.lexicon.length r_setup.lexicon.c,.int .i64 x.setup.board.size,.string x.setup.board.premium,.string x.setup.board.cells,.int .i64 x.setup.seconds,.int .i64 x.setup.rule,.int .i64 x.board.size,.string x.board.premium,.string x.board.cells,.string x.bag,.slice (some ⟨r_racks,0,none⟩) x.racks.length x.racks.length,.slice (some ⟨r_scores,0,none⟩) x.scores.length x.scores.length,.slice (some ⟨r_clocks,0,none⟩) x.clocks.length x.clocks.length,.int .i64 x.player,.int .i64 0,.int .i64 0,.int .i64 0,.int .i64 0,.int .i64 0,.bool false,.string ⟨#[]⟩,.string ⟨#[]⟩,.string ⟨#[]⟩,.int .i64 0,.int .i64 0,.bool false]):=Lh o0
 clear VO o0 k0
 have VO:=oZ;clear oZ
 replace VI:=Lh (VI.out.grown GG (by simp;try omega))
 replace VR:=Lh (VR.out.grown GG (by simp;try omega))
 replace hb:=hb.grown GG hb.size (fun q h=>by cases h;omega)
 replace O_setup:=Lh (O_setup.out.store GG (by omega))
 replace O_racks:=Lh (row_store O_racks.out GG (by omega))
 replace O_scores:=Lh (row_store O_scores.out GG (by omega))
 replace O_clocks:=Lh (row_store O_clocks.out GG (by omega))
 clear GG
 generalize (w14.setCell ⟨w.heap.size+1+1,17,none⟩ (.int .i64 x.player))=w15 at *
 have c18:=VI.out.cell (i:=18) rfl
 have d18:=VO.out.cell (i:=18) rfl
 have f18:=VO.out.free 18
 go_upto_region 10 with fail
 clear d18 f18 c18
 obtain ⟨o0,k0⟩:=VO.out.set 18 (.int .i64 x.zeros)
 have GG:=k0
 have oZ:Hid (VarAt (w15.setCell ⟨w.heap.size+1+1,18,none⟩ (.int .i64 x.zeros)) (w.heap.size+1+1) 51 [.string x.setup.tiles.letters,.slice r_setup.tiles.values.a x.setup.tiles.values.length r_setup.tiles.values.c,.slice r_setup.tiles.counts.a x.setup.tiles.counts.length r_setup.tiles.counts.c,.int .i64 x.setup.tiles.blanks,.slice r_setup.lexicon.a x.setup.lexicon.length r_setup.lexicon.c,.int .i64 x.setup.board.size,.string x.setup.board.premium,.string x.setup.board.cells,.int .i64 x.setup.seconds,.int .i64 x.setup.rule,.int .i64 x.board.size,.string x.board.premium,.string x.board.cells,.string x.bag,.slice (some ⟨r_racks,0,none⟩) x.racks.length x.racks.length,.slice (some ⟨r_scores,0,none⟩) x.scores.length x.scores.length,.slice (some ⟨r_clocks,0,none⟩) x.clocks.length x.clocks.length,.int .i64 x.player,.int .i64 x.zeros,.int .i64 0,.int .i64 0,.int .i64 0,.int .i64 0,.bool false,.string ⟨#[]⟩,.string ⟨#[]⟩,.string ⟨#[]⟩,.int .i64 0,.int .i64 0,.bool false]):=Lh o0
 clear VO o0 k0
 have VO:=oZ;clear oZ
 replace VI:=Lh (VI.out.grown GG (by simp;try omega))
 replace VR:=Lh (VR.out.grown GG (by simp;try omega))
 replace hb:=hb.grown GG hb.size (fun q h=>by cases h;omega)
 replace O_setup:=Lh (O_setup.out.store GG (by omega))
 replace O_racks:=Lh (row_store O_racks.out GG (by omega))
 replace O_scores:=Lh (row_store O_scores.out GG (by omega))
 replace O_clocks:=Lh (row_store O_clocks.out GG (by omega))
 clear GG
 generalize (w15.setCell ⟨w.heap.size+1+1,18,none⟩ (.int .i64 x.zeros))=w16 at *
 have c19:=VI.out.cell (i:=19) rfl
 have c20:=VI.out.cell (i:=20) rfl
 have c21:=VI.out.cell (i:=21) rfl
 have c22:=VI.out.cell (i:=22) rfl
 have c23:=VI.out.cell (i:=23) rfl
 have c24:=VI.out.cell (i:=24) rfl
 have c25:=VI.out.cell (i:=25) rfl
 have c26:=VI.out.cell (i:=26) rfl
 have c27:=VI.out.cell (i:=27) rfl
 have c28:=VI.out.cell (i:=28) rfl
 go_wp2_with fail
 refine (toLast_any x.last _).mono ?_
 rintro e w17 ⟨rfl,hd⟩
 replace O_setup:=Lh (O_setup.out.kept hd)
 replace O_racks:=Lh (own_below O_racks.out hd)
 replace O_scores:=Lh (own_below O_scores.out hd)
 replace O_clocks:=Lh (own_below O_clocks.out hd)
 replace VI:=Lh (VI.out.kept hd)
 replace VR:=Lh (VR.out.kept hd)
 replace VO:=Lh (VO.out.kept hd)
 replace hb:=hb.trans (hd.mono hb.size)
 clear hd c19 c20 c21 c22 c23 c24 c25 c26 c27 c28
 have d19:=VO.out.cell (i:=19) rfl
 have f19:=VO.out.free 19
 have d20:=VO.out.cell (i:=20) rfl
 have f20:=VO.out.free 20
 have d21:=VO.out.cell (i:=21) rfl
 have f21:=VO.out.free 21
 have d22:=VO.out.cell (i:=22) rfl
 have f22:=VO.out.free 22
 have d23:=VO.out.cell (i:=23) rfl
 have f23:=VO.out.free 23
 have d24:=VO.out.cell (i:=24) rfl
 have f24:=VO.out.free 24
 have d25:=VO.out.cell (i:=25) rfl
 have f25:=VO.out.free 25
 have d26:=VO.out.cell (i:=26) rfl
 have f26:=VO.out.free 26
 have d27:=VO.out.cell (i:=27) rfl
 have f27:=VO.out.free 27
 have d28:=VO.out.cell (i:=28) rfl
 have f28:=VO.out.free 28
 go_upto_region 11 with fail
 clear d19 f19 d20 f20 d21 f21 d22 f22 d23 f23 d24 f24 d25 f25 d26 f26 d27 f27 d28 f28
 obtain ⟨o0,k0⟩:=VO.out.set 19 (.int .i64 x.last.kind)
 obtain ⟨o1,k1⟩:=o0.set 20 (.int .i64 x.last.player)
 obtain ⟨o2,k2⟩:=o1.set 21 (.int .i64 x.last.play.row)
 obtain ⟨o3,k3⟩:=o2.set 22 (.int .i64 x.last.play.col)
 obtain ⟨o4,k4⟩:=o3.set 23 (.bool x.last.play.down)
 obtain ⟨o5,k5⟩:=o4.set 24 (.string x.last.play.word)
 obtain ⟨o6,k6⟩:=o5.set 25 (.string x.last.before)
 obtain ⟨o7,k7⟩:=o6.set 26 (.string x.last.drawn)
 obtain ⟨o8,k8⟩:=o7.set 27 (.int .i64 x.last.score)
 obtain ⟨o9,k9⟩:=o8.set 28 (.int .i64 x.last.zeros)
 have GG:=(grownBy_trans (grownBy_trans (grownBy_trans (grownBy_trans (grownBy_trans (grownBy_trans (grownBy_trans (grownBy_trans (grownBy_trans k0 k1) k2) k3) k4) k5) k6) k7) k8) k9)
 have oZ:Hid (VarAt ((((((((((w17.setCell ⟨w.heap.size+1+1,19,none⟩ (.int .i64 x.last.kind)).setCell ⟨w.heap.size+1+1,20,none⟩ (.int .i64 x.last.player)).setCell ⟨w.heap.size+1+1,21,none⟩ (.int .i64 x.last.play.row)).setCell ⟨w.heap.size+1+1,22,none⟩ (.int .i64 x.last.play.col)).setCell ⟨w.heap.size+1+1,23,none⟩ (.bool x.last.play.down)).setCell ⟨w.heap.size+1+1,24,none⟩ (.string x.last.play.word)).setCell ⟨w.heap.size+1+1,25,none⟩ (.string x.last.before)).setCell ⟨w.heap.size+1+1,26,none⟩ (.string x.last.drawn)).setCell ⟨w.heap.size+1+1,27,none⟩ (.int .i64 x.last.score)).setCell ⟨w.heap.size+1+1,28,none⟩ (.int .i64 x.last.zeros)) (w.heap.size+1+1) 51 [.string x.setup.tiles.letters,.slice r_setup.tiles.values.a x.setup.tiles.values.length r_setup.tiles.values.c,.slice r_setup.tiles.counts.a x.setup.tiles.counts.length r_setup.tiles.counts.c,.int .i64 x.setup.tiles.blanks,.slice r_setup.lexicon.a x.setup.lexicon.length r_setup.lexicon.c,.int .i64 x.setup.board.size,.string x.setup.board.premium,.string x.setup.board.cells,.int .i64 x.setup.seconds,.int .i64 x.setup.rule,.int .i64 x.board.size,.string x.board.premium,.string x.board.cells,.string x.bag,.slice (some ⟨r_racks,0,none⟩) x.racks.length x.racks.length,.slice (some ⟨r_scores,0,none⟩) x.scores.length x.scores.length,.slice (some ⟨r_clocks,0,none⟩) x.clocks.length x.clocks.length,.int .i64 x.player,.int .i64 x.zeros,.int .i64 x.last.kind,.int .i64 x.last.player,.int .i64 x.last.play.row,.int .i64 x.last.play.col,.bool x.last.play.down,.string x.last.play.word,.string x.last.before,.string x.last.drawn,.int .i64 x.last.score,.int .i64 x.last.zeros,.bool false]):=Lh o9
 clear VO o0 k0 o1 k1 o2 k2 o3 k3 o4 k4 o5 k5 o6 k6 o7 k7 o8 k8 o9 k9
 have VO:=oZ;clear oZ
 replace VI:=Lh (VI.out.grown GG (by simp;try omega))
 replace VR:=Lh (VR.out.grown GG (by simp;try omega))
 replace hb:=hb.grown GG hb.size (fun q h=>by cases h;omega)
 replace O_setup:=Lh (O_setup.out.store GG (by omega))
 replace O_racks:=Lh (row_store O_racks.out GG (by omega))
 replace O_scores:=Lh (row_store O_scores.out GG (by omega))
 replace O_clocks:=Lh (row_store O_clocks.out GG (by omega))
 clear GG
 generalize ((((((((((w17.setCell ⟨w.heap.size+1+1,19,none⟩ (.int .i64 x.last.kind)).setCell ⟨w.heap.size+1+1,20,none⟩ (.int .i64 x.last.player)).setCell ⟨w.heap.size+1+1,21,none⟩ (.int .i64 x.last.play.row)).setCell ⟨w.heap.size+1+1,22,none⟩ (.int .i64 x.last.play.col)).setCell ⟨w.heap.size+1+1,23,none⟩ (.bool x.last.play.down)).setCell ⟨w.heap.size+1+1,24,none⟩ (.string x.last.play.word)).setCell ⟨w.heap.size+1+1,25,none⟩ (.string x.last.before)).setCell ⟨w.heap.size+1+1,26,none⟩ (.string x.last.drawn)).setCell ⟨w.heap.size+1+1,27,none⟩ (.int .i64 x.last.score)).setCell ⟨w.heap.size+1+1,28,none⟩ (.int .i64 x.last.zeros))=w18 at *
 have c29:=VI.out.cell (i:=29) rfl
 have d29:=VO.out.cell (i:=29) rfl
 have f29:=VO.out.free 29
 go_upto_region 12 with fail
 clear d29 f29 c29
 obtain ⟨o0,k0⟩:=VO.out.set 29 (.bool x.over)
 have GG:=k0
 have oZ:Hid (VarAt (w18.setCell ⟨w.heap.size+1+1,29,none⟩ (.bool x.over)) (w.heap.size+1+1) 51 [.string x.setup.tiles.letters,.slice r_setup.tiles.values.a x.setup.tiles.values.length r_setup.tiles.values.c,.slice r_setup.tiles.counts.a x.setup.tiles.counts.length r_setup.tiles.counts.c,.int .i64 x.setup.tiles.blanks,.slice r_setup.lexicon.a x.setup.lexicon.length r_setup.lexicon.c,.int .i64 x.setup.board.size,.string x.setup.board.premium,.string x.setup.board.cells,.int .i64 x.setup.seconds,.int .i64 x.setup.rule,.int .i64 x.board.size,.string x.board.premium,.string x.board.cells,.string x.bag,.slice (some ⟨r_racks,0,none⟩) x.racks.length x.racks.length,.slice (some ⟨r_scores,0,none⟩) x.scores.length x.scores.length,.slice (some ⟨r_clocks,0,none⟩) x.clocks.length x.clocks.length,.int .i64 x.player,.int .i64 x.zeros,.int .i64 x.last.kind,.int .i64 x.last.player,.int .i64 x.last.play.row,.int .i64 x.last.play.col,.bool x.last.play.down,.string x.last.play.word,.string x.last.before,.string x.last.drawn,.int .i64 x.last.score,.int .i64 x.last.zeros,.bool x.over]):=Lh o0
 clear VO o0 k0
 have VO:=oZ;clear oZ
 replace VI:=Lh (VI.out.grown GG (by simp;try omega))
 replace VR:=Lh (VR.out.grown GG (by simp;try omega))
 replace hb:=hb.grown GG hb.size (fun q h=>by cases h;omega)
 replace O_setup:=Lh (O_setup.out.store GG (by omega))
 replace O_racks:=Lh (row_store O_racks.out GG (by omega))
 replace O_scores:=Lh (row_store O_scores.out GG (by omega))
 replace O_clocks:=Lh (row_store O_clocks.out GG (by omega))
 clear GG
 generalize (w18.setCell ⟨w.heap.size+1+1,29,none⟩ (.bool x.over))=w19 at *
 have rO:=VO.out.range
 have tR:=VR.out.there (n:=30) rfl
 have rZ:=World.rangeAt_setCells_same w19 (w.heap.size+1) 0 [.string x.setup.tiles.letters,.slice r_setup.tiles.values.a x.setup.tiles.values.length r_setup.tiles.values.c,.slice r_setup.tiles.counts.a x.setup.tiles.counts.length r_setup.tiles.counts.c,.int .i64 x.setup.tiles.blanks,.slice r_setup.lexicon.a x.setup.lexicon.length r_setup.lexicon.c,.int .i64 x.setup.board.size,.string x.setup.board.premium,.string x.setup.board.cells,.int .i64 x.setup.seconds,.int .i64 x.setup.rule,.int .i64 x.board.size,.string x.board.premium,.string x.board.cells,.string x.bag,.slice (some ⟨r_racks,0,none⟩) x.racks.length x.racks.length,.slice (some ⟨r_scores,0,none⟩) x.scores.length x.scores.length,.slice (some ⟨r_clocks,0,none⟩) x.clocks.length x.clocks.length,.int .i64 x.player,.int .i64 x.zeros,.int .i64 x.last.kind,.int .i64 x.last.player,.int .i64 x.last.play.row,.int .i64 x.last.play.col,.bool x.last.play.down,.string x.last.play.word,.string x.last.before,.string x.last.drawn,.int .i64 x.last.score,.int .i64 x.last.zeros,.bool x.over] tR
 have GG:=set_cells (w.heap.size+1) 51 [.string x.setup.tiles.letters,.slice r_setup.tiles.values.a x.setup.tiles.values.length r_setup.tiles.values.c,.slice r_setup.tiles.counts.a x.setup.tiles.counts.length r_setup.tiles.counts.c,.int .i64 x.setup.tiles.blanks,.slice r_setup.lexicon.a x.setup.lexicon.length r_setup.lexicon.c,.int .i64 x.setup.board.size,.string x.setup.board.premium,.string x.setup.board.cells,.int .i64 x.setup.seconds,.int .i64 x.setup.rule,.int .i64 x.board.size,.string x.board.premium,.string x.board.cells,.string x.bag,.slice (some ⟨r_racks,0,none⟩) x.racks.length x.racks.length,.slice (some ⟨r_scores,0,none⟩) x.scores.length x.scores.length,.slice (some ⟨r_clocks,0,none⟩) x.clocks.length x.clocks.length,.int .i64 x.player,.int .i64 x.zeros,.int .i64 x.last.kind,.int .i64 x.last.player,.int .i64 x.last.play.row,.int .i64 x.last.play.col,.bool x.last.play.down,.string x.last.play.word,.string x.last.before,.string x.last.drawn,.int .i64 x.last.score,.int .i64 x.last.zeros,.bool x.over] 0 w19 _ VR.out
 have hb9:=hb.grown GG hb.size (fun q h=>by cases h;omega)
 replace O_setup:=Lh (O_setup.out.store GG (by omega))
 replace O_racks:=Lh (row_store O_racks.out GG (by omega))
 replace O_scores:=Lh (row_store O_scores.out GG (by omega))
 replace O_clocks:=Lh (row_store O_clocks.out GG (by omega))
 clear GG VI VR VO hb
 refine wp_region_list ?_
 refine wpList_load_mid rfl 51 _ rfl (w.heap.size+1+1) 0 rfl [.string x.setup.tiles.letters,.slice r_setup.tiles.values.a x.setup.tiles.values.length r_setup.tiles.values.c,.slice r_setup.tiles.counts.a x.setup.tiles.counts.length r_setup.tiles.counts.c,.int .i64 x.setup.tiles.blanks,.slice r_setup.lexicon.a x.setup.lexicon.length r_setup.lexicon.c,.int .i64 x.setup.board.size,.string x.setup.board.premium,.string x.setup.board.cells,.int .i64 x.setup.seconds,.int .i64 x.setup.rule,.int .i64 x.board.size,.string x.board.premium,.string x.board.cells,.string x.bag,.slice (some ⟨r_racks,0,none⟩) x.racks.length x.racks.length,.slice (some ⟨r_scores,0,none⟩) x.scores.length x.scores.length,.slice (some ⟨r_clocks,0,none⟩) x.clocks.length x.clocks.length,.int .i64 x.player,.int .i64 x.zeros,.int .i64 x.last.kind,.int .i64 x.last.player,.int .i64 x.last.play.row,.int .i64 x.last.play.col,.bool x.last.play.down,.string x.last.play.word,.string x.last.before,.string x.last.drawn,.int .i64 x.last.score,.int .i64 x.last.zeros,.bool x.over] _ rO Tryz.underlying51 rfl (by kernel_rfl) ?_
 refine wpList_store_mid rfl 51 _ _ rfl (w.heap.size+1) 0 #[.string x.setup.tiles.letters,.slice r_setup.tiles.values.a x.setup.tiles.values.length r_setup.tiles.values.c,.slice r_setup.tiles.counts.a x.setup.tiles.counts.length r_setup.tiles.counts.c,.int .i64 x.setup.tiles.blanks,.slice r_setup.lexicon.a x.setup.lexicon.length r_setup.lexicon.c,.int .i64 x.setup.board.size,.string x.setup.board.premium,.string x.setup.board.cells,.int .i64 x.setup.seconds,.int .i64 x.setup.rule,.int .i64 x.board.size,.string x.board.premium,.string x.board.cells,.string x.bag,.slice (some ⟨r_racks,0,none⟩) x.racks.length x.racks.length,.slice (some ⟨r_scores,0,none⟩) x.scores.length x.scores.length,.slice (some ⟨r_clocks,0,none⟩) x.clocks.length x.clocks.length,.int .i64 x.player,.int .i64 x.zeros,.int .i64 x.last.kind,.int .i64 x.last.player,.int .i64 x.last.play.row,.int .i64 x.last.play.col,.bool x.last.play.down,.string x.last.play.word,.string x.last.before,.string x.last.drawn,.int .i64 x.last.score,.int .i64 x.last.zeros,.bool x.over] rfl rfl tR (by kernel_rfl) (by simp [Value.oneCell']) ?_
 clear rO tR
 change wpList _ _ _ _ _ (w19.setCells (w.heap.size+1) 0 [.string x.setup.tiles.letters,.slice r_setup.tiles.values.a x.setup.tiles.values.length r_setup.tiles.values.c,.slice r_setup.tiles.counts.a x.setup.tiles.counts.length r_setup.tiles.counts.c,.int .i64 x.setup.tiles.blanks,.slice r_setup.lexicon.a x.setup.lexicon.length r_setup.lexicon.c,.int .i64 x.setup.board.size,.string x.setup.board.premium,.string x.setup.board.cells,.int .i64 x.setup.seconds,.int .i64 x.setup.rule,.int .i64 x.board.size,.string x.board.premium,.string x.board.cells,.string x.bag,.slice (some ⟨r_racks,0,none⟩) x.racks.length x.racks.length,.slice (some ⟨r_scores,0,none⟩) x.scores.length x.scores.length,.slice (some ⟨r_clocks,0,none⟩) x.clocks.length x.clocks.length,.int .i64 x.player,.int .i64 x.zeros,.int .i64 x.last.kind,.int .i64 x.last.player,.int .i64 x.last.play.row,.int .i64 x.last.play.col,.bool x.last.play.down,.string x.last.play.word,.string x.last.before,.string x.last.drawn,.int .i64 x.last.score,.int .i64 x.last.zeros,.bool x.over])
 generalize w19.setCells (w.heap.size+1) 0 [.string x.setup.tiles.letters,.slice r_setup.tiles.values.a x.setup.tiles.values.length r_setup.tiles.values.c,.slice r_setup.tiles.counts.a x.setup.tiles.counts.length r_setup.tiles.counts.c,.int .i64 x.setup.tiles.blanks,.slice r_setup.lexicon.a x.setup.lexicon.length r_setup.lexicon.c,.int .i64 x.setup.board.size,.string x.setup.board.premium,.string x.setup.board.cells,.int .i64 x.setup.seconds,.int .i64 x.setup.rule,.int .i64 x.board.size,.string x.board.premium,.string x.board.cells,.string x.bag,.slice (some ⟨r_racks,0,none⟩) x.racks.length x.racks.length,.slice (some ⟨r_scores,0,none⟩) x.scores.length x.scores.length,.slice (some ⟨r_clocks,0,none⟩) x.clocks.length x.clocks.length,.int .i64 x.player,.int .i64 x.zeros,.int .i64 x.last.kind,.int .i64 x.last.player,.int .i64 x.last.play.row,.int .i64 x.last.play.col,.bool x.last.play.down,.string x.last.play.word,.string x.last.before,.string x.last.drawn,.int .i64 x.last.score,.int .i64 x.last.zeros,.bool x.over]=wZ at *
 have hV:(loadVar 51 ⟨w.heap.size+1,0,none⟩).run Tryz.prog wZ=.ok (.agg #[.string x.setup.tiles.letters,.slice r_setup.tiles.values.a x.setup.tiles.values.length r_setup.tiles.values.c,.slice r_setup.tiles.counts.a x.setup.tiles.counts.length r_setup.tiles.counts.c,.int .i64 x.setup.tiles.blanks,.slice r_setup.lexicon.a x.setup.lexicon.length r_setup.lexicon.c,.int .i64 x.setup.board.size,.string x.setup.board.premium,.string x.setup.board.cells,.int .i64 x.setup.seconds,.int .i64 x.setup.rule,.int .i64 x.board.size,.string x.board.premium,.string x.board.cells,.string x.bag,.slice (some ⟨r_racks,0,none⟩) x.racks.length x.racks.length,.slice (some ⟨r_scores,0,none⟩) x.scores.length x.scores.length,.slice (some ⟨r_clocks,0,none⟩) x.clocks.length x.clocks.length,.int .i64 x.player,.int .i64 x.zeros,.int .i64 x.last.kind,.int .i64 x.last.player,.int .i64 x.last.play.row,.int .i64 x.last.play.col,.bool x.last.play.down,.string x.last.play.word,.string x.last.before,.string x.last.drawn,.int .i64 x.last.score,.int .i64 x.last.zeros,.bool x.over]) wZ:=run_loadVar_mid wZ _ 0 51 [.string x.setup.tiles.letters,.slice r_setup.tiles.values.a x.setup.tiles.values.length r_setup.tiles.values.c,.slice r_setup.tiles.counts.a x.setup.tiles.counts.length r_setup.tiles.counts.c,.int .i64 x.setup.tiles.blanks,.slice r_setup.lexicon.a x.setup.lexicon.length r_setup.lexicon.c,.int .i64 x.setup.board.size,.string x.setup.board.premium,.string x.setup.board.cells,.int .i64 x.setup.seconds,.int .i64 x.setup.rule,.int .i64 x.board.size,.string x.board.premium,.string x.board.cells,.string x.bag,.slice (some ⟨r_racks,0,none⟩) x.racks.length x.racks.length,.slice (some ⟨r_scores,0,none⟩) x.scores.length x.scores.length,.slice (some ⟨r_clocks,0,none⟩) x.clocks.length x.clocks.length,.int .i64 x.player,.int .i64 x.zeros,.int .i64 x.last.kind,.int .i64 x.last.player,.int .i64 x.last.play.row,.int .i64 x.last.play.col,.bool x.last.play.down,.string x.last.play.word,.string x.last.before,.string x.last.drawn,.int .i64 x.last.score,.int .i64 x.last.zeros,.bool x.over] _ rZ Tryz.underlying51 rfl (by kernel_rfl)
 have HV:=Lh hV
 clear rZ hV
 go_wp2
 refine bodyPost_ret (results_cell_var Tryz.results14 _ _ _ _ rfl HV.out) rfl ?_
 exact ⟨⟨r_setup,⟨some ⟨r_racks,0,none⟩,x.racks.length⟩,⟨some ⟨r_scores,0,none⟩,x.scores.length⟩,⟨some ⟨r_clocks,0,none⟩,x.clocks.length⟩⟩,rfl,⟨O_setup.out.mono (by omega),own_mono O_racks.out (by omega),own_mono O_scores.out (by omega),own_mono O_clocks.out (by omega)⟩,⟨A_setup,A_racks,A_scores,B_scores,A_clocks,B_clocks,C_clocks⟩,hb9⟩
theorem toGame_any (x:Gam) (p:GaA) (w:World) (ha:x.At p w) (hs:x.small) :
  Calls Tryz.prog 14 #[.agg #[.string x.setup.tiles.letters,.slice p.setup.tiles.values.a x.setup.tiles.values.length p.setup.tiles.values.c,.slice p.setup.tiles.counts.a x.setup.tiles.counts.length p.setup.tiles.counts.c,.int .i64 x.setup.tiles.blanks,.slice p.setup.lexicon.a x.setup.lexicon.length p.setup.lexicon.c,.int .i64 x.setup.board.size,.string x.setup.board.premium,.string x.setup.board.cells,.int .i64 x.setup.seconds,.int .i64 x.setup.rule,.int .i64 x.board.size,.string x.board.premium,.string x.board.cells,.string x.bag,.slice p.racks.a x.racks.length p.racks.c,.slice p.scores.a x.scores.length p.scores.c,.slice p.clocks.a x.clocks.length p.clocks.c,.int .i64 x.player,.int .i64 x.zeros,.int .i64 x.last.kind,.int .i64 x.last.player,.int .i64 x.last.play.row,.int .i64 x.last.play.col,.bool x.last.play.down,.string x.last.play.word,.string x.last.before,.string x.last.drawn,.int .i64 x.last.score,.int .i64 x.last.zeros,.bool x.over]] w fun e w'=>∃ q:GaA,e=.returned (.agg #[.string x.setup.tiles.letters,.slice q.setup.tiles.values.a x.setup.tiles.values.length q.setup.tiles.values.c,.slice q.setup.tiles.counts.a x.setup.tiles.counts.length q.setup.tiles.counts.c,.int .i64 x.setup.tiles.blanks,.slice q.setup.lexicon.a x.setup.lexicon.length q.setup.lexicon.c,.int .i64 x.setup.board.size,.string x.setup.board.premium,.string x.setup.board.cells,.int .i64 x.setup.seconds,.int .i64 x.setup.rule,.int .i64 x.board.size,.string x.board.premium,.string x.board.cells,.string x.bag,.slice q.racks.a x.racks.length q.racks.c,.slice q.scores.a x.scores.length q.scores.c,.slice q.clocks.a x.clocks.length q.clocks.c,.int .i64 x.player,.int .i64 x.zeros,.int .i64 x.last.kind,.int .i64 x.last.player,.int .i64 x.last.play.row,.int .i64 x.last.play.col,.bool x.last.play.down,.string x.last.play.word,.string x.last.before,.string x.last.drawn,.int .i64 x.last.score,.int .i64 x.last.zeros,.bool x.over])∧x.Own q w.heap.size w'∧Below w.heap.size w w' :=
 (toGameA_any x p w ha hs).mono (by
  rintro e w' ⟨q,rfl,ho,_,hd⟩
  exact ⟨q,rfl,ho,hd⟩)
end Go.Proofs.YtalnbgcdhcnjfaaGreatDoor
