/- Contracts: the program's bags, all tiles of a tile set, setups. Go's tables of unicode and unicode/utf8 hold what is laid (CEnv), internal/bytealg's MaxLen a number (EnvL). -/
import Derived.Test.YtgphkffbbmmmmaaGreatDoorGmM
import Derived.Test.YtgphkffbbmmmmaaGreatDoorLgH
set_option maxRecDepth 100000
set_option maxHeartbeats 4000000
namespace Go.Proofs.YtgphkffbbmmmmaaGreatDoor
open Go.ChangeShapes Go.WideShapes Go.ChangeAt Go.RowKit Go.Sort

theorem ValidBag_any (s:ByteArray) (w:World) (hs:s.size≤9223372036854775807):Calls Tryz.prog 72 #[.string s] w fun e w'=>e=.returned (.bool (bagOk s.data.toList))∧w=w':=by
 by_cases h1:s.size≤120
 ·have HN:Hid (bagOk s.data.toList=s.data.toList.all tileB):=Lh (by
   unfold bagOk
   rw [decide_eq_true (by simpa using h1),Bool.and_true])
  have HOT:Hid (∀ W,Calls Tryz.prog 115 #[.string s] W fun e w'=>e=.returned (.bool (s.data.toList.all tileB))∧W=w'):=Lh (fun W=>onlyTiles_any s W hs)
  generalize s.data.toList.all tileB=r at *
  go_enter Tryz.func72,Tryz.ntmps72
  go_wp2_with fail
  refine (HOT.out _).mono ?_
  rintro e w' ⟨rfl,rfl⟩
  go_wp2
  go_ret
  exact ⟨ret_bool HN.out.symm,rfl⟩
 ·have HN:Hid (bagOk s.data.toList=false):=Lh (by
   unfold bagOk
   rw [decide_eq_false (by simpa using h1),Bool.and_false])
  go_enter Tryz.func72,Tryz.ntmps72
  go_wp2
  go_ret
  exact ⟨ret_bool HN.out.symm,rfl⟩
theorem lays166:Lays.n166 Tryz.prog Tryz.lays155_ren:={ Tryz.lays155 with }
theorem builderWrite_any (B b:Nat) (l:List UInt8) (s:ByteArray) (w:World) (h:IsB B b l w) (hl:l.length+s.size≤140737488355328) (hB:B≤w.heap.size) :
  Calls Tryz.prog 110 #[.pointer (some ⟨b,0,none⟩),.string s] w fun e w'=>e=.returned (.tuple #[.int .i64 s.size,.nilIface])∧IsB B b (l++s.data.toList) w'∧Below B w w':=by
 refine (Any.Builder_WriteString_k lays166 Tryz.Builder_Extra_155 B b (Lib.byteCells l) s w h (by simpa [Lib.byteCells] using hl) hB).mono ?_
 rintro e w' ⟨he,h1,h2,h3⟩
 refine ⟨he,.inr ?_,h2⟩
 rw [Lib.byteCells_append]
 exact h1
theorem repeat_one (c:UInt8):∀ n,Lib.repeatL [c] n=List.replicate n c
 | 0=>rfl
 | n+1=>by unfold Lib.repeatL;rw [repeat_one c n,List.replicate_succ];rfl
theorem repeatOne_any (s:ByteArray) (c:UInt8) (n:Nat) (w:World) (hs:s.data.toList=[c]) (hn:n≤100000) :
  Calls Tryz.prog 108 #[.string s,.int .i64 (n:Int)] w (StrPost w (List.replicate n c)):=by
 have hz:s.size=1:=by
  have:=congrArg List.length hs
  simpa using this
 refine (Tryz.strings_Repeat s n w (by omega) (by rw [hz];omega)).mono ?_
 rintro e w' ⟨rfl,hd⟩
 rw [hs,repeat_one]
 exact ⟨rfl,hd⟩
theorem allTiles_any (x:Tls) (q:TlA) (w:World) (ha:x.At q w) (hk:x.ok=true) :
  Calls Tryz.prog 69 #[.agg #[.string x.letters,.slice q.values.a x.values.length q.values.c,.slice q.counts.a x.counts.length q.counts.c,.int .i64 x.blanks]] w (StrPost w (allL x)):=by
 have hx:=Tls.good hk
 obtain ⟨hbl,hcr⟩:=Tls.counts_rng hk
 have hb0:Below w.heap.size w (w.alloc (.cells #[.string x.letters,.slice q.values.a x.values.length q.values.c,.slice q.counts.a x.counts.length q.counts.c,.int .i64 x.blanks] 24)):=(Below.refl _ _).alloc (Nat.le_refl _) _
 have HT:=Lh (TAt.new w x q 24 ha)
 have hz0:w.heap.size < (w.alloc (.cells #[.string x.letters,.slice q.values.a x.values.length q.values.c,.slice q.counts.a x.counts.length q.counts.c,.int .i64 x.blanks] 24)).heap.size:=by simp
 have H3:=Lh hx.counts
 have h26:=hx.hi
 have HST:=Lh (fun i=>allK_succ x i)
 have HLN:Hid (∀ i,(allK x i).length≤4+20 * i):=Lh (fun i=>allK_len x hbl.2 (fun j=>(hcr j).2) i)
 have HR0:Hid (∀ W,Calls Tryz.prog 108 #[.string ⟨#[63]⟩,.int .i64 x.blanks] W (StrPost W (allK x 0))):=Lh (fun W=>by
  have:=repeatOne_any ⟨#[63]⟩ 63 x.blanks.toNat W rfl (by omega)
  rw [show ((x.blanks.toNat:Nat):Int)=x.blanks from by omega] at this
  rw [allK_zero]
  exact this)
 have HRI:Hid (∀ i (_:i < x.letters.size) W,Calls Tryz.prog 108 #[.string (x.letters.extract i (i+1)),.int .i64 (x.counts.getD i 0)] W (StrPost W (List.replicate (x.counts.getD i 0).toNat (x.letters.data.toList.getD i 0)))):=Lh (fun i h W=>by
  have h1:=hcr i
  have:=repeatOne_any (x.letters.extract i (i+1)) (x.letters.data.toList.getD i 0) (x.counts.getD i 0).toNat W (by
   have hl:i < x.letters.data.toList.length:=by simpa using h
   rw [u8_at hl,show (x.letters.extract i (i+1)).data.toList=(x.letters.data.toList.take (i+1)).drop i from by simp [List.drop_take],List.take_succ_eq_append_getElem hl,List.drop_append_of_le_length (by simp;omega),List.drop_eq_nil_of_le (by simp;omega)]
   rfl) (by omega)
  rw [show (((x.counts.getD i 0).toNat:Nat):Int)=x.counts.getD i 0 from by omega] at this
  exact this)
 clear hx hk hcr ha
 unfold allL
 go_enter Tryz.func69,Tryz.ntmps69
 go_upto_region 1 with fail
 generalize w.alloc (.cells #[.string x.letters,.slice q.values.a x.values.length q.values.c,.slice q.counts.a x.counts.length q.counts.c,.int .i64 x.blanks] 24)=w1 at *
 have HB:=Lh (IsB.new w1)
 have hb:Below w1.heap.size w1 (w1.alloc (.cells #[.pointer none,.slice none 0 0] 128)):=(Below.refl _ _).alloc (Nat.le_refl _) _
 have HTK:Hid (∀ W,Below w1.heap.size w1 W→TAt W w.heap.size x q):=Lh (fun W h=>HT.out.kept h)
 have HEN:Hid (∀ W,Below w1.heap.size w1 W→Below w.heap.size w W):=Lh (fun W h=>hb0.trans (h.mono hb0.size))
 have hB2:w1.heap.size≤(w1.alloc (.cells #[.pointer none,.slice none 0 0] 128)).heap.size:=hb.size
 clear hb0 HT
 go_upto_region 2 with fail
 generalize w1.alloc (.cells #[.pointer none,.slice none 0 0] 128)=w2 at *
 generalize w1.heap.size=B at *
 obtain ⟨c0,c1,c2,c3⟩:=(HTK.out _ hb).1
 have hzB:w.heap.size < B:=hz0
 go_wp2_with fail
 refine (HR0.out _).mono ?_
 rintro e w3 ⟨rfl,hd⟩
 replace HB:=Lh (HB.out.kept hd)
 replace hb:=hb.trans (hd.mono hB2)
 replace hB2:=Nat.le_trans hB2 hd.size
 clear c0 c1 c2 c3 HR0 hd
 have hl0:=HLN.out 0
 go_wp2_with fail
 refine (builderWrite_any B B [] (mkB (allK x 0)) _ HB.out (by rw [mkB_size];simp;omega) hB2).mono ?_
 rintro e w4 ⟨rfl,hB4,hd⟩
 rw [mkB_data,List.nil_append] at hB4
 replace HB:=Lh hB4
 replace hb:=hb.trans hd
 replace hB2:=Nat.le_trans hB2 hd.size
 clear hB4 hd hl0
 obtain ⟨c0,c1,c2,c3⟩:=(HTK.out _ hb).1
 have hcl:x.counts.length=x.letters.size:=H3.out
 rw [hcl] at c2
 go_upto_region 4 with fail
 clear c0 c1 c2 c3 hcl
 go_loopw [4,5,13] (fun kv nv iv wr=>∃ k:Nat,k≤x.letters.size∧iv=.int .i64 k∧Hid (IsB B B (allK x k) wr)∧B≤wr.heap.size∧Below B w1 wr) (fun _ _ iv _=>x.letters.size - (intOf iv).toNat)
 case atStart=>exact ⟨0,Nat.zero_le _,rfl,HB,hB2,hb⟩
 case round =>
  clear HB hB2 hb
  obtain ⟨k,hk,rfl,HB,hB2,hb⟩:=hrel
  by_cases hkl:k < x.letters.size
  ·have hkc:k < x.counts.length:=by rw [H3.out];exact hkl
   obtain ⟨cb,co,hca,vc⟩:=num_cell ((HTK.out _ hb).2.2) hkc
   have HCA:=Lh hca
   obtain ⟨c0,c1,c2,c3⟩:=(HTK.out _ hb).1
   have hcl:x.counts.length=x.letters.size:=H3.out
   rw [hcl] at c2
   have HRK:=Lh (HRI.out k hkl)
   have HS:=Lh (HST.out k)
   have hl1:=HLN.out k
   have hl2:=HLN.out (k+1)
   rw [HS.out,List.length_append] at hl2
   clear hcl hca
   generalize x.counts.getD k 0=cc at *
   generalize List.replicate cc.toNat (x.letters.data.toList.getD k 0)=rp at *
   rw [HCA.out]
   clear c1 c2 c3
   go_wp2_with fail
   refine (HRK.out _).mono ?_
   rintro e w5 ⟨rfl,hd⟩
   replace HB:=Lh (HB.out.kept hd)
   replace hb:=hb.trans (hd.mono hB2)
   replace hB2:=Nat.le_trans hB2 hd.size
   clear hd HRK c0 vc
   go_wp2_with fail
   refine (builderWrite_any B B (allK x k) (mkB rp) _ HB.out (by rw [mkB_size];omega) hB2).mono ?_
   rintro e w6 ⟨rfl,hB4,hd⟩
   rw [mkB_data,← HS.out] at hB4
   have HBN:=Lh hB4
   replace hb:=hb.trans hd
   replace hB2:=Nat.le_trans hB2 hd.size
   clear hB4 hd HB HS
   go_wp2
   go_roundw
   case rel=>exact ⟨k+1,by omega,by go_num,HBN,hB2,hb⟩
   case measure=>simp [intOf];omega
  ·obtain rfl:k=x.letters.size:=by omega
   go_wp2_with fail
   refine (builderString_any B B _ _ HB.out hB2).mono ?_
   rintro e w5 ⟨rfl,hd⟩
   have hE:=HEN.out _ (hb.trans hd)
   clear hd HB
   go_wp2
   go_ret
   exact ⟨rfl,hE⟩
/-! ### Setups -/
theorem ValidSetup_any (s:Stp) (q:StA) (w:World) (ha:s.At q w) (hf:s.fit) (hz:s.tiles.letters.size≤1048576) (hL:EnvL w) :
  Calls Tryz.prog 71 #[.agg #[.string s.tiles.letters,.slice q.tiles.values.a s.tiles.values.length q.tiles.values.c,.slice q.tiles.counts.a s.tiles.counts.length q.tiles.counts.c,.int .i64 s.tiles.blanks,.slice q.lexicon.a s.lexicon.length q.lexicon.c,.int .i64 s.board.size,.string s.board.premium,.string s.board.cells,.int .i64 s.seconds,.int .i64 s.rule]] w fun e w'=>e=.returned (.bool s.ok)∧Below w.heap.size w w':=by
 obtain ⟨hf1,⟨hf2,hf3⟩,hf4⟩:=hf
 have hb:Below w.heap.size w (w.alloc (.cells #[.string s.tiles.letters,.slice q.tiles.values.a s.tiles.values.length q.tiles.values.c,.slice q.tiles.counts.a s.tiles.counts.length q.tiles.counts.c,.int .i64 s.tiles.blanks,.slice q.lexicon.a s.lexicon.length q.lexicon.c,.int .i64 s.board.size,.string s.board.premium,.string s.board.cells,.int .i64 s.seconds,.int .i64 s.rule] 31)):=(Below.refl _ _).alloc (Nat.le_refl _) _
 have V:=Lh (VarAt.new w 31 [.string s.tiles.letters,.slice q.tiles.values.a s.tiles.values.length q.tiles.values.c,.slice q.tiles.counts.a s.tiles.counts.length q.tiles.counts.c,.int .i64 s.tiles.blanks,.slice q.lexicon.a s.lexicon.length q.lexicon.c,.int .i64 s.board.size,.string s.board.premium,.string s.board.cells,.int .i64 s.seconds,.int .i64 s.rule])
 have HA:=Lh (Stp.At.kept ha hb)
 have HEL:=Lh (hL.kept hb)
 have HF3:=Lh hf3
 clear ha hf3 hL
 have HVT:Hid (∀ W,s.tiles.At q.tiles W→Calls Tryz.prog 68 #[.agg #[.string s.tiles.letters,.slice q.tiles.values.a s.tiles.values.length q.tiles.values.c,.slice q.tiles.counts.a s.tiles.counts.length q.tiles.counts.c,.int .i64 s.tiles.blanks]] W fun e w'=>e=.returned (.bool s.tiles.ok)∧Below W.heap.size W w'):=Lh (fun W h=>ValidTiles_any s.tiles q.tiles W h hf1 hz)
 have HVL:Hid (∀ W,SliceAt W 1 Tx.enc q.lexicon.a s.lexicon→Calls Tryz.prog 113 #[.agg #[.slice q.lexicon.a s.lexicon.length q.lexicon.c]] W fun e w'=>e=.returned (.bool (lexOk s.lexicon))∧Below W.heap.size W w'):=Lh (fun W h=>ValidLexicon_any s.lexicon q.lexicon.a q.lexicon.c W h hf2 HF3.out)
 have HVB:Hid (∀ W,Calls Tryz.prog 84 #[.agg #[.int .i64 s.board.size,.string s.board.premium,.string s.board.cells]] W fun e w'=>e=.returned (.bool s.board.ok)∧Below W.heap.size W w'):=Lh (fun W=>ValidBoard_any s.board W hf4)
 have HBK:Hid (s.board.ok=true→∀ W,EnvL W→Calls Tryz.prog 114 #[.agg #[.int .i64 s.board.size,.string s.board.premium,.string s.board.cells]] W fun e w'=>e=.returned (.bool s.board.blank)∧Below W.heap.size W w'):=Lh (fun hk W h=>blank_any s.board W (board_225 hk) h)
 cases h1:s.tiles.ok with
 | false =>
  have HN:=Lh (setup_no1 h1)
  generalize s.ok=ans at *
  go_enter Tryz.func71,Tryz.ntmps71
  go_upto_region 1 with fail
  generalize w.alloc (.cells #[.string s.tiles.letters,.slice q.tiles.values.a s.tiles.values.length q.tiles.values.c,.slice q.tiles.counts.a s.tiles.counts.length q.tiles.counts.c,.int .i64 s.tiles.blanks,.slice q.lexicon.a s.lexicon.length q.lexicon.c,.int .i64 s.board.size,.string s.board.premium,.string s.board.cells,.int .i64 s.seconds,.int .i64 s.rule] 31)=w1 at *
  have c0:=V.out.cell (i:=0) rfl
  have c1:=V.out.cell (i:=1) rfl
  have c2:=V.out.cell (i:=2) rfl
  have c3:=V.out.cell (i:=3) rfl
  go_wp2_with fail
  refine (HVT.out _ (HA.out.1)).mono ?_
  rintro e w2 ⟨rfl,hd⟩
  rw [h1]
  clear c0 c1 c2 c3
  replace HA:=Lh (Stp.At.kept HA.out hd)
  replace hb:=hb.trans (hd.mono hb.size)
  replace V:=Lh (V.out.kept hd)
  replace HEL:=Lh (HEL.out.kept hd)
  clear hd
  go_wp2
  go_ret
  exact ⟨ret_bool HN.out.symm,hb⟩
 | true =>
  cases h2:lexOk s.lexicon with
  | false =>
   have HN:=Lh (setup_no2 h2)
   generalize s.ok=ans at *
   go_enter Tryz.func71,Tryz.ntmps71
   go_upto_region 1 with fail
   generalize w.alloc (.cells #[.string s.tiles.letters,.slice q.tiles.values.a s.tiles.values.length q.tiles.values.c,.slice q.tiles.counts.a s.tiles.counts.length q.tiles.counts.c,.int .i64 s.tiles.blanks,.slice q.lexicon.a s.lexicon.length q.lexicon.c,.int .i64 s.board.size,.string s.board.premium,.string s.board.cells,.int .i64 s.seconds,.int .i64 s.rule] 31)=w1 at *
   have c0:=V.out.cell (i:=0) rfl
   have c1:=V.out.cell (i:=1) rfl
   have c2:=V.out.cell (i:=2) rfl
   have c3:=V.out.cell (i:=3) rfl
   go_wp2_with fail
   refine (HVT.out _ (HA.out.1)).mono ?_
   rintro e w2 ⟨rfl,hd⟩
   rw [h1]
   clear c0 c1 c2 c3
   replace HA:=Lh (Stp.At.kept HA.out hd)
   replace hb:=hb.trans (hd.mono hb.size)
   replace V:=Lh (V.out.kept hd)
   replace HEL:=Lh (HEL.out.kept hd)
   clear hd
   have c4:=V.out.cell (i:=4) rfl
   go_wp2_with fail
   refine (HVL.out _ (HA.out.2)).mono ?_
   rintro e w3 ⟨rfl,hd⟩
   rw [h2]
   clear c4
   replace hb:=hb.trans (hd.mono hb.size)
   replace V:=Lh (V.out.kept hd)
   replace HEL:=Lh (HEL.out.kept hd)
   clear hd
   go_wp2
   go_ret
   exact ⟨ret_bool HN.out.symm,hb⟩
  | true =>
   cases h3:s.board.ok with
   | false =>
    have HN:=Lh (setup_no3 h3)
    generalize s.ok=ans at *
    go_enter Tryz.func71,Tryz.ntmps71
    go_upto_region 1 with fail
    generalize w.alloc (.cells #[.string s.tiles.letters,.slice q.tiles.values.a s.tiles.values.length q.tiles.values.c,.slice q.tiles.counts.a s.tiles.counts.length q.tiles.counts.c,.int .i64 s.tiles.blanks,.slice q.lexicon.a s.lexicon.length q.lexicon.c,.int .i64 s.board.size,.string s.board.premium,.string s.board.cells,.int .i64 s.seconds,.int .i64 s.rule] 31)=w1 at *
    have c0:=V.out.cell (i:=0) rfl
    have c1:=V.out.cell (i:=1) rfl
    have c2:=V.out.cell (i:=2) rfl
    have c3:=V.out.cell (i:=3) rfl
    go_wp2_with fail
    refine (HVT.out _ (HA.out.1)).mono ?_
    rintro e w2 ⟨rfl,hd⟩
    rw [h1]
    clear c0 c1 c2 c3
    replace HA:=Lh (Stp.At.kept HA.out hd)
    replace hb:=hb.trans (hd.mono hb.size)
    replace V:=Lh (V.out.kept hd)
    replace HEL:=Lh (HEL.out.kept hd)
    clear hd
    have c4:=V.out.cell (i:=4) rfl
    go_wp2_with fail
    refine (HVL.out _ (HA.out.2)).mono ?_
    rintro e w3 ⟨rfl,hd⟩
    rw [h2]
    clear c4
    replace hb:=hb.trans (hd.mono hb.size)
    replace V:=Lh (V.out.kept hd)
    replace HEL:=Lh (HEL.out.kept hd)
    clear hd
    have c5:=V.out.cell (i:=5) rfl
    have c6:=V.out.cell (i:=6) rfl
    have c7:=V.out.cell (i:=7) rfl
    go_wp2_with fail
    refine (HVB.out _).mono ?_
    rintro e w4 ⟨rfl,hd⟩
    rw [h3]
    replace hb:=hb.trans (hd.mono hb.size)
    replace c5:=cell_kept c5 hd
    replace c6:=cell_kept c6 hd
    replace c7:=cell_kept c7 hd
    replace V:=Lh (V.out.kept hd)
    replace HEL:=Lh (HEL.out.kept hd)
    clear hd
    go_wp2
    go_ret
    exact ⟨ret_bool HN.out.symm,hb⟩
   | true =>
    cases h4:s.board.blank with
    | false =>
     have HN:=Lh (setup_no4 h4)
     generalize s.ok=ans at *
     go_enter Tryz.func71,Tryz.ntmps71
     go_upto_region 1 with fail
     generalize w.alloc (.cells #[.string s.tiles.letters,.slice q.tiles.values.a s.tiles.values.length q.tiles.values.c,.slice q.tiles.counts.a s.tiles.counts.length q.tiles.counts.c,.int .i64 s.tiles.blanks,.slice q.lexicon.a s.lexicon.length q.lexicon.c,.int .i64 s.board.size,.string s.board.premium,.string s.board.cells,.int .i64 s.seconds,.int .i64 s.rule] 31)=w1 at *
     have c0:=V.out.cell (i:=0) rfl
     have c1:=V.out.cell (i:=1) rfl
     have c2:=V.out.cell (i:=2) rfl
     have c3:=V.out.cell (i:=3) rfl
     go_wp2_with fail
     refine (HVT.out _ (HA.out.1)).mono ?_
     rintro e w2 ⟨rfl,hd⟩
     rw [h1]
     clear c0 c1 c2 c3
     replace HA:=Lh (Stp.At.kept HA.out hd)
     replace hb:=hb.trans (hd.mono hb.size)
     replace V:=Lh (V.out.kept hd)
     replace HEL:=Lh (HEL.out.kept hd)
     clear hd
     have c4:=V.out.cell (i:=4) rfl
     go_wp2_with fail
     refine (HVL.out _ (HA.out.2)).mono ?_
     rintro e w3 ⟨rfl,hd⟩
     rw [h2]
     clear c4
     replace hb:=hb.trans (hd.mono hb.size)
     replace V:=Lh (V.out.kept hd)
     replace HEL:=Lh (HEL.out.kept hd)
     clear hd
     have c5:=V.out.cell (i:=5) rfl
     have c6:=V.out.cell (i:=6) rfl
     have c7:=V.out.cell (i:=7) rfl
     go_wp2_with fail
     refine (HVB.out _).mono ?_
     rintro e w4 ⟨rfl,hd⟩
     rw [h3]
     replace hb:=hb.trans (hd.mono hb.size)
     replace c5:=cell_kept c5 hd
     replace c6:=cell_kept c6 hd
     replace c7:=cell_kept c7 hd
     replace V:=Lh (V.out.kept hd)
     replace HEL:=Lh (HEL.out.kept hd)
     clear hd
     go_wp2_with fail
     refine (HBK.out h3 _ HEL.out).mono ?_
     rintro e w5 ⟨rfl,hd⟩
     rw [h4]
     clear c5 c6 c7
     replace hb:=hb.trans (hd.mono hb.size)
     replace V:=Lh (V.out.kept hd)
     clear hd
     go_wp2
     go_ret
     exact ⟨ret_bool HN.out.symm,hb⟩
    | true =>
     cases h5:withinB s.seconds 0 36000 with
     | false =>
      have HN:=Lh (setup_no5 h5)
      generalize s.ok=ans at *
      go_enter Tryz.func71,Tryz.ntmps71
      go_upto_region 1 with fail
      generalize w.alloc (.cells #[.string s.tiles.letters,.slice q.tiles.values.a s.tiles.values.length q.tiles.values.c,.slice q.tiles.counts.a s.tiles.counts.length q.tiles.counts.c,.int .i64 s.tiles.blanks,.slice q.lexicon.a s.lexicon.length q.lexicon.c,.int .i64 s.board.size,.string s.board.premium,.string s.board.cells,.int .i64 s.seconds,.int .i64 s.rule] 31)=w1 at *
      have c0:=V.out.cell (i:=0) rfl
      have c1:=V.out.cell (i:=1) rfl
      have c2:=V.out.cell (i:=2) rfl
      have c3:=V.out.cell (i:=3) rfl
      go_wp2_with fail
      refine (HVT.out _ (HA.out.1)).mono ?_
      rintro e w2 ⟨rfl,hd⟩
      rw [h1]
      clear c0 c1 c2 c3
      replace HA:=Lh (Stp.At.kept HA.out hd)
      replace hb:=hb.trans (hd.mono hb.size)
      replace V:=Lh (V.out.kept hd)
      replace HEL:=Lh (HEL.out.kept hd)
      clear hd
      have c4:=V.out.cell (i:=4) rfl
      go_wp2_with fail
      refine (HVL.out _ (HA.out.2)).mono ?_
      rintro e w3 ⟨rfl,hd⟩
      rw [h2]
      clear c4
      replace hb:=hb.trans (hd.mono hb.size)
      replace V:=Lh (V.out.kept hd)
      replace HEL:=Lh (HEL.out.kept hd)
      clear hd
      have c5:=V.out.cell (i:=5) rfl
      have c6:=V.out.cell (i:=6) rfl
      have c7:=V.out.cell (i:=7) rfl
      go_wp2_with fail
      refine (HVB.out _).mono ?_
      rintro e w4 ⟨rfl,hd⟩
      rw [h3]
      replace hb:=hb.trans (hd.mono hb.size)
      replace c5:=cell_kept c5 hd
      replace c6:=cell_kept c6 hd
      replace c7:=cell_kept c7 hd
      replace V:=Lh (V.out.kept hd)
      replace HEL:=Lh (HEL.out.kept hd)
      clear hd
      go_wp2_with fail
      refine (HBK.out h3 _ HEL.out).mono ?_
      rintro e w5 ⟨rfl,hd⟩
      rw [h4]
      clear c5 c6 c7
      replace hb:=hb.trans (hd.mono hb.size)
      replace V:=Lh (V.out.kept hd)
      clear hd
      have c8:=V.out.cell (i:=8) rfl
      go_wp2_with fail
      refine (within_any _ _ _ _).mono ?_
      rintro e w' ⟨rfl,rfl⟩
      rw [h5]
      clear c8
      go_wp2
      go_ret
      exact ⟨ret_bool HN.out.symm,hb⟩
     | true =>
      have HN:=Lh (setup_last h1 h2 h3 h4 h5)
      generalize s.ok=ans at *
      go_enter Tryz.func71,Tryz.ntmps71
      go_upto_region 1 with fail
      generalize w.alloc (.cells #[.string s.tiles.letters,.slice q.tiles.values.a s.tiles.values.length q.tiles.values.c,.slice q.tiles.counts.a s.tiles.counts.length q.tiles.counts.c,.int .i64 s.tiles.blanks,.slice q.lexicon.a s.lexicon.length q.lexicon.c,.int .i64 s.board.size,.string s.board.premium,.string s.board.cells,.int .i64 s.seconds,.int .i64 s.rule] 31)=w1 at *
      have c0:=V.out.cell (i:=0) rfl
      have c1:=V.out.cell (i:=1) rfl
      have c2:=V.out.cell (i:=2) rfl
      have c3:=V.out.cell (i:=3) rfl
      go_wp2_with fail
      refine (HVT.out _ (HA.out.1)).mono ?_
      rintro e w2 ⟨rfl,hd⟩
      rw [h1]
      clear c0 c1 c2 c3
      replace HA:=Lh (Stp.At.kept HA.out hd)
      replace hb:=hb.trans (hd.mono hb.size)
      replace V:=Lh (V.out.kept hd)
      replace HEL:=Lh (HEL.out.kept hd)
      clear hd
      have c4:=V.out.cell (i:=4) rfl
      go_wp2_with fail
      refine (HVL.out _ (HA.out.2)).mono ?_
      rintro e w3 ⟨rfl,hd⟩
      rw [h2]
      clear c4
      replace hb:=hb.trans (hd.mono hb.size)
      replace V:=Lh (V.out.kept hd)
      replace HEL:=Lh (HEL.out.kept hd)
      clear hd
      have c5:=V.out.cell (i:=5) rfl
      have c6:=V.out.cell (i:=6) rfl
      have c7:=V.out.cell (i:=7) rfl
      go_wp2_with fail
      refine (HVB.out _).mono ?_
      rintro e w4 ⟨rfl,hd⟩
      rw [h3]
      replace hb:=hb.trans (hd.mono hb.size)
      replace c5:=cell_kept c5 hd
      replace c6:=cell_kept c6 hd
      replace c7:=cell_kept c7 hd
      replace V:=Lh (V.out.kept hd)
      replace HEL:=Lh (HEL.out.kept hd)
      clear hd
      go_wp2_with fail
      refine (HBK.out h3 _ HEL.out).mono ?_
      rintro e w5 ⟨rfl,hd⟩
      rw [h4]
      clear c5 c6 c7
      replace hb:=hb.trans (hd.mono hb.size)
      replace V:=Lh (V.out.kept hd)
      clear hd
      have c8:=V.out.cell (i:=8) rfl
      go_wp2_with fail
      refine (within_any _ _ _ _).mono ?_
      rintro e w' ⟨rfl,rfl⟩
      rw [h5]
      clear c8
      have c9:=V.out.cell (i:=9) rfl
      go_wp2_with fail
      refine (within_any _ _ _ _).mono ?_
      rintro e w' ⟨rfl,rfl⟩
      go_wp2
      go_ret
      exact ⟨ret_bool HN.out.symm,hb⟩
end Go.Proofs.YtgphkffbbmmmmaaGreatDoor
