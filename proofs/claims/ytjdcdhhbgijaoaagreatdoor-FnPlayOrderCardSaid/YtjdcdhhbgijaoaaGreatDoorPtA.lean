/- Contracts: the texts of plays: the reference. For plays with words whose length fits an int. -/
import Derived.Test.YtjdcdhhbgijaoaaGreatDoorPoP
import Derived.Test.YtjdcdhhbgijaoaaGreatDoorPlaA
import Derived.Test.YtjdcdhhbgijaoaaGreatDoorDecW
namespace Go.Proofs.YtjdcdhhbgijaoaaGreatDoor
open Go.ChangeShapes Go.WideShapes Go.ChangeAt Go.RowKit Go.Sort

set_option maxRecDepth 100000 in
set_option maxHeartbeats 1000000 in
theorem l12Plain_any (p : Ply) (w : World) (hf : p.fit) :
    Calls Tryz.prog 142 #[.agg #[.int .i64 p.row, .int .i64 p.col, .bool p.down, .string p.word]] w fun e w' => e = .returned (.bool p.plain) ∧ Below w.heap.size w w' := by
  have HP : Hid (p.plain = (withinB p.row 0 14 && (withinB p.col 0 14 && mainL p.word.data.toList))) := Lib.hid rfl
  have hb : Below w.heap.size w (w.alloc (.cells #[.int .i64 p.row, .int .i64 p.col, .bool p.down, .string p.word] 30)) := (Below.refl _ _).alloc (Nat.le_refl _) _
  have VP := Lib.hid (VarAt.new w 30 [.int .i64 p.row, .int .i64 p.col, .bool p.down, .string p.word])
  go_enter Tryz.func142, Tryz.ntmps142
  go_upto_region 1 with fail
  generalize w.alloc (.cells #[.int .i64 p.row, .int .i64 p.col, .bool p.down, .string p.word] 30) = w1 at *
  have c0 := VP.out.cell (i := 0) rfl
  have c1 := VP.out.cell (i := 1) rfl
  have c2 := VP.out.cell (i := 2) rfl
  have c3 := VP.out.cell (i := 3) rfl
  go_wp2_with fail
  refine (l00In_any p.row 0 14 _).mono ?_
  rintro e w3 ⟨rfl, rfl⟩
  cases h1 : withinB p.row 0 14 with
  | false =>
    go_wp2
    go_ret
    exact ⟨by rw [HP.out, h1]; rfl, hb⟩
  | true =>
    go_wp2_with fail
    refine (l00In_any p.col 0 14 _).mono ?_
    rintro e w4 ⟨rfl, rfl⟩
    cases h2 : withinB p.col 0 14 with
    | false =>
      go_wp2
      go_ret
      exact ⟨by rw [HP.out, h1, h2]; rfl, hb⟩
    | true =>
      go_wp2_with fail
      refine (l12Word_any p.word _ hf).mono ?_
      rintro e w5 ⟨rfl, rfl⟩
      go_wp2
      go_ret
      exact ⟨by rw [HP.out, h1, h2]; rfl, hb⟩
theorem itoa_short {n : Int} (h0 : 0 ≤ n) (h1 : n ≤ 99) : (Lib.itoa n).length ≤ 3 := by
  have h2 := itoa_abs n
  have h3 : Lib.nDigits n.natAbs ≤ 2 := digits_up (u := n.natAbs) (k := 2) (by decide) (by have : (10 : Nat) ^ 2 = 100 := rfl; omega)
  have h4 : ∀ l : List UInt8, l.length ≤ (dropMinus l).length + 1 := by
    intro l
    cases l with
    | nil => exact Nat.zero_le _
    | cons c r =>
      unfold dropMinus
      by_cases hc : c = 45
      · simp [hc]
      · simp [hc]
  have h5 := h4 (Lib.itoa n)
  omega
theorem colC_int {c : Int} (h : 0 ≤ c ∧ c ≤ 14) : ((colC c).toNat : Int) = 97 + c := by
  rw [colC_nat h]
  omega
theorem conv_one (W : World) (x : UInt8) : (convert 22 9 (.slice (some ⟨W.heap.size, 0, none⟩) 1 1)).run Tryz.prog (W.alloc (.cells #[.int .u8 (x.toNat : Int)] 5)) = .ok (.string (mkB [x])) (W.alloc (.cells #[.int .u8 (x.toNat : Int)] 5)) := by
  refine bytes_str rfl fun j hj => ?_
  obtain rfl : j = 0 := by simpa using hj
  rw [Go.Addr.add_lit, Nat.add_zero]
  exact cell_new0 W _ _ rfl
theorem text_down {p : Ply} (h : p.down = true) : mkB [colC p.col] ++ mkB (Lib.itoa (p.row + 1)) ++ (⟨#[32]⟩ : ByteArray) ++ p.word = mkB p.text := by
  apply ByteArray.ext
  simp [Ply.text, Ply.place, h, mkB, ByteArray.data_append]
theorem text_across {p : Ply} (h : p.down = false) : mkB (Lib.itoa (p.row + 1)) ++ mkB [colC p.col] ++ (⟨#[32]⟩ : ByteArray) ++ p.word = mkB p.text := by
  apply ByteArray.ext
  simp [Ply.text, Ply.place, h, mkB, ByteArray.data_append]
set_option maxRecDepth 100000 in
set_option maxHeartbeats 2000000 in
theorem l12Text_any (p : Ply) (w : World) (hp : p.plain = true) (hs : p.word.size ≤ 1048576) :
    Calls Tryz.prog 143 #[.agg #[.int .i64 p.row, .int .i64 p.col, .bool p.down, .string p.word]] w (StrPost w p.text) := by
  obtain ⟨⟨r0, r1⟩, ⟨k0, k1⟩, _⟩ := plain_iff.1 hp
  have hi := itoa_short (n := p.row + 1) (by omega) (by omega)
  have hc := colC_int ⟨k0, k1⟩
  have wr : IntKind.i64.wrap (p.row + 1) = p.row + 1 := IntWalk.i64_in _ (by omega)
  have wc : IntKind.i64.wrap (97 + p.col) = ((colC p.col).toNat : Int) := by rw [hc]; exact IntWalk.i64_in _ (by omega)
  have wu : IntKind.u8.wrap ((colC p.col).toNat : Int) = ((colC p.col).toNat : Int) := by
    have := (colC p.col).toNat_lt
    rw [IntKind.wrap_u8]
    omega
  have HD : Hid (∀ W : World, Calls Tryz.prog 221 #[.int .i64 (p.row + 1)] W fun e w' => e = .returned (.string (mkB (Lib.itoa (p.row + 1)))) ∧ Below W.heap.size W w') := Lib.hid (fun W => l01Dec_any (p.row + 1) (by omega) (by omega) W)
  have hz1 : (mkB (Lib.itoa (p.row + 1))).size ≤ 3 := by rw [mkB_size]; exact hi
  have hz2 : (mkB [colC p.col]).size ≤ 1 := by rw [mkB_size]; exact Nat.le_refl _
  have HT1 := Lib.hid (text_down (p := p))
  have HT2 := Lib.hid (text_across (p := p))
  have HCV := Lib.hid (fun W => conv_one W (colC p.col))
  generalize mkB (Lib.itoa (p.row + 1)) = rw0 at *
  generalize hcc : colC p.col = cc at *
  clear hp hi hcc hc
  have hb : Below w.heap.size w (w.alloc (.cells #[.int .i64 p.row, .int .i64 p.col, .bool p.down, .string p.word] 30)) := (Below.refl _ _).alloc (Nat.le_refl _) _
  have VP := Lib.hid (VarAt.new w 30 [.int .i64 p.row, .int .i64 p.col, .bool p.down, .string p.word])
  go_enter Tryz.func143, Tryz.ntmps143
  go_upto_region 1 with fail
  generalize w.alloc (.cells #[.int .i64 p.row, .int .i64 p.col, .bool p.down, .string p.word] 30) = w1 at *
  have c0 := VP.out.cell (i := 0) rfl
  have c1 := VP.out.cell (i := 1) rfl
  have c2 := VP.out.cell (i := 2) rfl
  have c3 := VP.out.cell (i := 3) rfl
  go_wp2_with fail
  refine (HD.out _).mono ?_
  rintro e w3 ⟨rfl, hd⟩
  clear c0 c1 c2 c3 HD
  replace VP := Lib.hid (VP.out.kept hd)
  replace hb := hb.trans (hd.mono hb.size)
  clear hd
  have c1 := VP.out.cell (i := 1) rfl
  have hcv := HCV.out w3
  have hx : Below w3.heap.size w3 (w3.alloc (.cells #[.int .u8 (cc.toNat : Int)] 5)) := (Below.refl _ _).alloc (Nat.le_refl _) _
  go_upto_region 3 with fail
  clear c1 hcv HCV wr wc wu
  replace VP := Lib.hid (VP.out.kept hx)
  replace hb := hb.trans (hx.mono hb.size)
  clear hx
  generalize w3.alloc (.cells #[.int .u8 (cc.toNat : Int)] 5) = w4 at *
  generalize mkB [cc] = cs at *
  have c2 := VP.out.cell (i := 2) rfl
  have c3 := VP.out.cell (i := 3) rfl
  cases hdn : p.down with
  | true =>
    have HT := Lib.hid (HT1.out hdn)
    rw [hdn] at c2
    have s1 : cs.size + rw0.size ≤ 9223372036854775807 := by omega
    have s2 : cs.size + rw0.size + 1 ≤ 9223372036854775807 := by omega
    have s3 : cs.size + rw0.size + 1 + p.word.size ≤ 9223372036854775807 := by omega
    clear HT1 HT2 hdn
    go_wp2
    go_ret
    exact ⟨congrArg (fun z => Ending.returned (.string z)) HT.out, hb⟩
  | false =>
    have HT := Lib.hid (HT2.out hdn)
    rw [hdn] at c2
    have s1 : rw0.size + cs.size ≤ 9223372036854775807 := by omega
    have s2 : rw0.size + cs.size + 1 ≤ 9223372036854775807 := by omega
    have s3 : rw0.size + cs.size + 1 + p.word.size ≤ 9223372036854775807 := by omega
    clear HT1 HT2 hdn
    go_wp2
    go_ret
    exact ⟨congrArg (fun z => Ending.returned (.string z)) HT.out, hb⟩
set_option maxRecDepth 100000 in
set_option maxHeartbeats 1000000 in
theorem specPlayText_any (p : Ply) (w : World) (hs : p.word.size ≤ 1048576) :
    Calls Tryz.prog 64 #[.agg #[.int .i64 p.row, .int .i64 p.col, .bool p.down, .string p.word]] w fun e w' => e = .returned (.string (playText p)) ∧ Below w.heap.size w w' := by
  have HPL := Lib.hid (fun W => l12Plain_any p W (Nat.le_trans hs (by decide)))
  cases hk : p.plain with
  | false =>
    have HT : Hid (playText p = ⟨#[]⟩) := Lib.hid (by unfold playText; rw [hk]; rfl)
    rw [hk] at HPL
    rw [HT.out]
    clear hk
    have hb : Below w.heap.size w (w.alloc (.cells #[.int .i64 p.row, .int .i64 p.col, .bool p.down, .string p.word] 30)) := (Below.refl _ _).alloc (Nat.le_refl _) _
    have VP := Lib.hid (VarAt.new w 30 [.int .i64 p.row, .int .i64 p.col, .bool p.down, .string p.word])
    go_enter Tryz.func64, Tryz.ntmps64
    go_upto_region 1 with fail
    generalize w.alloc (.cells #[.int .i64 p.row, .int .i64 p.col, .bool p.down, .string p.word] 30) = w1 at *
    have c0 := VP.out.cell (i := 0) rfl
    have c1 := VP.out.cell (i := 1) rfl
    have c2 := VP.out.cell (i := 2) rfl
    have c3 := VP.out.cell (i := 3) rfl
    go_wp2_with fail
    refine (HPL.out _).mono ?_
    rintro e w3 ⟨rfl, hd⟩
    go_wp2
    go_ret
    exact ⟨rfl, hb.trans (hd.mono hb.size)⟩
  | true =>
    have HT : Hid (playText p = mkB p.text) := Lib.hid (by unfold playText; rw [hk, if_pos rfl])
    have HTX := Lib.hid (fun W => l12Text_any p W hk hs)
    rw [hk] at HPL
    rw [HT.out]
    clear hk
    have hb : Below w.heap.size w (w.alloc (.cells #[.int .i64 p.row, .int .i64 p.col, .bool p.down, .string p.word] 30)) := (Below.refl _ _).alloc (Nat.le_refl _) _
    have VP := Lib.hid (VarAt.new w 30 [.int .i64 p.row, .int .i64 p.col, .bool p.down, .string p.word])
    go_enter Tryz.func64, Tryz.ntmps64
    go_upto_region 1 with fail
    generalize w.alloc (.cells #[.int .i64 p.row, .int .i64 p.col, .bool p.down, .string p.word] 30) = w1 at *
    have c0 := VP.out.cell (i := 0) rfl
    have c1 := VP.out.cell (i := 1) rfl
    have c2 := VP.out.cell (i := 2) rfl
    have c3 := VP.out.cell (i := 3) rfl
    go_wp2_with fail
    refine (HPL.out _).mono ?_
    rintro e w3 ⟨rfl, hd⟩
    clear c0 c1 c2 c3
    replace VP := Lib.hid (VP.out.kept hd)
    replace hb := hb.trans (hd.mono hb.size)
    clear hd
    have c0 := VP.out.cell (i := 0) rfl
    have c1 := VP.out.cell (i := 1) rfl
    have c2 := VP.out.cell (i := 2) rfl
    have c3 := VP.out.cell (i := 3) rfl
    go_wp2_with fail
    refine (HTX.out _).mono ?_
    rintro e w4 ⟨rfl, hd⟩
    go_wp2
    go_ret
    exact ⟨rfl, hb.trans (hd.mono hb.size)⟩
end Go.Proofs.YtjdcdhhbgijaoaaGreatDoor
