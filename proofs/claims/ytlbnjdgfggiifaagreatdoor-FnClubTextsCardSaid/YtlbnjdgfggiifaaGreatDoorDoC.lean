/- Contracts: the text of a club (program and reference). The program's decimal form leans on the table of powers of ten that Go's library lays. -/
import Derived.Test.YtlbnjdgfggiifaaGreatDoorDoB
import Derived.Test.YtlbnjdgfggiifaaGreatDoorTxtC
import Derived.Shelf.Strings.BuilderK
namespace Go.Proofs.YtlbnjdgfggiifaaGreatDoor
open Go.ChangeShapes Go.WideShapes Go.ChangeAt Go.RowKit Go.Sort

def SmallMems (ms : List Mem) : Prop := ms.length ≤ 64 ∧ ∀ m ∈ ms, m.name.size ≤ 1048576 ∧ -9223372036854775808 ≤ m.rating ∧ m.rating ≤ 9223372036854775807
theorem clubL_take_succ {ms : List Mem} {k : Nat} (h : k < ms.length) : clubL (ms.take (k + 1)) = clubL (ms.take k) ++ (lineL ms[k] ++ [10]) := by
  unfold clubL
  rw [List.take_succ_eq_append_getElem h, List.flatMap_append]
  simp
theorem lineL_len {ms : List Mem} (h : SmallMems ms) : ∀ m ∈ ms, (lineL m).length ≤ 1048598 := by
  intro m hm
  obtain ⟨h1, h2, h3⟩ := h.2 m hm
  have z1 : m.name.data.toList.length = m.name.size := Array.length_toList
  have z3 := Lib.itoa_length_le _ h2 h3
  unfold lineL
  simp only [List.length_append, List.length_cons]
  omega
theorem clubL_len {ms : List Mem} (h : SmallMems ms) : ∀ k, k ≤ ms.length → (clubL (ms.take k)).length ≤ k * 1048600 := by
  intro k
  induction k with
  | zero => intro _; simp [clubL]
  | succ k ih =>
    intro hk
    have h1 := ih (by omega)
    have h2 := lineL_len h _ (List.getElem_mem (show k < ms.length by omega))
    rw [clubL_take_succ (show k < ms.length by omega)]
    simp only [List.length_append, List.length_cons, List.length_nil]
    omega
theorem line_text (m : Mem) : m.name ++ ⟨#[32]⟩ ++ mkB (Lib.itoa m.rating) ++ ⟨#[10]⟩ = mkB (lineL m ++ [10]) := by
  unfold lineL
  simp only [cat_mk, mkB_data, List.append_assoc]
  rfl
theorem club_text (l : List UInt8) (m : Mem) : mkB l ++ (m.name ++ ⟨#[32]⟩ ++ mkB (Lib.itoa m.rating) ++ ⟨#[10]⟩) = mkB (l ++ (lineL m ++ [10])) := by
  rw [line_text, cat_mk, mkB_data, mkB_data]
set_option maxRecDepth 100000 in
set_option maxHeartbeats 4000000 in
theorem l26Text_any (ms : List Mem) (b o : Nat) (a : Option Addr) (cap : Nat) (w : World) (hp : w.cell? ⟨b, o, none⟩ = some (.slice a ms.length cap)) (hm : SliceAt w 2 Mem.enc a ms) (hs : SmallMems ms) :
    Calls Tryz.prog 36 #[.pointer (some ⟨b, o, none⟩)] w (StrPost w (clubL ms)) := by
  have HM := Lib.hid hm
  have HSM := Lib.hid hs
  have hl : ms.length ≤ 64 := hs.1
  clear hm hs
  go_enter Tryz.func36, Tryz.ntmps36
  go_wp2
  go_loopw [3, 4] (fun ov iv wr => ∃ k : Nat, k ≤ ms.length ∧ iv = .int .i64 k ∧ ov = .string (mkB (clubL (ms.take k))) ∧ Below w.heap.size w wr) (fun _ iv _ => ms.length - (intOf iv).toNat)
  case atStart => exact ⟨0, Nat.zero_le _, rfl, rfl, Below.refl _ _⟩
  case round =>
    obtain ⟨k, hk, rfl, rfl, hb⟩ := hrel
    have hz := clubL_len HSM.out k hk
    have hp1 := cell_kept hp hb
    have HM1 := Lib.hid (HM.out.kept hb)
    by_cases hlt : k < ms.length
    · obtain ⟨mb, mo, rfl, hc⟩ := HM1.out.open hlt
      have q0 := hc.at0 hlt rfl
      have q1 := hc k hlt 1 _ rfl
      obtain ⟨z1, z2, z3⟩ := HSM.out.2 _ (List.getElem_mem hlt)
      have z4 : (mkB (Lib.itoa ms[k].rating)).size ≤ 21 := by rw [mkB_size]; exact Lib.itoa_length_le _ z2 z3
      have HT := Lib.hid (clubL_take_succ hlt)
      have z5 : (mkB (clubL (ms.take k))).size ≤ 68000000 := by rw [mkB_size]; omega
      have HX := Lib.hid (club_text (clubL (ms.take k)) ms[k])
      generalize ms[k] = m at *
      generalize clubL (ms.take k) = out at *
      have e0 := cell_regrown q0
      have e1 := cell_regrown q1
      have e2 := cell_regrown hp1
      clear hc hz
      go_wp2
      refine wp_region_quiet_below (by kernel_rfl) (by kernel_rfl) ?_
      repeat (go_big_quiet_step ((go_at_call 60; exact Calls.regrown_of (l01Dec_any m.rating z2 z3 _))))
      refine wpQuiet_nil ?_
      intro wx hw'
      obtain ⟨⟨dq, oq⟩, hw''⟩ := hw'
      have hd : Below wr.heap.size wr wx := by rw [hw'']; exact below_regrown wr dq oq
      clear hw'' e0 e1 e2
      go_wp2
      go_roundw
      case rel => exact ⟨k + 1, by omega, by go_num, by rw [HT.out, ← HX.out], hb.trans (hd.mono hb.size)⟩
      case measure => simp [intOf]; omega
    · obtain rfl : k = ms.length := by omega
      have HE : Hid (ms.take ms.length = ms) := Lib.hid (List.take_length)
      clear hz
      go_wp2
      go_ret
      exact ⟨by rw [HE.out]; rfl, hb⟩
theorem clubText_ok {ms : List Mem} (h : clubOk ms = true) : clubText ms = mkB (clubL ms) := by unfold clubText; rw [if_pos h]
theorem clubText_bad {ms : List Mem} (h : clubOk ms = false) : clubText ms = ⟨#[]⟩ := by unfold clubText; rw [if_neg (by rw [h]; exact Bool.false_ne_true)]
theorem club_small {ms : List Mem} (h : clubOk ms = true) : SmallMems ms := by
  obtain ⟨h1, h2⟩ := club_mem h
  refine ⟨by omega, fun m hm => ?_⟩
  obtain ⟨g1, g2, g3⟩ := h2 m hm
  have := (name_len g1).2
  have z1 : m.name.data.toList.length = m.name.size := Array.length_toList
  exact ⟨by omega, by omega, by omega⟩
set_option maxRecDepth 100000 in
set_option maxHeartbeats 2000000 in
theorem specClubText_any (ms : List Mem) (a : Option Addr) (cap : Nat) (w : World) (hm : SliceAt w 2 Mem.enc a ms) (hl : ms.length ≤ 9223372036854775807) (hf : MemsFit ms) :
    Calls Tryz.prog 19 #[.agg #[.slice a ms.length cap]] w fun e w' => e = .returned (.string (clubText ms)) ∧ Below w.heap.size w w' := by
  have hb : Below w.heap.size w (w.alloc (.cells #[.slice a ms.length cap] 26)) := (Below.refl _ _).alloc (Nat.le_refl _) _
  have hp := cell_new0 w #[.slice a ms.length cap] 26 (i := 0) (v := .slice a ms.length cap) rfl
  have HM := Lib.hid (hm.kept hb)
  clear hm
  cases hok : clubOk ms with
  | false =>
    have HT := Lib.hid (clubText_bad hok)
    go_enter Tryz.func19, Tryz.ntmps19
    go_wp2_with fail
    refine (l26Ok_any ms _ 0 a cap _ hp HM.out hl hf).mono ?_
    rintro e w1 ⟨rfl, hd⟩
    rw [hok]
    clear hok hp HM
    have hb2 := hb.trans ((hd.below _).mono hb.size)
    clear hd hb
    go_wp2
    go_ret
    exact ⟨by rw [HT.out]; rfl, hb2⟩
  | true =>
    have HT := Lib.hid (clubText_ok hok)
    have HS := Lib.hid (club_small hok)
    go_enter Tryz.func19, Tryz.ntmps19
    go_wp2_with fail
    refine (l26Ok_any ms _ 0 a cap _ hp HM.out hl hf).mono ?_
    rintro e w1 ⟨rfl, hd⟩
    rw [hok]
    have hd2 := hd.below (w.alloc (.cells #[.slice a ms.length cap] 26)).heap.size
    have hp1 := cell_kept hp hd2
    replace HM := Lib.hid (HM.out.kept hd2)
    have hb2 := hb.trans (hd2.mono hb.size)
    clear hok hp hd hd2 hb
    go_wp2_with fail
    refine (l26Text_any ms _ 0 a cap w1 hp1 HM.out HS.out).mono ?_
    rintro e w2 ⟨rfl, hd⟩
    go_wp2
    go_ret
    exact ⟨by rw [HT.out]; rfl, hb2.trans (hd.mono hb2.size)⟩
theorem lays166 : Lays.n166 Tryz.prog Tryz.lays156_ren := { Tryz.lays156 with }
theorem lays169 : Lays.n169 Tryz.prog Tryz.lays156_ren := { Tryz.lays156 with }
/-- a builder of the call's own that holds the text l -/
def IsB (B b : Nat) (l : List UInt8) (w : World) : Prop := Lib.IsBuilderF 51 5 B b (Lib.byteCells l) w
theorem atF_below {T e : TypeId} {B b : Nat} {p : Value} {bs : List Value} {W W' : World} (h : Lib.BuilderAtF T e B b p bs W) (hb : Below W.heap.size W W') : Lib.BuilderAtF T e B b p bs W' := by
  have hlt := h.lt
  obtain ⟨hB, v, h1, h2, h3⟩ := h
  exact ⟨hB, v, (hb.block b hlt).trans h1, h2.kept (row := none) (grown_of_below hb) (Classical.em _), h3⟩
theorem IsB.kept {B b : Nat} {l : List UInt8} {w w' : World} (h : IsB B b l w) (hb : Below w.heap.size w w') : IsB B b l w' :=
  h.elim (fun x => .inl (atF_below x hb)) (fun x => .inr (atF_below x hb))
theorem IsB.new (w : World) : IsB w.heap.size w.heap.size [] (w.alloc (.cells #[.pointer none, .slice none 0 0] 51)) := Lib.IsBuilderF.of (Lib.fresh_isBuilder _ _ w)
theorem builderWrite_any (B b : Nat) (l : List UInt8) (s : ByteArray) (w : World) (h : IsB B b l w) (hl : l.length + s.size ≤ 140737488355328) (hB : B ≤ w.heap.size) :
    Calls Tryz.prog 27 #[.pointer (some ⟨b, 0, none⟩), .string s] w fun e w' => e = .returned (.tuple #[.int .i64 s.size, .nilIface]) ∧ IsB B b (l ++ s.data.toList) w' ∧ Below B w w' ∧ Lib.OthersKept 5 (some b) w w' := by
  refine (Any.Builder_WriteString_k lays166 Tryz.Builder_Extra_156 B b (Lib.byteCells l) s w h (by simpa [Lib.byteCells] using hl) hB).mono ?_
  rintro e w' ⟨he, h1, h2, h3⟩
  refine ⟨he, .inr ?_, h2, h3⟩
  rw [Lib.byteCells_append]
  exact h1
theorem builderString_any (B b : Nat) (l : List UInt8) (w : World) (h : IsB B b l w) (hB : B ≤ w.heap.size) :
    Calls Tryz.prog 30 #[.pointer (some ⟨b, 0, none⟩)] w fun e w' => e = .returned (.string (mkB l)) ∧ Below B w w' := by
  refine (Any.Builder_String_any_k lays169 Tryz.Builder_Extra_156 B b l w h hB).mono ?_
  rintro e w' ⟨he, _, h2, _⟩
  exact ⟨he, h2⟩
theorem others_cell {w w' : World} {b g i : Nat} {cs : Array Value} {T : TypeId} {v : Value} (ho : Lib.OthersKept 5 (some b) w w') (hb : w.heap[g]? = some (.cells cs T (0, 0))) (hne : g ≠ b) (hT : T ≠ 5) (hv : w.cell? ⟨g, i, none⟩ = some v) : w'.cell? ⟨g, i, none⟩ = some v := by
  have h2 := ho g _ hb (by simpa using hne) (fun c fz e => hT (by injection e))
  exact (World.cell?_of_block (h2.trans hb.symm)).trans hv
theorem line_join (m : Mem) : Lib.join ([m.name, mkB (Lib.itoa m.rating)].map (·.data.toList)) [32] = lineL m := by
  simp only [List.map_cons, List.map_nil, mkB_data]
  exact join2 _ _
theorem line_end (l : List UInt8) : mkB l ++ ⟨#[10]⟩ = mkB (l ++ [10]) := by rw [cat_mk, mkB_data]
/-- what a line leaves: the builder holds it -/
def LinePost (B : Nat) (l : List UInt8) (w w' : World) : Prop := IsB B B l w' ∧ Below B w w'
set_option maxRecDepth 100000 in
set_option maxHeartbeats 4000000 in
theorem ClubText_any (ms : List Mem) (a : Option Addr) (cap : Nat) (w : World) (hm : SliceAt w 2 Mem.enc a ms) (hl : ms.length ≤ 9223372036854775807) (hf : MemsFit ms) (ht : Tab w) :
    Calls Tryz.prog 6 #[.agg #[.slice a ms.length cap]] w fun e w' => e = .returned (.string (clubText ms)) ∧ Below w.heap.size w w' := by
  have hb : Below w.heap.size w (w.alloc (.cells #[.slice a ms.length cap] 26)) := (Below.refl _ _).alloc (Nat.le_refl _) _
  have hp := cell_new0 w #[.slice a ms.length cap] 26 (i := 0) (v := .slice a ms.length cap) rfl
  have HM := Lib.hid (hm.kept hb)
  have HT := Lib.hid (ht.kept hb)
  clear hm ht
  cases hok : clubOk ms with
  | false =>
    have HX := Lib.hid (clubText_bad hok)
    go_enter Tryz.func6, Tryz.ntmps6
    go_wp2_with fail
    refine (ValidClub_any ms a cap _ HM.out hl hf).mono ?_
    rintro e w1 ⟨rfl, hd⟩
    rw [hok]
    clear hok hp HM HT
    have hb2 := hb.trans (hd.mono hb.size)
    clear hd hb
    go_wp2
    go_ret
    exact ⟨by rw [HX.out]; rfl, hb2⟩
  | true =>
    have HX := Lib.hid (clubText_ok hok)
    have HSM := Lib.hid (club_small hok)
    go_enter Tryz.func6, Tryz.ntmps6
    go_wp2_with fail
    refine (ValidClub_any ms a cap _ HM.out hl hf).mono ?_
    rintro e w1 ⟨rfl, hd⟩
    rw [hok]
    have hp1 := cell_kept hp hd
    replace HM := Lib.hid (HM.out.kept hd)
    replace HT := Lib.hid (HT.out.kept hd)
    have hb2 := hb.trans (hd.mono hb.size)
    have hl2 : ms.length ≤ 64 := HSM.out.1
    clear hok hp hd hb hl
    have HI := Lib.hid (IsB.new w1)
    have hb3 : Below w1.heap.size w1 (w1.alloc (.cells #[.pointer none, .slice none 0 0] 51)) := (Below.refl _ _).alloc (Nat.le_refl _) _
    have hq := block_lt hp1
    go_wp2_with fail
    go_loopw [12] (fun iv wr => ∃ k : Nat, k ≤ ms.length ∧ iv = .int .i64 k ∧ Hid (IsB w1.heap.size w1.heap.size (clubL (ms.take k)) wr) ∧ Below w1.heap.size w1 wr) (fun iv _ => ms.length - (intOf iv).toNat)
    case atStart => exact ⟨0, Nat.zero_le _, rfl, HI, hb3⟩
    case round =>
      clear HI hb3
      obtain ⟨k, hk, rfl, HI, hb3⟩ := hrel
      have hz := clubL_len HSM.out k hk
      have hsz := hb3.size
      by_cases hlt : k < ms.length
      · obtain ⟨mb, mo, rfl, hc⟩ := (HM.out.kept hb3).open hlt
        have q0 := hc.at0 hlt rfl
        have q1 := hc k hlt 1 _ rfl
        obtain ⟨z1, z2, z3⟩ := HSM.out.2 _ (List.getElem_mem hlt)
        have HLL := Lib.hid (lineL_len HSM.out _ (List.getElem_mem hlt))
        have HC := Lib.hid (clubL_take_succ hlt)
        generalize ms[k] = m at *
        generalize clubL (ms.take k) = out at *
        clear hc
        have hlw : w1.heap.size < wr.heap.size := by
          rcases HI.out with h | h <;> exact h.lt
        have hx : Below wr.heap.size wr (wr.alloc (.cells #[.string m.name, .int .i64 m.rating] 53)) := (Below.refl _ _).alloc (Nat.le_refl _) _
        have p0 := cell_new0 wr #[.string m.name, .int .i64 m.rating] 53 (i := 0) (v := .string m.name) rfl
        have p1 := cell_new0 wr #[.string m.name, .int .i64 m.rating] 53 (i := 1) (v := .int .i64 m.rating) rfl
        have pb := heap_alloc_new wr (.cells #[.string m.name, .int .i64 m.rating] 53)
        replace HI := Lib.hid (HI.out.kept hx)
        have hb4 := hb3.trans (hx.mono hsz)
        have HT4 := Lib.hid (HT.out.kept (hb3.trans (hx.mono hsz)))
        go_upto_region 7 with fail
        clear hx
        generalize wr.alloc (.cells #[.string m.name, .int .i64 m.rating] 53) = W0 at *
        generalize wr.heap.size = G at *
        have hGW : G < W0.heap.size := block_lt p0
        have hk : Below W0.heap.size W0 W0.drew := (Below.refl _ _).drew
        have k_0 : W0.drew.cell? ⟨G, 0, none⟩ = some (.string m.name) := p0
        have k_1 : W0.drew.cell? ⟨G, 1, none⟩ = some (.int .i64 m.rating) := p1
        have k_b : W0.drew.heap[G]? = some (.cells #[.string m.name, .int .i64 m.rating] 53 (0, 0)) := pb
        have HJ := Lib.hid (line_join m)
        have HE := Lib.hid (line_end (lineL m))
        have hll := HLL.out
        have hl3 : (mkB (lineL m)).size ≤ 1048598 := by rw [mkB_size]; exact hll
        have hl4 : (mkB (lineL m)).size + 1 ≤ 9223372036854775807 := by omega
        go_region_with
          ((first
            | (go_at_call 29; refine (Decimal_any m.rating z2 z3 _ (HT4.out.kept hk)).mono ?_; rintro e wq ⟨rfl, hd⟩; replace k_b := (hd.block G (block_lt k_0)).trans k_b; replace hk := hk.trans (hd.mono hk.size); replace k_0 := cell_kept k_0 hd; replace k_1 := cell_kept k_1 hd; clear hd)
            | (go_at_call 28; refine (joined_any [m.name, mkB (Lib.itoa m.rating)] _ 2 _ (cells_strs _ [m.name, mkB (Lib.itoa m.rating)] 9) (by simp) (by simp) (by simp) (by rw [HJ.out]; omega)).mono ?_; rintro e wq ⟨rfl, hd0⟩; rw [HJ.out]; have hd := ((Below.refl _ _).alloc (Nat.le_refl _) _).trans (hd0.mono (by simp)); replace k_b := (hd.block G (block_lt k_0)).trans k_b; replace hk := hk.trans (hd.mono hk.size); replace k_0 := cell_kept k_0 hd; replace k_1 := cell_kept k_1 hd; clear hd hd0)
            | (go_at_call 27; refine (builderWrite_any _ _ out _ _ (HI.out.kept hk) (by rw [HE.out, mkB_size]; simp; omega) (by have := hk.size; omega)).mono ?_; rintro e wq ⟨rfl, hq1, hd, ho⟩; have HQ := Lib.hid hq1; replace k_0 := others_cell ho k_b (by omega) (by decide) k_0; replace k_1 := others_cell ho k_b (by omega) (by decide) k_1)))
        all_goals
          go_wp2
          go_roundw
          case rel => exact ⟨k + 1, by omega, by go_num, by rw [HC.out]; have h := HQ.out; rw [HE.out, mkB_data] at h; exact Lib.hid h, hb4.trans ((hk.mono hb4.size).trans hd)⟩
          case measure => simp [intOf]; omega
      · obtain rfl : k = ms.length := by omega
        have HS := Lib.hid (builderString_any _ _ _ wr HI.out hsz)
        clear hz
        go_wp2_with fail
        refine HS.out.mono ?_
        rintro e w2 ⟨rfl, hd⟩
        go_wp2
        go_ret
        exact ⟨by rw [HX.out]; rfl, hb2.trans ((hb3.trans hd).mono hb2.size)⟩
end Go.Proofs.YtlbnjdgfggiifaaGreatDoor
