/- Contracts: the pairs of a row of names (program and reference). -/
import Derived.Test.YtpodkgfapbcmlaaPrA
import Derived.Test.YtpodkgfapbcmlaaPrB
import Derived.Test.YtpodkgfapbcmlaaStT
import Derived.Deep.DeepMust
namespace Go.Proofs.Ytpodkgfapbcmlaa
open Go.ChangeShapes Go.WideShapes Go.ChangeAt Go.RowKit Go.Sort

theorem nm_get (xs : List ByteArray) (j : Nat) : (xs.flatMap Nm.enc)[j]? = xs[j]?.map Value.string := by
  induction xs generalizing j with
  | nil => rfl
  | cons x xs ih =>
    cases j with
    | zero => rfl
    | succ j =>
      have : (List.flatMap Nm.enc (x :: xs))[j + 1]? = (xs.flatMap Nm.enc)[j]? := rfl
      rw [this, ih]
      simp
theorem nm_at {w : World} {b off : Nat} {xs : List ByteArray} (h : CellsAt w 1 Nm.enc b off xs) {i : Nat} (hi : i < xs.length) : w.cell? ⟨b, off + i, none⟩ = some (.string xs[i]) := by
  have := h.at0 hi (v := .string xs[i]) rfl
  rwa [Nat.mul_one] at this
theorem nm_drop {w : World} {b off : Nat} {xs : List ByteArray} (h : CellsAt w 1 Nm.enc b off xs) (i : Nat) : CellsAt w 1 Nm.enc b (off + i) (xs.drop i) := by
  intro j hj p v hv
  have hj' : i + j < xs.length := by simpa [Nat.lt_sub_iff_add_lt, Nat.add_comm] using hj
  have e : (xs.drop i)[j] = xs[i + j] := by simp
  rw [e] at hv
  have := h (i + j) hj' p v hv
  rw [show off + i + j * 1 + p = off + (i + j) * 1 + p from by omega]
  exact this
theorem nm_take {w : World} {b off : Nat} {xs : List ByteArray} (h : CellsAt w 1 Nm.enc b off xs) (i : Nat) : CellsAt w 1 Nm.enc b off (xs.take i) := by
  intro j hj p v hv
  have hj' : j < xs.length := by simp at hj; omega
  have e : (xs.take i)[j] = xs[j] := by simp
  rw [e] at hv
  exact h j hj' p v hv
theorem nm_news {w : World} {b off : Nat} {xs : List ByteArray} (h : CellsAt w 1 Nm.enc b off xs) : ∀ j u, (xs.flatMap Nm.enc)[j]? = some u → w.cell? ((⟨b, off, none⟩ : Addr).add j) = some u := cellsAt_row Nm.enc_len (by decide) h
theorem cellsAt_kept {α : Type} {enc : α → List Value} {sz : Nat} {w w' : World} {b off : Nat} {xs : List α} (h : CellsAt w sz enc b off xs) (hb : Below w.heap.size w w') : CellsAt w' sz enc b off xs :=
  fun i hi j v hv => cell_kept (h i hi j v hv) hb
theorem cellsAt_grown {α : Type} {enc : α → List Value} {sz : Nat} {w w' : World} {b off : Nat} {row : Option Nat} {xs : List α} (h : CellsAt w sz enc b off xs) (hg : w.grownBy w' row) (hne : some b ≠ row) : CellsAt w' sz enc b off xs :=
  fun i hi j v hv => hg.cell (h i hi j v hv) hne
/-- what an own row holds, as cells -/
theorem own_cellsAt {α : Type} {enc : α → List Value} {sz : Nat} (he : ∀ x, (enc x).length = sz) {w : World} {B : Nat} {e : TypeId} {g cap n : Nat} {xs : List α} (h : w.ownsRow B e sz (.slice (some ⟨g, 0, none⟩) n cap) n (xs.flatMap enc)) (hn : n = xs.length) : CellsAt w sz enc g 0 xs := by
  intro i hi j v hv
  rw [Nat.zero_add]
  exact own_cells he h hn hi hv

set_option maxRecDepth 100000 in
set_option maxHeartbeats 2000000 in
theorem l26Without_any (xs : List ByteArray) (k b off cap : Nat) (w : World) (hc : CellsAt w 1 Nm.enc b off xs) (h0 : 0 < k) (hk : k < xs.length) (hcl : xs.length ≤ cap) (hcm : cap ≤ 9223372036854775807) (hl : xs.length ≤ 1048576) :
    Calls Try.prog 125 #[.slice (some ⟨b, off, none⟩) xs.length cap, .int .i64 k] w fun e w' => ∃ g cap', e = .returned (.slice (some ⟨g, 0, none⟩) (without xs k).length cap') ∧ CellsAt w' 1 Nm.enc g 0 (without xs k) ∧ (without xs k).length ≤ cap' ∧ cap' ≤ maxLen ∧ Below w.heap.size w w' := by
  obtain ⟨i0, hi0, hz0, hz1, hz2⟩ := info_parts infoName
  have hx : Below w.heap.size w (w.alloc (.cells #[] 9)) := (Below.refl _ _).alloc (Nat.le_refl _) _
  have hcx := cellsAt_kept hc hx
  have KO := Lib.hid (World.ownsRow_made (base := w.heap.size) (e := 9) (size := 1) w #[] 0 (Nat.le_refl _) (by unfold maxLen; omega) rfl)
  have k1 := nm_news (nm_drop (nm_take hcx k) 1)
  have l1 : (((xs.take k).drop 1).flatMap Nm.enc).length = (k - 1) * 1 := by rw [flatMap_len Nm.enc_len]; simp; omega
  obtain ⟨A, hA⟩ : ∃ A, (xs.take k).drop 1 = A := ⟨_, rfl⟩
  have HW : Hid (without xs k = A ++ xs.drop (k + 1)) := Lib.hid (by unfold without; rw [hA])
  rw [hA] at k1 l1
  have K1 := Lib.hid k1
  have L1 := Lib.hid l1
  clear k1 l1 hA
  have hbw : b < w.heap.size := by have := block_lt (nm_at hc hk); simpa using this
  have HC := Lib.hid hcx
  have hk1 : (1 : Int) ≤ (k : Int) := by omega
  have hk2 : (k : Int) ≤ (cap : Int) := by omega
  have hk3 : (k : Int) + 1 ≤ (xs.length : Int) := by omega
  clear hc hcx
  go_enter Try.func125, Try.ntmps125
  go_wp2_with (at_builtin; go_must (refine wpList_append_own _ rfl (.tmp 6) (.tmp 9) 80 rfl w.heap.size 9 i0 (.string ⟨#[]⟩) 1 16 Try.underlying80 hi0 hz0 hz1 hz2 rfl (by decide) (.slice (some ⟨w.heap.size, 0, none⟩) 0 0) 0 [] rfl KO.out ⟨b, off + 1, none⟩ (k - 1) (cap - 1) (A.flatMap Nm.enc) rfl L1.out K1.out (nm_oneCell _) ?c1 ?c2 ?c3 ?_))
  case c1 => unfold maxLen; omega
  case c2 => omega
  case c3 => simp
  intro v5 w5 ho5 hg5 hn5
  obtain ⟨g5, cap5, rfl, hB5⟩ : ∃ g5 cap5, v5 = .slice (some ⟨g5, 0, none⟩) (k - 1) cap5 ∧ w.heap.size ≤ g5 := by
    rcases ho5.2 with ⟨h, _⟩ | ⟨g5, c5, _, h, h1, _⟩
    · exact (hn5 h).elim
    · exact ⟨g5, c5, h.trans (by simp), h1⟩
  have hb5 : Below w.heap.size w w5 := below_grown hx (by simp) hg5 (Nat.le_refl _)
  have HC5 := Lib.hid (cellsAt_grown HC.out hg5 (by simp [Value.ownBlock]; omega))
  have HO5 := Lib.hid ho5
  clear ho5 hg5 hn5 hx KO K1 L1 HC
  have LL := Lib.hid (show ((xs.drop (k + 1)).flatMap Nm.enc).length = (xs.length - (k + 1)) * 1 by rw [flatMap_len Nm.enc_len]; simp)
  have hwl : (without xs k).length = k - 1 + (xs.length - (k + 1)) := by rw [without_len hk h0]; omega
  have HWL := Lib.hid hwl
  clear hwl
  by_cases hcj : cap = k + 1
  · have KK : Hid (∀ j u, ((xs.drop (k + 1)).flatMap Nm.enc)[j]? = some u → w5.cell? ((⟨b, off, none⟩ : Addr).add j) = some u) := Lib.hid (fun j u hj => by rw [List.drop_eq_nil_of_le (by omega)] at hj; simp at hj)
    go_wp2_with (at_builtin; go_must (refine wpList_append_own _ rfl (.tmp 11) (.tmp 15) 80 rfl w.heap.size 9 i0 (.string ⟨#[]⟩) 1 16 Try.underlying80 hi0 hz0 hz1 hz2 rfl (by decide) (.slice (some ⟨g5, 0, none⟩) (k - 1) cap5) (k - 1) (A.flatMap Nm.enc) rfl HO5.out ⟨b, off, none⟩ (xs.length - (k + 1)) (0) ((xs.drop (k + 1)).flatMap Nm.enc) rfl LL.out KK.out (nm_oneCell _) ?c1 ?c2 ?c3 ?_))
    case c1 => unfold maxLen; omega
    case c2 => omega
    case c3 => have := HO5.out.lt g5 rfl; omega
    intro v6 w6 ho6 hg6 hn6
    obtain ⟨g6, cap6, rfl, hB6⟩ : ∃ g6 cap6, v6 = .slice (some ⟨g6, 0, none⟩) (k - 1 + (xs.length - (k + 1))) cap6 ∧ w.heap.size ≤ g6 := by
      rcases ho6.2 with ⟨h, _⟩ | ⟨g6, c6, _, h, h1, _⟩
      · exact (hn6 h).elim
      · exact ⟨g6, c6, h, h1⟩
    obtain ⟨hq1, hq2⟩ := own_cap ho6
    rw [← HWL.out] at ho6 hq1
    have hb6 := below_grown hb5 hb5.size hg6 hB5
    go_wp2
    rw [← HWL.out]
    go_ret
    have ho7 : w6.ownsRow w.heap.size 9 1 (.slice (some ⟨g6, 0, none⟩) (without xs k).length cap6) (without xs k).length ((without xs k).flatMap Nm.enc) := own_as ho6 (by rw [HW.out, List.flatMap_append])
    exact ⟨g6, cap6, rfl, own_cellsAt Nm.enc_len ho7 rfl, hq1, hq2, hb6⟩
  · have KK := Lib.hid (nm_news (nm_drop HC5.out (k + 1)))
    go_wp2_with (at_builtin; go_must (refine wpList_append_own _ rfl (.tmp 11) (.tmp 15) 80 rfl w.heap.size 9 i0 (.string ⟨#[]⟩) 1 16 Try.underlying80 hi0 hz0 hz1 hz2 rfl (by decide) (.slice (some ⟨g5, 0, none⟩) (k - 1) cap5) (k - 1) (A.flatMap Nm.enc) rfl HO5.out ⟨b, off + (k + 1), none⟩ (xs.length - (k + 1)) (cap - (k + 1)) ((xs.drop (k + 1)).flatMap Nm.enc) rfl LL.out KK.out (nm_oneCell _) ?c1 ?c2 ?c3 ?_))
    case c1 => unfold maxLen; omega
    case c2 => omega
    case c3 => have := HO5.out.lt g5 rfl; omega
    intro v6 w6 ho6 hg6 hn6
    obtain ⟨g6, cap6, rfl, hB6⟩ : ∃ g6 cap6, v6 = .slice (some ⟨g6, 0, none⟩) (k - 1 + (xs.length - (k + 1))) cap6 ∧ w.heap.size ≤ g6 := by
      rcases ho6.2 with ⟨h, _⟩ | ⟨g6, c6, _, h, h1, _⟩
      · exact (hn6 h).elim
      · exact ⟨g6, c6, h, h1⟩
    obtain ⟨hq1, hq2⟩ := own_cap ho6
    rw [← HWL.out] at ho6 hq1
    have hb6 := below_grown hb5 hb5.size hg6 hB5
    go_wp2
    rw [← HWL.out]
    go_ret
    have ho7 : w6.ownsRow w.heap.size 9 1 (.slice (some ⟨g6, 0, none⟩) (without xs k).length cap6) (without xs k).length ((without xs k).flatMap Nm.enc) := own_as ho6 (by rw [HW.out, List.flatMap_append])
    exact ⟨g6, cap6, rfl, own_cellsAt Nm.enc_len ho7 rfl, hq1, hq2, hb6⟩
end Go.Proofs.Ytpodkgfapbcmlaa
