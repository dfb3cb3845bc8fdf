/- Contracts on rows of names: Clone, Delete (program), all but two (reference). · Contracts: the pairs of a row of names (program and reference). · Contracts: the pairs of a row of names (reference). -/
import Derived.Test.YtpodkgfapbcmlaaPrP
import Derived.Test.YtpodkgfapbcmlaaPrLay
import Derived.Test.YtpodkgfapbcmlaaStT
import Derived.Lib.RowBridge
import Derived.Test.YtpodkgfapbcmlaaPrA
import Derived.Deep.DeepMust
import Derived.Test.YtpodkgfapbcmlaaBox
namespace Go.Proofs.Ytpodkgfapbcmlaa
open Go.ChangeShapes Go.WideShapes Go.ChangeAt Go.RowKit Go.Sort

theorem infoName : (Try.prog.info? 9).map (fun i => (i.zero, i.size, i.bytes)) = some (some (.string ⟨#[]⟩), 1, 16) := by kernel_rfl
theorem nm_oneCell (xs : List ByteArray) : ∀ u ∈ xs.flatMap Nm.enc, u.oneCell' = true := by
  intro u hu
  obtain ⟨m, _, hm⟩ := List.mem_flatMap.1 hu
  simp only [Nm.enc, List.mem_cons, List.not_mem_nil, or_false] at hm
  rw [hm]; rfl
theorem slice_news {α : Type} {enc : α → List Value} {sz : Nat} (he : ∀ x, (enc x).length = sz) (hs : 0 < sz) {w : World} {ad : Addr} {xs : List α} (hm : SliceAt w sz enc (some ad) xs) : ∀ j u, (xs.flatMap enc)[j]? = some u → w.cell? (ad.add j) = some u := by
  intro j u hj
  rcases hm with rfl | ⟨b, off, hab, hc⟩
  · simp at hj
  · simp only [Option.some.injEq] at hab
    subst hab
    exact cellsAt_row he hs hc j u hj
set_option maxHeartbeats 1000000 in
theorem cloneNames_any (xs : List ByteArray) (ad : Addr) (cap : Nat) (w : World) (hm : SliceAt w 1 Nm.enc (some ad) xs) (hl : xs.length ≤ 1048576) :
    Calls Try.prog 95 #[.slice (some ad) xs.length cap] w (CopyPost w 9 1 Nm.enc xs) := by
  have hq : ∀ wx, (binOp .eql 80 (.slice (some ad) xs.length cap) (.slice none 0 0)).run Try.prog wx = .ok (.bool false) wx := fun wx => Lib.run_eql_slice_nil (P := Try.prog) wx 80 9 (some ad) xs.length cap 0 0 Try.underlying80
  obtain ⟨i0, hi, hz0, hz1, hz2⟩ := info_parts infoName
  have hx : Below w.heap.size w (w.alloc (.cells #[] 9)) := (Below.refl _ _).alloc (Nat.le_refl _) _
  have HN := Lib.hid (slice_news Nm.enc_len (by decide) (hm.kept hx))
  have HO := Lib.hid (World.ownsRow_made (base := w.heap.size) (e := 9) (size := 1) w #[] 0 (Nat.le_refl _) (by unfold maxLen; omega) rfl)
  have HFL := Lib.hid (flatMap_len Nm.enc_len xs)
  clear hm hx
  go_enter Try.func95, Try.ntmps95
  go_wp2_with (at_builtin; refine wpList_append_own _ rfl (.tmp 5) (.tmp 6) 80 rfl w.heap.size 9 i0 (.string ⟨#[]⟩) 1 16 Try.underlying80 hi hz0 hz1 hz2 rfl (by decide) _ 0 [] rfl HO.out ad xs.length cap (xs.flatMap Nm.enc) rfl HFL.out HN.out (nm_oneCell xs) ?c1 ?c2 ?c3 ?_)
  case c1 => unfold maxLen; omega
  case c2 => omega
  case c3 => simp
  intro v' w2 hown2 hgr _
  obtain ⟨a', cap', hv⟩ := own_shape hown2
  rw [hv] at hown2
  rw [hv]
  have HO2 := Lib.hid hown2
  have hb2 : Below w.heap.size w w2 := below_grown ((Below.refl w.heap.size w).alloc (Nat.le_refl _) (.cells #[] 9)) (by simp) hgr (Nat.le_refl _)
  clear hown2 hgr hv
  go_wp2
  go_ret
  exact ⟨a', cap', rfl, HO2.out, hb2⟩
theorem encStr_data (x : ByteArray) : encStr x.data.toList = .string x := by
  unfold encStr
  rw [Array.toArray_toList]
theorem map_encStr (xs : List ByteArray) : (xs.map (fun x : ByteArray => x.data.toList)).map encStr = xs.flatMap Nm.enc := by
  induction xs with
  | nil => rfl
  | cons x xs ih => rw [List.map_cons, List.map_cons, ih, encStr_data]; rfl
/-- a shorter row of the same block -/
theorem own_take {w : World} {B : Nat} {e : TypeId} {sz g cap n m : Nat} {L1 L2 : List Value} (h : w.ownsRow B e sz (.slice (some ⟨g, 0, none⟩) n cap) n (L1 ++ L2)) (hm : m ≤ n) (h1 : L1.length = m * sz) : w.ownsRow B e sz (.slice (some ⟨g, 0, none⟩) m cap) m L1 := by
  obtain ⟨hl, h2⟩ := h
  refine ⟨h1, .inr ?_⟩
  rcases h2 with ⟨hv, _⟩ | ⟨g', c, cur, hv, hb, hg, hc, hx, hs, ht⟩
  · simp at hv
  · simp only [Value.slice.injEq, Option.some.injEq, Addr.mk.injEq, and_true] at hv
    obtain ⟨rfl, _, rfl⟩ := hv
    refine ⟨g, cap, cur, rfl, hb, hg, Nat.le_trans hm hc, hx, hs, ?_⟩
    have : cur.toList.take (m * sz) = (cur.toList.take (n * sz)).take (m * sz) := by rw [List.take_take, Nat.min_eq_left (Nat.mul_le_mul_right _ hm)]
    rw [this, ht, ← h1, List.take_left]
theorem deleteName_any (xs : List ByteArray) (k base g cap : Nat) (w : World) (ho : w.ownsRow base 9 1 (.slice (some ⟨g, 0, none⟩) xs.length cap) xs.length (xs.flatMap Nm.enc)) (hk : k < xs.length) :
    Calls Try.prog 94 #[.slice (some ⟨g, 0, none⟩) xs.length cap, .int .i64 k, .int .i64 ((k : Int) + 1)] w fun e w' => e = .returned (.slice (some ⟨g, 0, none⟩) (xs.length - 1) cap) ∧
      w'.ownsRow base 9 1 (.slice (some ⟨g, 0, none⟩) (xs.length - 1) cap) (xs.length - 1) ((dropAt xs k).flatMap Nm.enc) ∧ w.grownBy w' (some g) := by
  obtain ⟨hc, hm⟩ := own_cap ho
  have hH : Holds encStr w g 0 (xs.map (fun x : ByteArray => x.data.toList)).toArray := by
    intro j hj
    have hj' : j < xs.length := by simpa using hj
    have h1 := own_cells Nm.enc_len ho rfl hj' (j := 0) (v := .string xs[j]) rfl
    refine ⟨?_, ho.frozenAt _⟩
    rw [Nat.zero_add]
    rw [Nat.mul_one, Nat.add_zero] at h1
    rw [h1]
    simp [hj', encStr]
  have h := Any.slices_Delete_string sl24 g 0 cap k (k + 1) (xs.map (fun x : ByteArray => x.data.toList)) w hH (by simpa using hc) (by unfold maxLen at hm; omega) (by omega) (by simp; omega)
  rw [List.length_map] at h
  refine Calls.mono h ?_
  rintro e w' ⟨rfl, q, rfl⟩
  have hlen : ((xs.map (fun x : ByteArray => x.data.toList)).take k ++ (xs.map (fun x : ByteArray => x.data.toList)).drop (k + 1) ++ List.replicate (k + 1 - k) []).length = (xs.map (fun x : ByteArray => x.data.toList)).toArray.size := by simp; omega
  rw [Lib.putRow_eq_setCells encStr w g 0 _ _ q hH hlen, storesAt_cells w]
  have hd : Drew w (w.drewN q) := ⟨q, rfl⟩
  obtain ⟨h1, h2⟩ := own_stores (((xs.map (fun x : ByteArray => x.data.toList)).take k ++ (xs.map (fun x : ByteArray => x.data.toList)).drop (k + 1) ++ List.replicate (k + 1 - k) []).map encStr) 0 (own_below ho (hd.below _))
  refine ⟨by simp, ?_, grownBy_trans (grown_of_below (hd.below _)) h2⟩
  have hR := setR_append (((xs.map (fun x : ByteArray => x.data.toList)).take k ++ (xs.map (fun x : ByteArray => x.data.toList)).drop (k + 1) ++ List.replicate (k + 1 - k) []).map encStr) [] (xs.flatMap Nm.enc) 0 rfl (by rw [flatMap_len Nm.enc_len]; simp; omega)
  rw [List.nil_append, List.nil_append] at hR
  have hL : ((xs.map (fun x : ByteArray => x.data.toList)).take k ++ (xs.map (fun x : ByteArray => x.data.toList)).drop (k + 1) ++ List.replicate (k + 1 - k) []).map encStr = (dropAt xs k).flatMap Nm.enc ++ (List.replicate (k + 1 - k) []).map encStr := by
    rw [← List.map_take, ← List.map_drop, ← List.map_append, List.map_append, map_encStr]; rfl
  have h3 := own_as h1 (by rw [hR, hL, List.append_assoc])
  exact own_take h3 (by omega) (by rw [flatMap_len Nm.enc_len, dropAt_len hk])
end Go.Proofs.Ytpodkgfapbcmlaa

namespace Go.Proofs.Ytpodkgfapbcmlaa
open Go.ChangeShapes Go.WideShapes Go.ChangeAt Go.RowKit Go.Sort

theorem nm_get (xs : List ByteArray) (j : Nat) : (xs.flatMap Nm.enc)[j]? = xs[j]?.map Value.string := by
  induction xs generalizing j with
  | nil => rfl
  | cons x xs ih =>
    cases j with
    | zero => rfl
    | succ j =>
      have : (List.flatMap Nm.enc (x :: xs))[j + 1]? = (xs.flatMap Nm.enc)[j]? := rfl
      rw [this, ih]
      simp
theorem nm_at {w : World} {b off : Nat} {xs : List ByteArray} (h : CellsAt w 1 Nm.enc b off xs) {i : Nat} (hi : i < xs.length) : w.cell? ⟨b, off + i, none⟩ = some (.string xs[i]) := by
  have := h.at0 hi (v := .string xs[i]) rfl
  rwa [Nat.mul_one] at this
theorem nm_drop {w : World} {b off : Nat} {xs : List ByteArray} (h : CellsAt w 1 Nm.enc b off xs) (i : Nat) : CellsAt w 1 Nm.enc b (off + i) (xs.drop i) := by
  intro j hj p v hv
  have hj' : i + j < xs.length := by simpa [Nat.lt_sub_iff_add_lt, Nat.add_comm] using hj
  have e : (xs.drop i)[j] = xs[i + j] := by simp
  rw [e] at hv
  have := h (i + j) hj' p v hv
  rw [show off + i + j * 1 + p = off + (i + j) * 1 + p from by omega]
  exact this
theorem nm_take {w : World} {b off : Nat} {xs : List ByteArray} (h : CellsAt w 1 Nm.enc b off xs) (i : Nat) : CellsAt w 1 Nm.enc b off (xs.take i) := by
  intro j hj p v hv
  have hj' : j < xs.length := by simp at hj; omega
  have e : (xs.take i)[j] = xs[j] := by simp
  rw [e] at hv
  exact h j hj' p v hv
theorem nm_news {w : World} {b off : Nat} {xs : List ByteArray} (h : CellsAt w 1 Nm.enc b off xs) : ∀ j u, (xs.flatMap Nm.enc)[j]? = some u → w.cell? ((⟨b, off, none⟩ : Addr).add j) = some u := cellsAt_row Nm.enc_len (by decide) h
theorem cellsAt_kept {α : Type} {enc : α → List Value} {sz : Nat} {w w' : World} {b off : Nat} {xs : List α} (h : CellsAt w sz enc b off xs) (hb : Below w.heap.size w w') : CellsAt w' sz enc b off xs :=
  fun i hi j v hv => cell_kept (h i hi j v hv) hb
theorem cellsAt_grown {α : Type} {enc : α → List Value} {sz : Nat} {w w' : World} {b off : Nat} {row : Option Nat} {xs : List α} (h : CellsAt w sz enc b off xs) (hg : w.grownBy w' row) (hne : some b ≠ row) : CellsAt w' sz enc b off xs :=
  fun i hi j v hv => hg.cell (h i hi j v hv) hne
/-- what an own row holds, as cells -/
theorem own_cellsAt {α : Type} {enc : α → List Value} {sz : Nat} (he : ∀ x, (enc x).length = sz) {w : World} {B : Nat} {e : TypeId} {g cap n : Nat} {xs : List α} (h : w.ownsRow B e sz (.slice (some ⟨g, 0, none⟩) n cap) n (xs.flatMap enc)) (hn : n = xs.length) : CellsAt w sz enc g 0 xs := by
  intro i hi j v hv
  rw [Nat.zero_add]
  exact own_cells he h hn hi hv

set_option maxRecDepth 100000 in
set_option maxHeartbeats 2000000 in
theorem l26Without_any (xs : List ByteArray) (k b off cap : Nat) (w : World) (hc : CellsAt w 1 Nm.enc b off xs) (h0 : 0 < k) (hk : k < xs.length) (hcl : xs.length ≤ cap) (hcm : cap ≤ 9223372036854775807) (hl : xs.length ≤ 1048576) :
    Calls Try.prog 125 #[.slice (some ⟨b, off, none⟩) xs.length cap, .int .i64 k] w fun e w' => ∃ g cap', e = .returned (.slice (some ⟨g, 0, none⟩) (without xs k).length cap') ∧ CellsAt w' 1 Nm.enc g 0 (without xs k) ∧ (without xs k).length ≤ cap' ∧ cap' ≤ maxLen ∧ Below w.heap.size w w' := by
  obtain ⟨i0, hi0, hz0, hz1, hz2⟩ := info_parts infoName
  have hx : Below w.heap.size w (w.alloc (.cells #[] 9)) := (Below.refl _ _).alloc (Nat.le_refl _) _
  have hcx := cellsAt_kept hc hx
  have KO := Lib.hid (World.ownsRow_made (base := w.heap.size) (e := 9) (size := 1) w #[] 0 (Nat.le_refl _) (by unfold maxLen; omega) rfl)
  have k1 := nm_news (nm_drop (nm_take hcx k) 1)
  have l1 : (((xs.take k).drop 1).flatMap Nm.enc).length = (k - 1) * 1 := by rw [flatMap_len Nm.enc_len]; simp; omega
  obtain ⟨A, hA⟩ : ∃ A, (xs.take k).drop 1 = A := ⟨_, rfl⟩
  have HW : Hid (without xs k = A ++ xs.drop (k + 1)) := Lib.hid (by unfold without; rw [hA])
  rw [hA] at k1 l1
  have K1 := Lib.hid k1
  have L1 := Lib.hid l1
  clear k1 l1 hA
  have hbw : b < w.heap.size := by have := block_lt (nm_at hc hk); simpa using this
  have HC := Lib.hid hcx
  have hk1 : (1 : Int) ≤ (k : Int) := by omega
  have hk2 : (k : Int) ≤ (cap : Int) := by omega
  have hk3 : (k : Int) + 1 ≤ (xs.length : Int) := by omega
  clear hc hcx
  go_enter Try.func125, Try.ntmps125
  go_wp2_with (at_builtin; go_must (refine wpList_append_own _ rfl (.tmp 6) (.tmp 9) 80 rfl w.heap.size 9 i0 (.string ⟨#[]⟩) 1 16 Try.underlying80 hi0 hz0 hz1 hz2 rfl (by decide) (.slice (some ⟨w.heap.size, 0, none⟩) 0 0) 0 [] rfl KO.out ⟨b, off + 1, none⟩ (k - 1) (cap - 1) (A.flatMap Nm.enc) rfl L1.out K1.out (nm_oneCell _) ?c1 ?c2 ?c3 ?_))
  case c1 => unfold maxLen; omega
  case c2 => omega
  case c3 => simp
  intro v5 w5 ho5 hg5 hn5
  obtain ⟨g5, cap5, rfl, hB5⟩ : ∃ g5 cap5, v5 = .slice (some ⟨g5, 0, none⟩) (k - 1) cap5 ∧ w.heap.size ≤ g5 := by
    rcases ho5.2 with ⟨h, _⟩ | ⟨g5, c5, _, h, h1, _⟩
    · exact (hn5 h).elim
    · exact ⟨g5, c5, h.trans (by simp), h1⟩
  have hb5 : Below w.heap.size w w5 := below_grown hx (by simp) hg5 (Nat.le_refl _)
  have HC5 := Lib.hid (cellsAt_grown HC.out hg5 (by simp [Value.ownBlock]; omega))
  have HO5 := Lib.hid ho5
  clear ho5 hg5 hn5 hx KO K1 L1 HC
  have LL := Lib.hid (show ((xs.drop (k + 1)).flatMap Nm.enc).length = (xs.length - (k + 1)) * 1 by rw [flatMap_len Nm.enc_len]; simp)
  have hwl : (without xs k).length = k - 1 + (xs.length - (k + 1)) := by rw [without_len hk h0]; omega
  have HWL := Lib.hid hwl
  clear hwl
  by_cases hcj : cap = k + 1
  · have KK : Hid (∀ j u, ((xs.drop (k + 1)).flatMap Nm.enc)[j]? = some u → w5.cell? ((⟨b, off, none⟩ : Addr).add j) = some u) := Lib.hid (fun j u hj => by rw [List.drop_eq_nil_of_le (by omega)] at hj; simp at hj)
    go_wp2_with (at_builtin; go_must (refine wpList_append_own _ rfl (.tmp 11) (.tmp 15) 80 rfl w.heap.size 9 i0 (.string ⟨#[]⟩) 1 16 Try.underlying80 hi0 hz0 hz1 hz2 rfl (by decide) (.slice (some ⟨g5, 0, none⟩) (k - 1) cap5) (k - 1) (A.flatMap Nm.enc) rfl HO5.out ⟨b, off, none⟩ (xs.length - (k + 1)) (0) ((xs.drop (k + 1)).flatMap Nm.enc) rfl LL.out KK.out (nm_oneCell _) ?c1 ?c2 ?c3 ?_))
    case c1 => unfold maxLen; omega
    case c2 => omega
    case c3 => have := HO5.out.lt g5 rfl; omega
    intro v6 w6 ho6 hg6 hn6
    obtain ⟨g6, cap6, rfl, hB6⟩ : ∃ g6 cap6, v6 = .slice (some ⟨g6, 0, none⟩) (k - 1 + (xs.length - (k + 1))) cap6 ∧ w.heap.size ≤ g6 := by
      rcases ho6.2 with ⟨h, _⟩ | ⟨g6, c6, _, h, h1, _⟩
      · exact (hn6 h).elim
      · exact ⟨g6, c6, h, h1⟩
    obtain ⟨hq1, hq2⟩ := own_cap ho6
    rw [← HWL.out] at ho6 hq1
    have hb6 := below_grown hb5 hb5.size hg6 hB5
    go_wp2
    rw [← HWL.out]
    go_ret
    have ho7 : w6.ownsRow w.heap.size 9 1 (.slice (some ⟨g6, 0, none⟩) (without xs k).length cap6) (without xs k).length ((without xs k).flatMap Nm.enc) := own_as ho6 (by rw [HW.out, List.flatMap_append])
    exact ⟨g6, cap6, rfl, own_cellsAt Nm.enc_len ho7 rfl, hq1, hq2, hb6⟩
  · have KK := Lib.hid (nm_news (nm_drop HC5.out (k + 1)))
    go_wp2_with (at_builtin; go_must (refine wpList_append_own _ rfl (.tmp 11) (.tmp 15) 80 rfl w.heap.size 9 i0 (.string ⟨#[]⟩) 1 16 Try.underlying80 hi0 hz0 hz1 hz2 rfl (by decide) (.slice (some ⟨g5, 0, none⟩) (k - 1) cap5) (k - 1) (A.flatMap Nm.enc) rfl HO5.out ⟨b, off + (k + 1), none⟩ (xs.length - (k + 1)) (cap - (k + 1)) ((xs.drop (k + 1)).flatMap Nm.enc) rfl LL.out KK.out (nm_oneCell _) ?c1 ?c2 ?c3 ?_))
    case c1 => unfold maxLen; omega
    case c2 => omega
    case c3 => have := HO5.out.lt g5 rfl; omega
    intro v6 w6 ho6 hg6 hn6
    obtain ⟨g6, cap6, rfl, hB6⟩ : ∃ g6 cap6, v6 = .slice (some ⟨g6, 0, none⟩) (k - 1 + (xs.length - (k + 1))) cap6 ∧ w.heap.size ≤ g6 := by
      rcases ho6.2 with ⟨h, _⟩ | ⟨g6, c6, _, h, h1, _⟩
      · exact (hn6 h).elim
      · exact ⟨g6, c6, h, h1⟩
    obtain ⟨hq1, hq2⟩ := own_cap ho6
    rw [← HWL.out] at ho6 hq1
    have hb6 := below_grown hb5 hb5.size hg6 hB5
    go_wp2
    rw [← HWL.out]
    go_ret
    have ho7 : w6.ownsRow w.heap.size 9 1 (.slice (some ⟨g6, 0, none⟩) (without xs k).length cap6) (without xs k).length ((without xs k).flatMap Nm.enc) := own_as ho6 (by rw [HW.out, List.flatMap_append])
    exact ⟨g6, cap6, rfl, own_cellsAt Nm.enc_len ho7 rfl, hq1, hq2, hb6⟩
end Go.Proofs.Ytpodkgfapbcmlaa

namespace Go.Proofs.Ytpodkgfapbcmlaa
open Go.ChangeShapes Go.WideShapes Go.ChangeAt Go.RowKit Go.Sort

/-- pairs in new memory, and whether all have one -/
def PairPost (w : World) (p : List Pai × Bool) (en : Ending) (w' : World) : Prop :=
  ∃ (a : Option Addr) (cap : Nat), en = .returned (.tuple #[.slice a p.1.length cap, .bool p.2]) ∧ (p.2 = true → a ≠ none) ∧ w'.ownsRow w.heap.size 82 2 (.slice a p.1.length cap) p.1.length (p.1.flatMap Pai.enc) ∧ Below w.heap.size w w'
theorem own_at {w : World} {B : Nat} {e : TypeId} {sz n cap : Nat} {a : Option Addr} {L : List Value} (h : w.ownsRow B e sz (.slice a n cap) n L) (ha : a ≠ none) : ∃ g, a = some ⟨g, 0, none⟩ := by
  rcases h.2 with ⟨hv, _⟩ | ⟨g, _, _, hv, _⟩
  · simp only [Value.slice.injEq] at hv
    exact absurd hv.1 ha
  · simp only [Value.slice.injEq] at hv
    exact ⟨g, hv.1⟩
theorem pai_one (p : Pai) : ∀ u ∈ Pai.enc p, u.oneCell' = true := by
  intro u hu
  simp only [Pai.enc, List.mem_cons, List.not_mem_nil, or_false] at hu
  rcases hu with rfl | rfl <;> rfl
theorem pai_ones (xs : List Pai) : ∀ u ∈ xs.flatMap Pai.enc, u.oneCell' = true := by
  intro u hu
  obtain ⟨m, _, hm⟩ := List.mem_flatMap.1 hu
  exact pai_one m u hm
theorem pai_new (w : World) (p : Pai) (e : TypeId) (base : Nat) (hb : base ≤ w.heap.size) : (w.alloc (.cells #[.string p.a, .string p.b] e)).ownsRow base e 2 (.slice (some ⟨w.heap.size, 0, none⟩) 1 1) 1 (Pai.enc p) :=
  ⟨rfl, .inr ⟨w.heap.size, 1, #[.string p.a, .string p.b], rfl, hb, heap_alloc_new w _, Nat.le_refl _, by unfold maxLen; omega, rfl, rfl⟩⟩

theorem step_fresh {P : Program} {c : Prop} [Decidable c] {o : Oper} {a : Act} {X : World} {cs : Array Value} {t : TypeId} {K : Act → World → Prop} {Q : Exit → Act → World → Prop} {E : Prop} (sz : Nat) (hs : cs.size = 1 * sz)
    (h : ∀ wz, Below X.heap.size X wz → wz.ownsRow X.heap.size t sz (.slice (some ⟨X.heap.size, 0, none⟩) 1 1) 1 cs.toList → if c then o.wp P a wz K Q else E) : if c then o.wp P a (X.alloc (.cells cs t)) K Q else E :=
  h _ ((Below.refl _ _).alloc (Nat.le_refl _) _) ⟨Array.length_toList.trans hs, .inr ⟨X.heap.size, 1, cs, rfl, Nat.le_refl _, heap_alloc_new X _, Nat.le_refl _, by unfold maxLen; omega, hs, List.take_of_length_le (by rw [Array.length_toList, hs]; exact Nat.le_refl _)⟩⟩
theorem step_fresh_drew {P : Program} {c : Prop} [Decidable c] {o : Oper} {a : Act} {X : World} {cs : Array Value} {t : TypeId} {K : Act → World → Prop} {Q : Exit → Act → World → Prop} {E : Prop} (sz : Nat) (hs : cs.size = 1 * sz)
    (h : ∀ wz, Below X.heap.size X wz → wz.ownsRow X.heap.size t sz (.slice (some ⟨X.heap.size, 0, none⟩) 1 1) 1 cs.toList → if c then o.wp P a wz K Q else E) : if c then o.wp P a (X.drew.alloc (.cells cs t)) K Q else E :=
  step_fresh (X := X.drew) sz hs fun wz hb ho => h wz (((Below.refl X.heap.size X).drew).trans hb) ho
theorem step_append_own {P : Program} {w : World} {ops : Array Oper} {o : Oper} {a : Act} {K : Act → World → Prop} {Q : Exit → Act → World → Prop} {E : Prop} (hgd : o.guard = none) (s x : Operand) (t : TypeId)
    (ho : o.op = .call { callee := .builtin .append, args := #[s, x], argTypes := #[t, t] })
    (base : Nat) (e : TypeId) (i : TypeInfo) (z : Value) (size bytes : Nat) (ht : P.underlying t = some (.slice e)) (hi : P.info? e = some i) (hz : i.zero = some z)
    (hsize : i.size = size) (hby : i.bytes = bytes) (hzs : z.cells.size = size) (hsz : 0 < size)
    (v : Value) (n : Nat) (xs : List Value) (hs : a.eval s = v) (hown : w.ownsRow base e size v n xs)
    (ad : Addr) (m c : Nat) (news : List Value) (hx : a.eval x = .slice (some ad) m c) (hl : news.length = m * size) (hnews : ∀ j u, news[j]? = some u → w.cell? (ad.add j) = some u) (h1 : ∀ u ∈ news, u.oneCell' = true)
    (h63 : n + m ≤ maxLen) (hbytes : (n + m) * bytes ≤ 140737488355328) (hbase : base ≤ w.heap.size)
    (h : ∀ v' w', w'.ownsRow base e size v' (n + m) (xs ++ news) → w.grownBy w' v.ownBlock → (v' = .slice none 0 0 ↔ v = .slice none 0 0 ∧ m = 0) → K (a.put o.dst v') w') :
    if Region.wanted o (yielded ops a.tmps) = true then Oper.wp P o a w K Q else E := by
  have hw : Region.wanted o (yielded ops a.tmps) = true := by simp [Region.wanted, hgd]
  rw [if_pos hw]
  exact wp_append_own w s x t ho base e i z size bytes ht hi hz hsize hby hzs hsz v n xs hs hown ad m c news hx hl hnews h1 h63 hbytes hbase h

set_option maxRecDepth 100000 in
set_option maxHeartbeats 4000000 in
theorem l26Pairs_any (rs : List Res) (ra : Option Addr) (rcap : Nat) (hlr : rs.length ≤ 1048576) (f : Nat) : ∀ (xs : List ByteArray) (b off cap : Nat) (w : World), f ≤ 13 → xs.length ≤ 2 * f + 1 → CellsAt w 1 Nm.enc b off xs → xs.length ≤ cap → cap ≤ maxLen → SliceAt w 4 Res.enc ra rs →
    Calls Try.prog 96 #[.slice (some ⟨b, off, none⟩) xs.length cap, .slice ra rs.length rcap] w (PairPost w (pairsN rs f xs)) := by
  induction f using Nat.strongRecOn with
  | ind f IH =>
    intro xs b off cap w hf hn hc hcap hcm hr
    obtain ⟨i0, hi0, hz0, hz1, hz2⟩ := info_parts infoPairing
    have HRS := Lib.hid hr; clear hr
    have HC := Lib.hid hc; clear hc
    by_cases h0 : xs.length = 0
    · obtain rfl := List.eq_nil_of_length_eq_zero h0
      have HN := Lib.hid (pairsN_nil rs f)
      have HO := Lib.hid (World.ownsRow_made (base := w.heap.size) (e := 82) (size := 2) w #[] 0 (Nat.le_refl _) (by unfold maxLen; omega) rfl)
      have hb : Below w.heap.size w (w.alloc (.cells #[] 82)) := (Below.refl _ _).alloc (Nat.le_refl _) _
      go_enter Try.func96, Try.ntmps96
      go_wp2
      go_ret2
      rw [HN.out]
      exact ⟨_, _, rfl, by simp, HO.out, hb⟩
    · have h0' : 0 < xs.length := by omega
      have HT0 := Lib.hid (pairsN_try (rs := rs) h0' hn)
      clear h0
      unfold maxLen at hcm
      have hzz : ((xs.length : Int) == 0) = false := by simpa using (by omega : ¬ (xs.length : Int) = 0)
      go_enter Try.func96, Try.ntmps96
      go_wp2
      clear hzz
      go_loopw [6] (fun iv wr => ∃ k : Nat, 0 < k ∧ k ≤ xs.length ∧ iv = .int .i64 k ∧ Hid (tryFrom rs (pairsN rs (f - 1)) xs (xs.length - k) k = pairsN rs f xs) ∧ Below w.heap.size w wr) (fun iv _ => xs.length - (intOf iv).toNat)
      case atStart => exact ⟨1, by omega, h0', by first | rfl | go_num, Lib.hid HT0.out.symm, Below.refl _ _⟩
      case round =>
        obtain ⟨k, hk0, hk, rfl, HT, hb⟩ := hrel
        by_cases hlt : k < xs.length
        · have cs := cellsAt_kept HC.out hb
          have q0 := nm_at cs h0'
          have qk := nm_at cs hlt
          simp only [Nat.add_zero] at q0
          have CS := Lib.hid cs
          clear cs
          have hp0 := fun (wx : World) (h : SliceAt wx 4 Res.enc ra rs) => l26Played_any rs (xs[0]'h0') xs[k] ra rcap wx h (by omega)
          cases hp : played rs (xs[0]'h0') xs[k] with
          | true =>
            rw [hp] at hp0
            have HP := Lib.hid hp0
            have HT2 := Lib.hid ((tryFrom_played (rec := pairsN rs (f - 1)) hlt hp).symm.trans HT.out)
            clear hp0 hp
            go_wp2
            go_quiet ((go_at_call 97; exact quiet_of_eq (HP.out _ (((HRS.out.kept hb).drew ⟨_, rfl⟩)))))
            have hd : Below wr.heap.size wr (wr.drewN nq) := (Drew.drewN (Drew.refl _) nq).below _
            have cs := cellsAt_kept CS.out hd
            have HB2 := Lib.hid (hb.trans (hd.mono hb.size))
            clear hd
            generalize wr.drewN nq = wa at *
            go_wp2
            go_roundw
            case rel => exact ⟨k + 1, by omega, by omega, by go_num, HT2, HB2.out⟩
            case measure => simp [intOf]; omega
          | false =>
            rw [hp] at hp0
            have HP := Lib.hid hp0
            have HPF := Lib.hid hp
            clear hp0 hp
            go_wp2
            go_quiet ((go_at_call 97; exact quiet_of_eq (HP.out _ (((HRS.out.kept hb).drew ⟨_, rfl⟩)))))
            have hd : Below wr.heap.size wr (wr.drewN nq) := (Drew.drewN (Drew.refl _) nq).below _
            have cs := cellsAt_kept CS.out hd
            have HB2 := Lib.hid (hb.trans (hd.mono hb.size))
            clear hd
            generalize wr.drewN nq = wa at *
            have CS2 := Lib.hid cs
            clear cs q0 qk CS
            go_wp2_with fail
            refine (l26Without_any xs k b off cap wa CS2.out hk0 hlt hcap hcm (by omega)).mono ?_
            rintro e w2 ⟨g2, cap2, rfl, cs2, h1, h2, hd⟩
            have CW := Lib.hid cs2
            have HB3 := Lib.hid (HB2.out.trans (hd.mono HB2.out.size))
            have CS3 := Lib.hid (cellsAt_kept CS2.out hd)
            clear hd cs2 CS2
            go_wp2_with fail
            refine (IH (f - 1) (by omega) (without xs k) g2 0 cap2 _ (by omega) (by rw [without_len hlt hk0]; omega) CW.out h1 h2 (HRS.out.kept HB3.out)).mono ?_
            clear CW h1 h2
            rintro e w3 ⟨a3, cap3, rfl, hne, ho, hd⟩
            have HY := Lib.hid (fun h => tryFrom_yes (rec := pairsN rs (f - 1)) hlt HPF.out h)
            have HX := Lib.hid (fun h => tryFrom_no (rec := pairsN rs (f - 1)) hlt HPF.out h)
            have hpl0 := pairsN_len rs (f - 1) (without xs k) (by rw [without_len hlt hk0]; omega)
            obtain ⟨P, hP⟩ : ∃ P, pairsN rs (f - 1) (without xs k) = P := ⟨_, rfl⟩
            rw [hP] at hne ho HY HX hpl0 ⊢
            have HPL := Lib.hid (show P.1.length ≤ 13 by omega)
            clear hpl0
            clear hP
            obtain ⟨pl, pb⟩ := P
            cases pb with
            | false =>
              have HX2 := Lib.hid ((HX.out rfl).symm.trans HT.out)
              clear HX HY ho hne
              have HB4 := Lib.hid (HB3.out.trans (hd.mono HB3.out.size))
              clear hd
              go_wp2
              go_roundw
              case rel => exact ⟨k + 1, by omega, by omega, by go_num, HX2, HB4.out⟩
              case measure => simp [intOf]; omega
            | true =>
              obtain ⟨g3, rfl⟩ := own_at ho (hne rfl)
              have HE := Lib.hid ((HY.out rfl).symm.trans HT.out)
              clear HX HY hne HT
              have cs4 := cellsAt_kept CS3.out hd
              have q0 := nm_at cs4 h0'
              have qk := nm_at cs4 hlt
              simp only [Nat.add_zero] at q0
              have HB4 := Lib.hid (HB3.out.trans (hd.mono HB3.out.size))
              have HO := Lib.hid ho
              clear hd cs4 CS3 ho
              go_wp2_with fail
              have HN := Lib.hid (own_news (L1 := pl.flatMap Pai.enc) (L2 := []) (own_as HO.out (by simp)))
              have hpl := HPL.out
              have hbw : b < w3.heap.size := block_lt q0
              obtain ⟨k_q0, k_qk⟩ := And.intro q0 qk
              have hk : Below w3.heap.size w3 w3 := Below.refl _ _
              go_region_held3 (fun w' => w'.cell? ⟨b, off, none⟩ = some (.string (xs[0]'h0')) ∧ w'.cell? ⟨b, off + k, none⟩ = some (.string xs[k]))
                (first | exact ⟨k_q0, k_qk⟩ | exact ⟨cell_alloc k_q0 _, cell_alloc k_qk _⟩)
                (((first | refine step_fresh 2 rfl ?_ | refine step_fresh_drew 2 rfl ?_); intro wz hxz how; refine step_append_own ?_ (.tmp 45) (.tmp 46) 77 ?_ w3.heap.size 82 i0 (.agg #[.string ⟨#[]⟩, .string ⟨#[]⟩]) 2 32 Try.underlying77 hi0 hz0 hz1 hz2 rfl (by decide) (.slice (some ⟨w3.heap.size, 0, none⟩) 1 1) 1 (Pai.enc ⟨xs[0]'h0', xs[k]⟩) ?_ how ⟨g3, 0, none⟩ pl.length cap3 (pl.flatMap Pai.enc) ?_ (flatMap_len Pai.enc_len pl) (fun j u hj => cell_kept (HN.out j u hj) hxz) (pai_ones pl) ?_ ?_ hxz.size ?_; (all_goals (first | rfl | (unfold maxLen; omega) | omega | skip)); intro v5 w5 ho5 hg5 hn5; obtain ⟨g5, cap5, rfl, hB5, hlt5⟩ := ho5.form (by omega); replace k_q0 := hg5.cell (cell_kept k_q0 hxz) (by simp [Value.ownBlock]; omega); replace k_qk := hg5.cell (cell_kept k_qk hxz) (by simp [Value.ownBlock]; omega); replace hk := below_grown hxz hxz.size hg5 (Nat.le_refl _); have H5 := Lib.hid (own_as ho5 (L' := (⟨xs[0]'h0', xs[k]⟩ :: pl : List Pai).flatMap Pai.enc) (by simp)); clear ho5 hg5 hn5 hxz how))
              all_goals
                go_wp2
                go_ret2
                rw [← HE.out, Nat.add_comm 1 pl.length]
                have h5 := own_mono H5.out HB4.out.size
                rw [Nat.add_comm 1 pl.length] at h5
                exact ⟨_, _, rfl, by simp, h5, HB4.out.trans (hk.mono HB4.out.size)⟩
        · have HE := Lib.hid ((tryFrom_end (rs := rs) (rec := pairsN rs (f - 1)) hlt).symm.trans HT.out)
          go_wp2
          go_ret2
          rw [← HE.out]
          exact ⟨none, 0, rfl, by simp, by simpa using World.ownsRow_nil _ w.heap.size 82 2, hb⟩
end Go.Proofs.Ytpodkgfapbcmlaa
