/- Contracts on rows of names: Clone, Delete (program), all but two (reference). -/
import Derived.Test.YtpodkgfapbcmlaaPrP
import Derived.Test.YtpodkgfapbcmlaaPrLay
import Derived.Test.YtpodkgfapbcmlaaStT
import Derived.Lib.RowBridge
namespace Go.Proofs.Ytpodkgfapbcmlaa
open Go.ChangeShapes Go.WideShapes Go.ChangeAt Go.RowKit Go.Sort

theorem infoName : (Try.prog.info? 9).map (fun i => (i.zero, i.size, i.bytes)) = some (some (.string ⟨#[]⟩), 1, 16) := by kernel_rfl
theorem nm_oneCell (xs : List ByteArray) : ∀ u ∈ xs.flatMap Nm.enc, u.oneCell' = true := by
  intro u hu
  obtain ⟨m, _, hm⟩ := List.mem_flatMap.1 hu
  simp only [Nm.enc, List.mem_cons, List.not_mem_nil, or_false] at hm
  rw [hm]; rfl
theorem slice_news {α : Type} {enc : α → List Value} {sz : Nat} (he : ∀ x, (enc x).length = sz) (hs : 0 < sz) {w : World} {ad : Addr} {xs : List α} (hm : SliceAt w sz enc (some ad) xs) : ∀ j u, (xs.flatMap enc)[j]? = some u → w.cell? (ad.add j) = some u := by
  intro j u hj
  rcases hm with rfl | ⟨b, off, hab, hc⟩
  · simp at hj
  · simp only [Option.some.injEq] at hab
    subst hab
    exact cellsAt_row he hs hc j u hj
set_option maxHeartbeats 1000000 in
theorem cloneNames_any (xs : List ByteArray) (ad : Addr) (cap : Nat) (w : World) (hm : SliceAt w 1 Nm.enc (some ad) xs) (hl : xs.length ≤ 1048576) :
    Calls Try.prog 95 #[.slice (some ad) xs.length cap] w (CopyPost w 9 1 Nm.enc xs) := by
  have hq : ∀ wx, (binOp .eql 80 (.slice (some ad) xs.length cap) (.slice none 0 0)).run Try.prog wx = .ok (.bool false) wx := fun wx => Lib.run_eql_slice_nil (P := Try.prog) wx 80 9 (some ad) xs.length cap 0 0 Try.underlying80
  obtain ⟨i0, hi, hz0, hz1, hz2⟩ := info_parts infoName
  have hx : Below w.heap.size w (w.alloc (.cells #[] 9)) := (Below.refl _ _).alloc (Nat.le_refl _) _
  have HN := Lib.hid (slice_news Nm.enc_len (by decide) (hm.kept hx))
  have HO := Lib.hid (World.ownsRow_made (base := w.heap.size) (e := 9) (size := 1) w #[] 0 (Nat.le_refl _) (by unfold maxLen; omega) rfl)
  have HFL := Lib.hid (flatMap_len Nm.enc_len xs)
  clear hm hx
  go_enter Try.func95, Try.ntmps95
  go_wp2_with (at_builtin; refine wpList_append_own _ rfl (.tmp 5) (.tmp 6) 80 rfl w.heap.size 9 i0 (.string ⟨#[]⟩) 1 16 Try.underlying80 hi hz0 hz1 hz2 rfl (by decide) _ 0 [] rfl HO.out ad xs.length cap (xs.flatMap Nm.enc) rfl HFL.out HN.out (nm_oneCell xs) ?c1 ?c2 ?c3 ?_)
  case c1 => unfold maxLen; omega
  case c2 => omega
  case c3 => simp
  intro v' w2 hown2 hgr _
  obtain ⟨a', cap', hv⟩ := own_shape hown2
  rw [hv] at hown2
  rw [hv]
  have HO2 := Lib.hid hown2
  have hb2 : Below w.heap.size w w2 := below_grown ((Below.refl w.heap.size w).alloc (Nat.le_refl _) (.cells #[] 9)) (by simp) hgr (Nat.le_refl _)
  clear hown2 hgr hv
  go_wp2
  go_ret
  exact ⟨a', cap', rfl, HO2.out, hb2⟩
theorem encStr_data (x : ByteArray) : encStr x.data.toList = .string x := by
  unfold encStr
  rw [Array.toArray_toList]
theorem map_encStr (xs : List ByteArray) : (xs.map (fun x : ByteArray => x.data.toList)).map encStr = xs.flatMap Nm.enc := by
  induction xs with
  | nil => rfl
  | cons x xs ih => rw [List.map_cons, List.map_cons, ih, encStr_data]; rfl
/-- a shorter row of the same block -/
theorem own_take {w : World} {B : Nat} {e : TypeId} {sz g cap n m : Nat} {L1 L2 : List Value} (h : w.ownsRow B e sz (.slice (some ⟨g, 0, none⟩) n cap) n (L1 ++ L2)) (hm : m ≤ n) (h1 : L1.length = m * sz) : w.ownsRow B e sz (.slice (some ⟨g, 0, none⟩) m cap) m L1 := by
  obtain ⟨hl, h2⟩ := h
  refine ⟨h1, .inr ?_⟩
  rcases h2 with ⟨hv, _⟩ | ⟨g', c, cur, hv, hb, hg, hc, hx, hs, ht⟩
  · simp at hv
  · simp only [Value.slice.injEq, Option.some.injEq, Addr.mk.injEq, and_true] at hv
    obtain ⟨rfl, _, rfl⟩ := hv
    refine ⟨g, cap, cur, rfl, hb, hg, Nat.le_trans hm hc, hx, hs, ?_⟩
    have : cur.toList.take (m * sz) = (cur.toList.take (n * sz)).take (m * sz) := by rw [List.take_take, Nat.min_eq_left (Nat.mul_le_mul_right _ hm)]
    rw [this, ht, ← h1, List.take_left]
theorem deleteName_any (xs : List ByteArray) (k base g cap : Nat) (w : World) (ho : w.ownsRow base 9 1 (.slice (some ⟨g, 0, none⟩) xs.length cap) xs.length (xs.flatMap Nm.enc)) (hk : k < xs.length) :
    Calls Try.prog 94 #[.slice (some ⟨g, 0, none⟩) xs.length cap, .int .i64 k, .int .i64 ((k : Int) + 1)] w fun e w' => e = .returned (.slice (some ⟨g, 0, none⟩) (xs.length - 1) cap) ∧
      w'.ownsRow base 9 1 (.slice (some ⟨g, 0, none⟩) (xs.length - 1) cap) (xs.length - 1) ((dropAt xs k).flatMap Nm.enc) ∧ w.grownBy w' (some g) := by
  obtain ⟨hc, hm⟩ := own_cap ho
  have hH : Holds encStr w g 0 (xs.map (fun x : ByteArray => x.data.toList)).toArray := by
    intro j hj
    have hj' : j < xs.length := by simpa using hj
    have h1 := own_cells Nm.enc_len ho rfl hj' (j := 0) (v := .string xs[j]) rfl
    refine ⟨?_, ho.frozenAt _⟩
    rw [Nat.zero_add]
    rw [Nat.mul_one, Nat.add_zero] at h1
    rw [h1]
    simp [hj', encStr]
  have h := Any.slices_Delete_string sl24 g 0 cap k (k + 1) (xs.map (fun x : ByteArray => x.data.toList)) w hH (by simpa using hc) (by unfold maxLen at hm; omega) (by omega) (by simp; omega)
  rw [List.length_map] at h
  refine Calls.mono h ?_
  rintro e w' ⟨rfl, q, rfl⟩
  have hlen : ((xs.map (fun x : ByteArray => x.data.toList)).take k ++ (xs.map (fun x : ByteArray => x.data.toList)).drop (k + 1) ++ List.replicate (k + 1 - k) []).length = (xs.map (fun x : ByteArray => x.data.toList)).toArray.size := by simp; omega
  rw [Lib.putRow_eq_setCells encStr w g 0 _ _ q hH hlen, storesAt_cells w]
  have hd : Drew w (w.drewN q) := ⟨q, rfl⟩
  obtain ⟨h1, h2⟩ := own_stores (((xs.map (fun x : ByteArray => x.data.toList)).take k ++ (xs.map (fun x : ByteArray => x.data.toList)).drop (k + 1) ++ List.replicate (k + 1 - k) []).map encStr) 0 (own_below ho (hd.below _))
  refine ⟨by simp, ?_, grownBy_trans (grown_of_below (hd.below _)) h2⟩
  have hR := setR_append (((xs.map (fun x : ByteArray => x.data.toList)).take k ++ (xs.map (fun x : ByteArray => x.data.toList)).drop (k + 1) ++ List.replicate (k + 1 - k) []).map encStr) [] (xs.flatMap Nm.enc) 0 rfl (by rw [flatMap_len Nm.enc_len]; simp; omega)
  rw [List.nil_append, List.nil_append] at hR
  have hL : ((xs.map (fun x : ByteArray => x.data.toList)).take k ++ (xs.map (fun x : ByteArray => x.data.toList)).drop (k + 1) ++ List.replicate (k + 1 - k) []).map encStr = (dropAt xs k).flatMap Nm.enc ++ (List.replicate (k + 1 - k) []).map encStr := by
    rw [← List.map_take, ← List.map_drop, ← List.map_append, List.map_append, map_encStr]; rfl
  have h3 := own_as h1 (by rw [hR, hL, List.append_assoc])
  exact own_take h3 (by omega) (by rw [flatMap_len Nm.enc_len, dropAt_len hk])
end Go.Proofs.Ytpodkgfapbcmlaa
