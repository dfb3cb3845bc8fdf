/- Contract: the 'less' of the program's AddMember. · The plain law of AddMember: insertion sort of a sorted club and one member more lays the member ahead of the first greater name. -/
import Derived.Test.YtpodkgfapbcmlaaIns
import Derived.Test.YtpodkgfapbcmlaaRate
namespace Go.Proofs.Ytpodkgfapbcmlaa
open Go.ChangeShapes Go.WideShapes Go.ChangeAt Go.RowKit Go.Sort

def memLess (x y : Mem) : Bool := Op.bytesLess x.name.toList y.name.toList
set_option maxHeartbeats 2000000 in
theorem addLess_any (ys : List Mem) (i j Bs blk cap : Nat) (hi : i < ys.length) (hj : j < ys.length) (W : World) (hs : W.cell? ⟨Bs, 0, none⟩ = some (.slice (some ⟨blk, 0, none⟩) ys.length cap)) (hc : CellsAt W 2 Mem.enc blk 0 ys) :
    Calls Try.prog 76 #[.int .i64 i, .int .i64 j, .pointer (some ⟨Bs, 0, none⟩)] W fun e w' => e = .returned (.bool (memLess ys[i] ys[j])) ∧ Drew W w' := by
  have ci := hc.at0 hi rfl
  have cj := hc.at0 hj rfl
  rw [Nat.zero_add] at ci cj
  clear hc
  go_enter Try.func76, Try.ntmps76
  go_wp2
  go_quiet (fail)
  go_wp2
  go_ret
  exact ⟨rfl, ⟨nq, rfl⟩⟩
/-- .. and what insertion sort asks of it, the variable that it reads standing in a block ahead. -/
theorem addLessB (Bs blk cap n base : Nat) (w : World) (hs : w.cell? ⟨Bs, 0, none⟩ = some (.slice (some ⟨blk, 0, none⟩) n cap)) (hne : Bs ≠ blk) :
    LessB Try.prog 76 #[.pointer (some ⟨Bs, 0, none⟩)] Mem.enc 2 memLess base 56 blk cap n w := by
  intro W ys i j hi hj hn ho hg
  subst hn
  have h1 := hg.cell hs (fun e => hne (by simpa using e))
  refine (addLess_any ys i j Bs blk cap hi hj W h1 ?_).mono ?_
  · intro a ha b v hv
    rw [Nat.zero_add]
    exact own_cells Mem.enc_len ho rfl ha hv
  · rintro e w' ⟨he, hd⟩
    exact ⟨he, hd.below _⟩
end Go.Proofs.Ytpodkgfapbcmlaa

namespace Go.Proofs.Ytpodkgfapbcmlaa
open Go.ChangeShapes Go.WideShapes Go.ChangeAt Go.RowKit Go.Sort

def addMem : List Mem → Mem → List Mem
  | [], m => [m]
  | x :: xs, m => if (Op.bytesLess x.name.toList m.name.toList || x.name.toList == m.name.toList) = false then m :: x :: xs else x :: addMem xs m
abbrev Mem.lt (a b : Mem) : Prop := a.name.toList < b.name.toList
theorem memLess_eq (a b : Mem) : memLess a b = decide (Mem.lt a b) := bytesLess_eq _ _
theorem insR_split (m : Mem) (L : List Mem) (hL : ∀ y ∈ L, Mem.lt y m) : ∀ (n : Nat) (G : List Mem), G.length = n → (∀ y ∈ G, Mem.lt m y) → insR memLess (L ++ G) m = L ++ m :: G := by
  intro n
  induction n with
  | zero =>
    intro G hn _
    obtain rfl : G = [] := List.length_eq_zero_iff.1 hn
    rw [List.append_nil]
    rcases List.eq_nil_or_concat L with rfl | ⟨L', y, rfl⟩
    · rfl
    · simp only [List.concat_eq_append] at hL ⊢
      have h : memLess m y = false := by rw [memLess_eq, decide_eq_false_iff_not]; exact List.lt_asymm (hL y (by simp))
      rw [insR_stop h]; simp
  | succ n ih =>
    intro G0 hn hG
    rcases List.eq_nil_or_concat G0 with rfl | ⟨G, y, rfl⟩
    · simp at hn
    simp only [List.concat_eq_append] at hn hG ⊢
    rw [← List.append_assoc, insR_go (by rw [memLess_eq, decide_eq_true_eq]; exact hG y (by simp)), ih G (by simpa using hn) (fun z hz => hG z (by simp [hz]))]
    simp
theorem addMem_split (m : Mem) (G : List Mem) (hG : ∀ y ∈ G, Mem.lt m y) : ∀ L : List Mem, (∀ y ∈ L, Mem.lt y m) → addMem (L ++ G) m = L ++ m :: G := by
  intro L
  induction L with
  | nil =>
    intro _
    cases G with
    | nil => rfl
    | cons y G =>
      have h := hG y (by simp)
      have h1 : Op.bytesLess y.name.toList m.name.toList = false := by rw [bytesLess_eq, decide_eq_false_iff_not]; exact List.lt_asymm h
      have h2 : (y.name.toList == m.name.toList) = false := by
        rw [beq_eq_false_iff_ne]; intro e; unfold Mem.lt at h; rw [e] at h; exact List.lt_irrefl _ h
      simp [addMem, h1, h2]
  | cons x L ih =>
    intro hL
    have h1 : Op.bytesLess x.name.toList m.name.toList = true := by rw [bytesLess_eq, decide_eq_true_eq]; exact hL x (by simp)
    rw [List.cons_append, addMem, if_neg (by simp [h1]), ih (fun y hy => hL y (by simp [hy]))]
    rfl
theorem sorted_of {ms : List Mem} (h : clubOk ms = true) {i j : Nat} (hij : i < j) (hj : j < ms.length) : Mem.lt (ms[i]'(by omega)) ms[j] := by
  have adj : ∀ k (hk : k < ms.length) (h0 : 0 < k), Mem.lt (ms[k - 1]'(by omega)) ms[k] := by
    intro k hk h0
    simp only [clubOk, Bool.and_eq_true, List.all_eq_true, List.mem_range] at h
    have := h.2 k hk
    rw [okAt_succ hk h0, Bool.and_eq_true, bytesLess_eq, decide_eq_true_eq] at this
    exact this.2
  induction j with
  | zero => omega
  | succ j ih =>
    have h1 := adj (j + 1) hj (by omega)
    simp only [Nat.add_sub_cancel] at h1
    by_cases he : i = j
    · subst he; exact h1
    · exact List.lt_trans (ih (by omega) (by omega) adj) h1
theorem insSort_club {ms : List Mem} (h : clubOk ms = true) : insSort memLess ms = ms := by
  have : ∀ k, k ≤ ms.length → insSort memLess (ms.take k) = ms.take k := by
    intro k
    induction k with
    | zero => intro _; rfl
    | succ k ih =>
      intro hk
      have hl : k < ms.length := by omega
      rw [insSort_succ hl, ih (by omega)]
      have := insR_split ms[k] (ms.take k) (fun y hy => by
        obtain ⟨i, hi, rfl⟩ := List.getElem_of_mem hy
        rw [List.length_take] at hi
        rw [List.getElem_take]
        exact sorted_of h (by omega) hl) 0 [] rfl (fun _ hy => by cases hy)
      rw [List.append_nil] at this
      rw [this, List.take_succ_eq_append_getElem hl]
  have h2 := this ms.length (Nat.le_refl _)
  rwa [List.take_length] at h2
theorem club_split (m : Mem) : ∀ ms : List Mem, (∀ (i j : Nat) (hij : i < j) (hj : j < ms.length), Mem.lt (ms[i]'(by omega)) ms[j]) → (∀ y ∈ ms, ¬ y.name.toList = m.name.toList) →
    ∃ L G, ms = L ++ G ∧ (∀ y ∈ L, Mem.lt y m) ∧ (∀ y ∈ G, Mem.lt m y) := by
  intro ms
  induction ms with
  | nil => intro _ _; exact ⟨[], [], rfl, (fun _ h => by cases h), (fun _ h => by cases h)⟩
  | cons x xs ih =>
    intro hs hne
    by_cases hx : Mem.lt x m
    · obtain ⟨L, G, rfl, hL, hG⟩ := ih (fun i j hij hj => hs (i + 1) (j + 1) (by omega) (by simpa using hj)) (fun y hy => hne y (by simp [hy]))
      refine ⟨x :: L, G, rfl, fun y hy => ?_, hG⟩
      rcases List.mem_cons.1 hy with rfl | hy
      · exact hx
      · exact hL y hy
    · have hm : Mem.lt m x := Classical.byContradiction fun hn => hne x (by simp) (List.le_antisymm (List.not_lt.1 hn) (List.not_lt.1 hx))
      refine ⟨[], x :: xs, rfl, (fun _ h => by cases h), fun y hy => ?_⟩
      rcases List.mem_cons.1 hy with rfl | hy
      · exact hm
      · obtain ⟨i, hi, rfl⟩ := List.getElem_of_mem hy
        exact List.lt_trans hm (hs 0 (i + 1) (by omega) (by simpa using hi))
/-- What the program computes is what the reference computes. -/
theorem insSort_add {ms : List Mem} {m : Mem} (h : clubOk ms = true) (hne : ∀ y ∈ ms, ¬ y.name.toList = m.name.toList) : insSort memLess (ms ++ [m]) = addMem ms m := by
  have h1 : insSort memLess (ms ++ [m]) = insR memLess (insSort memLess ms) m := by unfold insSort; rw [List.foldl_append]; rfl
  rw [h1, insSort_club h]
  obtain ⟨L, G, rfl, hL, hG⟩ := club_split m ms (fun i j hij hj => sorted_of h hij hj) hne
  rw [insR_split m L hL _ G rfl hG, addMem_split m G hG L hL]
theorem findMem_none {nm : ByteArray} {ms : List Mem} (h : findMem nm ms < 0) : ∀ y ∈ ms, ¬ y.name.toList = nm.toList := by
  have : ∀ (ms : List Mem) (k : Nat), findFrom nm ms k < 0 → ∀ y ∈ ms, ¬ y.name.toList = nm.toList := by
    intro ms
    induction ms with
    | nil => intro _ _ _ hy; cases hy
    | cons x xs ih =>
      intro k hk y hy
      unfold findFrom at hk
      split at hk
      · omega
      · rename_i hx
        rcases List.mem_cons.1 hy with rfl | hy
        · simpa using hx
        · exact ih (k + 1) hk y hy
  exact this ms 0 h
end Go.Proofs.Ytpodkgfapbcmlaa
