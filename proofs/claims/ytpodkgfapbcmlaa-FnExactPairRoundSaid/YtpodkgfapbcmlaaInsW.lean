/- Contract: sort.insertionSort_func over a row of structs that the caller owns. -/
import Derived.Test.YtpodkgfapbcmlaaIns
import Derived.Shelf.GgSortFunc.SmallK
import Derived.Test.YtpodkgfapbcmlaaTMember
namespace Go.Proofs.Ytpodkgfapbcmlaa
open Go.ChangeShapes Go.WideShapes Go.ChangeAt Go.RowKit Go.Sort

set_option maxRecDepth 100000 in
set_option maxHeartbeats 4000000 in
theorem insertionSort_any {α : Type} (enc : α → List Value) (k : Nat) (hk : ∀ x, (enc x).length = k) (lt : α → α → Bool) (g : Nat) (lb : Array Value) (sf : Nat) (sb : Array Value) (base : Nat) (e : TypeId) (blk cap : Nat) (xs : List α) (w : World)
    (eg : ∀ args w, (callFunc g args).run Try.prog w = .ok (.enter g args) w) (hless : LessB Try.prog g lb enc k lt base e blk cap xs.length w) (hswap : SwapB Try.prog sf sb enc k base e blk cap xs.length)
    (ho : w.ownsRow base e k (.slice (some ⟨blk, 0, none⟩) xs.length cap) xs.length (xs.flatMap enc)) (h1 : 1 ≤ xs.length) (hn : xs.length < 4611686018427387904) :
    Calls Try.prog 142 #[.agg #[.func (.func g) #[] lb, .func (.func sf) #[] sb], .int .i64 0, .int .i64 xs.length] w fun en w' => en = .returned (.tuple #[]) ∧
      w'.ownsRow base e k (.slice (some ⟨blk, 0, none⟩) xs.length cap) xs.length ((insSort lt xs).flatMap enc) ∧ w.grownBy w' (some blk) := by
  have hbl := (ho.lt blk rfl).2
  have hx : Below w.heap.size w (w.alloc (.cells #[.func (.func g) #[] lb, .func (.func sf) #[] sb] 148)) := (Below.refl _ _).alloc (Nat.le_refl _) _
  have c0 := cell_new0 w #[.func (.func g) #[] lb, .func (.func sf) #[] sb] 148 (i := 0) (v := .func (.func g) #[] lb) rfl
  have c1 := cell_new0 w #[.func (.func g) #[] lb, .func (.func sf) #[] sb] 148 (i := 1) (v := .func (.func sf) #[] sb) rfl
  have HO := Lib.hid (own_below ho hx)
  have hg : w.grownBy (w.alloc (.cells #[.func (.func g) #[] lb, .func (.func sf) #[] sb] 148)) (some blk) := grown_of_below hx
  have HLESS := Lib.hid hless
  have HSWAP := Lib.hid hswap
  clear hless hswap ho hx
  go_enter Try.func142, Try.ntmps142
  go_wp2
  generalize w.alloc (.cells #[.func (.func g) #[] lb, .func (.func sf) #[] sb] 148) = w1 at *
  go_loopw [6] (fun vi wr => ∃ i : Nat, vi = .int .i64 i ∧ 1 ≤ i ∧ i ≤ xs.length ∧ Hid (wr.ownsRow base e k (.slice (some ⟨blk, 0, none⟩) xs.length cap) xs.length ((insSort lt (xs.take i) ++ xs.drop i).flatMap enc)) ∧
      wr.cell? ⟨w.heap.size, 0, none⟩ = some (.func (.func g) #[] lb) ∧ wr.cell? ⟨w.heap.size, 1, none⟩ = some (.func (.func sf) #[] sb) ∧ w.grownBy wr (some blk)) (fun vi _ => xs.length + 1 - (intOf vi).toNat)
  case atStart =>
    refine ⟨1, by go_num, Nat.le_refl _, h1, ?_, c0, c1, hg⟩
    cases xs with
    | nil => simp at h1
    | cons x xs => exact HO
  case round =>
    clear c0 c1 hg HO
    obtain ⟨i, rfl, hi1, hin, HO, c0, c1, hg⟩ := hrel
    by_cases hlt : i < xs.length
    · have hS : (insSort lt (xs.take i)).length = i := by rw [insSort_len, List.length_take]; omega
      have HSUCC := Lib.hid (insSort_succ (lt := lt) hlt)
      rw [List.drop_eq_getElem_cons hlt] at HO
      generalize insSort lt (xs.take i) = S at *
      go_wp2
      go_loopw [7] (fun vj wr2 => ∃ (j : Nat) (A B : List α), vj = .int .i64 j ∧ A.length = j ∧ j ≤ i ∧ (A ++ xs[i] :: (B ++ xs.drop (i + 1))).length = xs.length ∧ insR lt A xs[i] ++ B = insR lt S xs[i] ∧ Hid (wr2.ownsRow base e k (.slice (some ⟨blk, 0, none⟩) xs.length cap) xs.length ((A ++ xs[i] :: (B ++ xs.drop (i + 1))).flatMap enc)) ∧
          wr2.cell? ⟨w.heap.size, 0, none⟩ = some (.func (.func g) #[] lb) ∧ wr2.cell? ⟨w.heap.size, 1, none⟩ = some (.func (.func sf) #[] sb) ∧ w.grownBy wr2 (some blk)) (fun vj _ => (intOf vj).toNat)
      case atStart => exact ⟨i, S, [], rfl, hS, Nat.le_refl _, by simp; omega, by simp, HO, c0, c1, hg⟩
      case round =>
        clear c0 c1 hg HO
        obtain ⟨j, A, B, rfl, hAj, hji, hL, hI, HO, c0, c1, hg⟩ := hrel
        have HI := Lib.hid hI
        clear hI
        rcases List.eq_nil_or_concat A with rfl | ⟨A', y, rfl⟩
        · have hfin : ([] : List α) ++ xs[i] :: (B ++ xs.drop (i + 1)) = insR lt S xs[i] ++ xs.drop (i + 1) := by rw [← HI.out]; rfl
          rw [hfin] at HO
          obtain rfl : j = 0 := by simpa using hAj.symm
          clear hL hAj
          go_wp2
          go_roundw
          case rel => exact ⟨i + 1, by go_num, by omega, by omega, by rw [HSUCC.out]; exact HO, c0, c1, hg⟩
          case measure => simp [intOf]; omega
        · simp only [List.concat_eq_append] at hL HO HI hAj ⊢
          have hrow : (A' ++ [y]) ++ xs[i] :: (B ++ xs.drop (i + 1)) = A' ++ y :: xs[i] :: (B ++ xs.drop (i + 1)) := by simp
          rw [hrow] at hL HO
          have hj1 : A'.length + 1 = j := by simpa using hAj
          have hl := HLESS.out wr (A' ++ y :: xs[i] :: (B ++ xs.drop (i + 1))) (A'.length + 1) A'.length (by simp) (by simp) hL HO hg
          rw [show (A' ++ y :: xs[i] :: (B ++ xs.drop (i + 1)))[A'.length + 1]'(by simp) = xs[i] from by simp [List.getElem_append_right], show (A' ++ y :: xs[i] :: (B ++ xs.drop (i + 1)))[A'.length]'(by simp) = y from by simp [List.getElem_append_right],
            show ((A'.length + 1 : Nat) : Int) = (j : Int) from by omega, show ((A'.length : Nat) : Int) = (j : Int) - 1 from by omega] at hl
          have hj0 : (0 : Int) < (j : Int) := by omega
          have HL := Lib.hid hL
          clear hL hrow hAj
          cases hlv : lt xs[i] y with
          | true =>
            rw [hlv] at hl
            have HLV := Lib.hid hlv
            clear hlv
            go_wp2_with (go_at_fn g; refine hl.mono ?_; rintro e w' ⟨rfl, hd⟩; replace c0 := cell_kept c0 hd; replace c1 := cell_kept c1 hd; replace HO := Lib.hid (own_below HO.out hd); replace hg := grownBy_trans hg (grown_of_below hd))
            have hs := HSWAP.out w' A' (B ++ xs.drop (i + 1)) xs[i] y HL.out HO.out
            rw [show ((A'.length + 1 : Nat) : Int) = (j : Int) from by omega, show ((A'.length : Nat) : Int) = (j : Int) - 1 from by omega] at hs
            obtain ⟨ho2, hg2⟩ := own_swap hk HO.out
            have k0 := hg2.cell c0 (by simp [Value.ownBlock]; omega)
            have k1 := hg2.cell c1 (by simp [Value.ownBlock]; omega)
            rw [hs, Oper.upon_value]
            have HO2 := Lib.hid ho2
            clear ho2 hs
            generalize (w'.setCells blk ((A'.length + 1) * k) (enc y)).setCells blk (A'.length * k) (enc xs[i]) = w2 at *
            go_wp2
            go_roundw
            case rel => exact ⟨j - 1, A', y :: B, by first | go_num | (congr 1; omega) | congr 1, by omega, by omega, by have := HL.out; simp at this ⊢; omega, by rw [← HI.out, insR_go HLV.out]; simp, HO2, k0, k1, grownBy_trans hg hg2⟩
            case measure => simp [intOf]; omega
          | false =>
            rw [hlv] at hl
            have hfin : A' ++ y :: xs[i] :: (B ++ xs.drop (i + 1)) = insR lt S xs[i] ++ xs.drop (i + 1) := by rw [← HI.out, insR_stop hlv]; simp
            rw [hfin] at HO
            clear hlv
            go_wp2_with (go_at_fn g; refine hl.mono ?_; rintro e w' ⟨rfl, hd⟩; replace c0 := cell_kept c0 hd; replace c1 := cell_kept c1 hd; replace HO := Lib.hid (own_below HO.out hd); replace hg := grownBy_trans hg (grown_of_below hd))
            go_roundw
            case rel => exact ⟨i + 1, by go_num, by omega, by omega, by rw [HSUCC.out]; exact HO, c0, c1, hg⟩
            case measure => simp [intOf]; omega
    · obtain rfl : i = xs.length := by omega
      rw [List.take_length, List.drop_length, List.append_nil] at HO
      go_wp2
      go_end0
      exact ⟨rfl, HO.out, hg⟩
end Go.Proofs.Ytpodkgfapbcmlaa
