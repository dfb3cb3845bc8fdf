/- Contracts: whether two have played (program and reference). -/
import Derived.Test.YtpodkgfapbcmlaaPrP
namespace Go.Proofs.Ytpodkgfapbcmlaa
open Go.ChangeShapes Go.WideShapes Go.ChangeAt Go.RowKit Go.Sort

theorem played_take_succ {rs : List Res} {x y : ByteArray} {k : Nat} (h : k < rs.length) : played (rs.take (k + 1)) x y = (played (rs.take k) x y || playedB x y rs[k]) := by
  unfold played
  rw [List.take_succ_eq_append_getElem h, List.any_append]
  simp
theorem played_hit {rs : List Res} {x y : ByteArray} {k : Nat} (h : k < rs.length) (e : playedB x y rs[k] = true) : played rs x y = true := by
  unfold played
  rw [List.any_eq_true]
  exact ⟨rs[k], List.getElem_mem h, e⟩
theorem played_end {rs : List Res} {x y : ByteArray} {k : Nat} (h : ¬ k < rs.length) (e : played (rs.take k) x y = false) : played rs x y = false := by
  rwa [List.take_of_length_le (by omega)] at e
set_option maxHeartbeats 4000000 in
theorem l26Played_any (rs : List Res) (x y : ByteArray) (a : Option Addr) (cap : Nat) (w : World) (hm : SliceAt w 4 Res.enc a rs) (hl : rs.length ≤ 9223372036854775807) :
    Calls Try.prog 97 #[.slice a rs.length cap, .string x, .string y] w fun e w' => e = .returned (.bool (played rs x y)) ∧ w = w' := by
  have HM := Lib.hid hm; clear hm
  go_enter Try.func97, Try.ntmps97
  go_wp2
  go_loop [7] (fun i => ∃ k : Nat, k ≤ rs.length ∧ i = .int .i64 k ∧ Hid (played (rs.take k) x y = false)) (fun i => rs.length - (intOf i).toNat)
  case atStart => exact ⟨0, Nat.zero_le _, rfl, Lib.hid (by simp [played])⟩
  case round =>
    obtain ⟨k, hk, rfl, HF⟩ := hrel
    by_cases hlt : k < rs.length
    · obtain ⟨mb, mo, rfl, hc⟩ := HM.out.open hlt
      obtain ⟨c0, c1, c2, c3⟩ := resAt_of hc hlt
      clear hc c2 c3
      have HS := Lib.hid (played_take_succ (x := x) (y := y) hlt)
      cases h1 : (rs[k].a.toList == x.toList) <;> cases h2 : (rs[k].b.toList == y.toList) <;> cases h3 : (rs[k].a.toList == y.toList) <;> cases h4 : (rs[k].b.toList == x.toList)
      all_goals
        have HP : Hid (playedB x y rs[k] = _) := Lib.hid (by unfold playedB; rw [h1, h2, h3, h4])
        go_wp2
        first
          | (go_ret
             exact ⟨ret_bool (played_hit hlt HP.out).symm, rfl⟩)
          | (go_round
             case rel => exact ⟨k + 1, by omega, by go_num, Lib.hid (by rw [HS.out, HF.out, HP.out]; rfl)⟩
             case measure => simp [intOf]; omega)
    · go_wp2
      go_ret
      exact ⟨ret_bool (played_end hlt HF.out).symm, rfl⟩
set_option maxHeartbeats 4000000 in
theorem havePlayed1_any (r : Res) (x y : ByteArray) (b1 b2 : Nat) (w : World) (hx : w.cell? ⟨b1, 0, none⟩ = some (.string x)) (hy : w.cell? ⟨b2, 0, none⟩ = some (.string y)) :
    Calls Try.prog 99 #[.agg #[.string r.a, .string r.b, .int .i64 r.sa, .int .i64 r.sb], .pointer (some ⟨b1, 0, none⟩), .pointer (some ⟨b2, 0, none⟩)] w fun e w' => e = .returned (.bool (playedB x y r)) ∧ Below w.heap.size w w' := by
  have hb0 : Below w.heap.size w (w.alloc (.cells #[.string r.a, .string r.b, .int .i64 r.sa, .int .i64 r.sb] 39)) := (Below.refl _ _).alloc (Nat.le_refl _) _
  have hx2 := cell_kept hx hb0
  have hy2 := cell_kept hy hb0
  cases h1 : (r.a.toList == x.toList) <;> cases h2 : (r.b.toList == y.toList) <;> cases h3 : (r.a.toList == y.toList) <;> cases h4 : (r.b.toList == x.toList)
  all_goals
    have HP : Hid (playedB x y r = _) := Lib.hid (by unfold playedB; rw [h1, h2, h3, h4])
    go_enter Try.func99, Try.ntmps99
    go_wp2
    go_ret
    exact ⟨ret_bool (by rw [HP.out]; rfl), hb0⟩
/-- where the first result of the two stands -/
def plFrom (x y : ByteArray) : List Res → Nat → Int
  | [], _ => -1
  | r :: rs, k => if playedB x y r = false then plFrom x y rs (k + 1) else (k : Int)
theorem plFrom_hit {x y : ByteArray} {rs : List Res} {k : Nat} (h : k < rs.length) (e : playedB x y rs[k] = true) : plFrom x y (rs.drop k) k = k := by
  rw [List.drop_eq_getElem_cons h, plFrom, if_neg (by rw [e]; decide)]
theorem plFrom_miss {x y : ByteArray} {rs : List Res} {k : Nat} (h : k < rs.length) (e : playedB x y rs[k] = false) : plFrom x y (rs.drop (k + 1)) (k + 1) = plFrom x y (rs.drop k) k := by
  rw [List.drop_eq_getElem_cons h, plFrom, if_pos e]
theorem plFrom_end {x y : ByteArray} {rs : List Res} {k : Nat} (h : ¬ k < rs.length) : plFrom x y (rs.drop k) k = -1 := by
  rw [List.drop_eq_nil_of_le (by omega)]
  rfl
theorem plFrom_all (x y : ByteArray) (rs : List Res) (k : Nat) : (played rs x y = false ∧ plFrom x y rs k = -1) ∨ (played rs x y = true ∧ 0 ≤ plFrom x y rs k) := by
  induction rs generalizing k with
  | nil => exact .inl ⟨rfl, rfl⟩
  | cons r rs ih =>
    unfold plFrom played
    rw [List.any_cons]
    cases h : playedB x y r with
    | false =>
      rw [if_pos rfl, Bool.false_or]
      exact ih (k + 1)
    | true =>
      rw [if_neg (by decide), Bool.true_or]
      exact .inr ⟨rfl, by omega⟩
set_option maxHeartbeats 1000000 in
theorem indexPlayed_any (rs : List Res) (x y : ByteArray) (b1 b2 : Nat) (a : Option Addr) (cap : Nat) (w : World) (hx : w.cell? ⟨b1, 0, none⟩ = some (.string x)) (hy : w.cell? ⟨b2, 0, none⟩ = some (.string y)) (hm : SliceAt w 4 Res.enc a rs) (hl : rs.length ≤ 9223372036854775807) :
    Calls Try.prog 126 #[.slice a rs.length cap, .func (.func 99) #[] #[.pointer (some ⟨b1, 0, none⟩), .pointer (some ⟨b2, 0, none⟩)]] w fun e w' => e = .returned (.int .i64 (plFrom x y rs 0)) ∧ Below w.heap.size w w' := by
  have HM := Lib.hid hm; clear hm
  go_enter Try.func126, Try.ntmps126
  go_wp2
  go_loopw [8] (fun i wr => ∃ k : Nat, k ≤ rs.length ∧ i = .int .i64 k ∧ plFrom x y (rs.drop k) k = plFrom x y rs 0 ∧ Below w.heap.size w wr) (fun i _ => rs.length - (intOf i).toNat)
  case atStart => exact ⟨0, Nat.zero_le _, rfl, rfl, Below.refl _ _⟩
  case round =>
    obtain ⟨k, hk, rfl, hf, hb⟩ := hrel
    have HF := Lib.hid hf; clear hf
    have hx2 := cell_kept hx hb
    have hy2 := cell_kept hy hb
    by_cases hlt : k < rs.length
    · obtain ⟨mb, mo, rfl, hc⟩ := (HM.out.kept hb).open hlt
      obtain ⟨c0, c1, c2, c3⟩ := resAt_of hc hlt
      clear hc
      cases hv : playedB x y rs[k] with
      | true =>
        have HV := Lib.hid hv; clear hv
        go_wp2_with fail
        refine (havePlayed1_any rs[k] x y b1 b2 _ hx2 hy2).mono ?_
        rintro e w2 ⟨rfl, hb2⟩
        rw [HV.out]
        go_wp2
        go_ret
        exact ⟨ret_int (by rw [← HF.out, plFrom_hit hlt HV.out]), hb.trans (hb2.mono hb.size)⟩
      | false =>
        have HV := Lib.hid hv; clear hv
        go_wp2_with fail
        refine (havePlayed1_any rs[k] x y b1 b2 _ hx2 hy2).mono ?_
        rintro e w2 ⟨rfl, hb2⟩
        rw [HV.out]
        go_wp2
        go_roundw
        case rel => exact ⟨k + 1, by omega, by go_num, by rw [plFrom_miss hlt HV.out]; exact HF.out, hb.trans (hb2.mono hb.size)⟩
        case measure => simp [intOf]; omega
    · go_wp2
      go_ret
      exact ⟨ret_int (by rw [← HF.out, plFrom_end hlt]), hb⟩
set_option maxHeartbeats 400000 in
theorem containsPlayed_any (rs : List Res) (x y : ByteArray) (b1 b2 : Nat) (a : Option Addr) (cap : Nat) (w : World) (hx : w.cell? ⟨b1, 0, none⟩ = some (.string x)) (hy : w.cell? ⟨b2, 0, none⟩ = some (.string y)) (hm : SliceAt w 4 Res.enc a rs) (hl : rs.length ≤ 9223372036854775807) :
    Calls Try.prog 98 #[.slice a rs.length cap, .func (.func 99) #[] #[.pointer (some ⟨b1, 0, none⟩), .pointer (some ⟨b2, 0, none⟩)]] w fun e w' => e = .returned (.bool (played rs x y)) ∧ Below w.heap.size w w' := by
  go_enter Try.func98, Try.ntmps98
  go_wp2_with fail
  refine (indexPlayed_any rs x y b1 b2 a cap _ hx hy hm hl).mono ?_
  rintro e w2 ⟨rfl, hb2⟩
  rcases plFrom_all x y rs 0 with ⟨h1, h2⟩ | ⟨h1, h2⟩
  · have H1 := Lib.hid h1
    rw [h2]
    clear h1 h2
    go_wp2
    go_ret
    exact ⟨ret_bool (by rw [H1.out]), hb2⟩
  · have H1 := Lib.hid h1
    clear h1
    go_wp2
    go_ret
    exact ⟨ret_bool (by rw [H1.out]), hb2⟩
set_option maxHeartbeats 400000 in
theorem HavePlayed_any (rs : List Res) (x y : ByteArray) (a : Option Addr) (cap : Nat) (w : World) (hm : SliceAt w 4 Res.enc a rs) (hl : rs.length ≤ 9223372036854775807) :
    Calls Try.prog 51 #[.slice a rs.length cap, .string x, .string y] w fun e w' => e = .returned (.bool (played rs x y)) ∧ Below w.heap.size w w' := by
  have HM := Lib.hid hm; clear hm
  have hb : Below w.heap.size w ((w.alloc (.cells #[.string x] 9)).alloc (.cells #[.string y] 9)) := ((Below.refl _ _).alloc (Nat.le_refl _) _).alloc (by simp) _
  go_enter Try.func51, Try.ntmps51
  go_wp2_with fail
  refine (containsPlayed_any rs x y _ _ a cap _ (by simp) (by simp) (HM.out.kept hb) hl).mono ?_
  rintro e w2 ⟨rfl, hb2⟩
  go_wp2
  go_ret
  exact ⟨rfl, hb.trans (hb2.mono hb.size)⟩
end Go.Proofs.Ytpodkgfapbcmlaa
