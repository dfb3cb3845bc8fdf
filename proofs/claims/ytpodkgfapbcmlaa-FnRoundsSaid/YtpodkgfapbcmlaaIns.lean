/- The library's insertion sort over a row of structs that the caller owns, with a 'less' that may lay new blocks. The plain law beside it: insertion from the right. · Contract: sort.insertionSort_func over a row of structs that the caller owns. · Contract: sort.stable_func over fewer than 20 elements. · What insertion sort asks of 'swap' is paid by the library's swapper. -/
import Derived.Test.YtpodkgfapbcmlaaRow
import Derived.Shelf.GgSortFunc.SmallK
import Derived.Test.YtpodkgfapbcmlaaTMember
namespace Go.Proofs.Ytpodkgfapbcmlaa
open Go.ChangeShapes Go.WideShapes Go.ChangeAt Go.RowKit Go.Sort

section
variable {α : Type} {lt : α → α → Bool}
def insRev (lt : α → α → Bool) (x : α) : List α → List α
  | [] => [x]
  | y :: ys => if lt x y = true then y :: insRev lt x ys else x :: y :: ys
/-- x is laid into S, from the right, ahead of all that it is less than -/
def insR (lt : α → α → Bool) (S : List α) (x : α) : List α := (insRev lt x S.reverse).reverse
def insSort (lt : α → α → Bool) (xs : List α) : List α := xs.foldl (insR lt) []
theorem insR_nil (x : α) : insR lt [] x = [x] := rfl
theorem insR_go {A : List α} {x y : α} (h : lt x y = true) : insR lt (A ++ [y]) x = insR lt A x ++ [y] := by simp [insR, insRev, h]
theorem insR_stop {A : List α} {x y : α} (h : lt x y = false) : insR lt (A ++ [y]) x = A ++ [y, x] := by simp [insR, insRev, h]
theorem insRev_len (x : α) (S : List α) : (insRev lt x S).length = S.length + 1 := by
  induction S with
  | nil => rfl
  | cons y ys ih => unfold insRev; split <;> simp [ih]
theorem insR_len (x : α) (S : List α) : (insR lt S x).length = S.length + 1 := by simp [insR, insRev_len]
theorem insSort_succ {xs : List α} {i : Nat} (h : i < xs.length) : insSort lt (xs.take (i + 1)) = insR lt (insSort lt (xs.take i)) xs[i] := by
  unfold insSort
  rw [List.take_succ_eq_append_getElem h, List.foldl_append]
  rfl
theorem insSort_len (xs : List α) : (insSort lt xs).length = xs.length := by
  have : ∀ (xs S : List α), (xs.foldl (insR lt) S).length = S.length + xs.length := by
    intro xs
    induction xs with
    | nil => intro S; simp
    | cons x xs ih => intro S; rw [List.foldl_cons, ih, insR_len]; simp; omega
  simpa [insSort] using this xs []
/-- What is asked of 'less': in every world in which the row lies, and nothing else of old was written. -/
def LessB (P : Program) (g : Nat) (lb : Array Value) (enc : α → List Value) (k : Nat) (lt : α → α → Bool) (base : Nat) (e : TypeId) (blk cap n : Nat) (w0 : World) : Prop :=
  ∀ (W : World) (ys : List α) (i j : Nat) (hi : i < ys.length) (hj : j < ys.length), ys.length = n → W.ownsRow base e k (.slice (some ⟨blk, 0, none⟩) n cap) n (ys.flatMap enc) → w0.grownBy W (some blk) →
    Calls P g (#[.int .i64 i, .int .i64 j] ++ lb) W fun en W' => en = .returned (.bool (lt ys[i] ys[j])) ∧ Below W.heap.size W W'
/-- What is asked of 'swap', at neighbours. -/
def SwapB (P : Program) (sf : Nat) (sb : Array Value) (enc : α → List Value) (k : Nat) (base : Nat) (e : TypeId) (blk cap n : Nat) : Prop :=
  ∀ (W : World) (A B : List α) (x y : α), (A ++ y :: x :: B).length = n → W.ownsRow base e k (.slice (some ⟨blk, 0, none⟩) n cap) n ((A ++ y :: x :: B).flatMap enc) →
    (callFunc sf (#[.int .i64 (A.length + 1 : Nat), .int .i64 A.length] ++ sb)).run P W = .ok (.value (.tuple #[])) ((W.setCells blk ((A.length + 1) * k) (enc y)).setCells blk (A.length * k) (enc x))
theorem storesAt_cells (_w : World) (g : Nat) : ∀ (vs : List Value) (p : Nat) (w : World), w.setCells g p vs = storesAt w g p vs
  | [], _, _ => rfl
  | v :: vs, p, w => by rw [World.setCells, storesAt, storesAt_cells w g vs (p + 1)]
/-- Neighbours change places. -/
theorem own_swap {enc : α → List Value} {base : Nat} {e : TypeId} {k blk n cap : Nat} (hk : ∀ x, (enc x).length = k) {A B : List α} {x y : α} {W : World}
    (h : W.ownsRow base e k (.slice (some ⟨blk, 0, none⟩) n cap) n ((A ++ y :: x :: B).flatMap enc)) :
    ((W.setCells blk ((A.length + 1) * k) (enc y)).setCells blk (A.length * k) (enc x)).ownsRow base e k (.slice (some ⟨blk, 0, none⟩) n cap) n ((A ++ x :: y :: B).flatMap enc) ∧
      W.grownBy ((W.setCells blk ((A.length + 1) * k) (enc y)).setCells blk (A.length * k) (enc x)) (some blk) := by
  rw [storesAt_cells W, storesAt_cells W]
  obtain ⟨h1, h2⟩ := own_stores (enc y) ((A.length + 1) * k) h
  obtain ⟨h3, h4⟩ := own_stores (enc x) (A.length * k) h1
  refine ⟨own_as h3 ?_, grownBy_trans h2 h4⟩
  have e1 : (A ++ y :: x :: B).flatMap enc = (A.flatMap enc ++ enc y) ++ (enc x ++ B.flatMap enc) := by simp
  have e2 : (A.flatMap enc ++ enc y).length = (A.length + 1) * k := by rw [List.length_append, flatMap_len hk, hk, Nat.succ_mul]
  rw [e1, setR_append _ _ _ _ e2 (by simp [hk]), hk y, ← hk x, List.drop_left, List.append_assoc, setR_append _ _ _ _ (by rw [flatMap_len hk, hk]) (by simp [hk]), hk x, ← hk y, List.drop_left]
  simp
end
end Go.Proofs.Ytpodkgfapbcmlaa

namespace Go.Proofs.Ytpodkgfapbcmlaa
open Go.ChangeShapes Go.WideShapes Go.ChangeAt Go.RowKit Go.Sort

set_option maxRecDepth 100000 in
set_option maxHeartbeats 4000000 in
theorem insertionSort_any {α : Type} (enc : α → List Value) (k : Nat) (hk : ∀ x, (enc x).length = k) (lt : α → α → Bool) (g : Nat) (lb : Array Value) (sf : Nat) (sb : Array Value) (base : Nat) (e : TypeId) (blk cap : Nat) (xs : List α) (w : World)
    (eg : ∀ args w, (callFunc g args).run Try.prog w = .ok (.enter g args) w) (hless : LessB Try.prog g lb enc k lt base e blk cap xs.length w) (hswap : SwapB Try.prog sf sb enc k base e blk cap xs.length)
    (ho : w.ownsRow base e k (.slice (some ⟨blk, 0, none⟩) xs.length cap) xs.length (xs.flatMap enc)) (h1 : 1 ≤ xs.length) (hn : xs.length < 4611686018427387904) :
    Calls Try.prog 142 #[.agg #[.func (.func g) #[] lb, .func (.func sf) #[] sb], .int .i64 0, .int .i64 xs.length] w fun en w' => en = .returned (.tuple #[]) ∧
      w'.ownsRow base e k (.slice (some ⟨blk, 0, none⟩) xs.length cap) xs.length ((insSort lt xs).flatMap enc) ∧ w.grownBy w' (some blk) := by
  have hbl := (ho.lt blk rfl).2
  have hx : Below w.heap.size w (w.alloc (.cells #[.func (.func g) #[] lb, .func (.func sf) #[] sb] 148)) := (Below.refl _ _).alloc (Nat.le_refl _) _
  have c0 := cell_new0 w #[.func (.func g) #[] lb, .func (.func sf) #[] sb] 148 (i := 0) (v := .func (.func g) #[] lb) rfl
  have c1 := cell_new0 w #[.func (.func g) #[] lb, .func (.func sf) #[] sb] 148 (i := 1) (v := .func (.func sf) #[] sb) rfl
  have HO := Lib.hid (own_below ho hx)
  have hg : w.grownBy (w.alloc (.cells #[.func (.func g) #[] lb, .func (.func sf) #[] sb] 148)) (some blk) := grown_of_below hx
  have HLESS := Lib.hid hless
  have HSWAP := Lib.hid hswap
  clear hless hswap ho hx
  go_enter Try.func142, Try.ntmps142
  go_wp2
  generalize w.alloc (.cells #[.func (.func g) #[] lb, .func (.func sf) #[] sb] 148) = w1 at *
  go_loopw [6] (fun vi wr => ∃ i : Nat, vi = .int .i64 i ∧ 1 ≤ i ∧ i ≤ xs.length ∧ Hid (wr.ownsRow base e k (.slice (some ⟨blk, 0, none⟩) xs.length cap) xs.length ((insSort lt (xs.take i) ++ xs.drop i).flatMap enc)) ∧
      wr.cell? ⟨w.heap.size, 0, none⟩ = some (.func (.func g) #[] lb) ∧ wr.cell? ⟨w.heap.size, 1, none⟩ = some (.func (.func sf) #[] sb) ∧ w.grownBy wr (some blk)) (fun vi _ => xs.length + 1 - (intOf vi).toNat)
  case atStart =>
    refine ⟨1, by go_num, Nat.le_refl _, h1, ?_, c0, c1, hg⟩
    cases xs with
    | nil => simp at h1
    | cons x xs => exact HO
  case round =>
    clear c0 c1 hg HO
    obtain ⟨i, rfl, hi1, hin, HO, c0, c1, hg⟩ := hrel
    by_cases hlt : i < xs.length
    · have hS : (insSort lt (xs.take i)).length = i := by rw [insSort_len, List.length_take]; omega
      have HSUCC := Lib.hid (insSort_succ (lt := lt) hlt)
      rw [List.drop_eq_getElem_cons hlt] at HO
      generalize insSort lt (xs.take i) = S at *
      go_wp2
      go_loopw [7] (fun vj wr2 => ∃ (j : Nat) (A B : List α), vj = .int .i64 j ∧ A.length = j ∧ j ≤ i ∧ (A ++ xs[i] :: (B ++ xs.drop (i + 1))).length = xs.length ∧ insR lt A xs[i] ++ B = insR lt S xs[i] ∧ Hid (wr2.ownsRow base e k (.slice (some ⟨blk, 0, none⟩) xs.length cap) xs.length ((A ++ xs[i] :: (B ++ xs.drop (i + 1))).flatMap enc)) ∧
          wr2.cell? ⟨w.heap.size, 0, none⟩ = some (.func (.func g) #[] lb) ∧ wr2.cell? ⟨w.heap.size, 1, none⟩ = some (.func (.func sf) #[] sb) ∧ w.grownBy wr2 (some blk)) (fun vj _ => (intOf vj).toNat)
      case atStart => exact ⟨i, S, [], rfl, hS, Nat.le_refl _, by simp; omega, by simp, HO, c0, c1, hg⟩
      case round =>
        clear c0 c1 hg HO
        obtain ⟨j, A, B, rfl, hAj, hji, hL, hI, HO, c0, c1, hg⟩ := hrel
        have HI := Lib.hid hI
        clear hI
        rcases List.eq_nil_or_concat A with rfl | ⟨A', y, rfl⟩
        · have hfin : ([] : List α) ++ xs[i] :: (B ++ xs.drop (i + 1)) = insR lt S xs[i] ++ xs.drop (i + 1) := by rw [← HI.out]; rfl
          rw [hfin] at HO
          obtain rfl : j = 0 := by simpa using hAj.symm
          clear hL hAj
          go_wp2
          go_roundw
          case rel => exact ⟨i + 1, by go_num, by omega, by omega, by rw [HSUCC.out]; exact HO, c0, c1, hg⟩
          case measure => simp [intOf]; omega
        · simp only [List.concat_eq_append] at hL HO HI hAj ⊢
          have hrow : (A' ++ [y]) ++ xs[i] :: (B ++ xs.drop (i + 1)) = A' ++ y :: xs[i] :: (B ++ xs.drop (i + 1)) := by simp
          rw [hrow] at hL HO
          have hj1 : A'.length + 1 = j := by simpa using hAj
          have hl := HLESS.out wr (A' ++ y :: xs[i] :: (B ++ xs.drop (i + 1))) (A'.length + 1) A'.length (by simp) (by simp) hL HO hg
          rw [show (A' ++ y :: xs[i] :: (B ++ xs.drop (i + 1)))[A'.length + 1]'(by simp) = xs[i] from by simp [List.getElem_append_right], show (A' ++ y :: xs[i] :: (B ++ xs.drop (i + 1)))[A'.length]'(by simp) = y from by simp [List.getElem_append_right],
            show ((A'.length + 1 : Nat) : Int) = (j : Int) from by omega, show ((A'.length : Nat) : Int) = (j : Int) - 1 from by omega] at hl
          have hj0 : (0 : Int) < (j : Int) := by omega
          have HL := Lib.hid hL
          clear hL hrow hAj
          cases hlv : lt xs[i] y with
          | true =>
            rw [hlv] at hl
            have HLV := Lib.hid hlv
            clear hlv
            go_wp2_with (go_at_fn g; refine hl.mono ?_; rintro e w' ⟨rfl, hd⟩; replace c0 := cell_kept c0 hd; replace c1 := cell_kept c1 hd; replace HO := Lib.hid (own_below HO.out hd); replace hg := grownBy_trans hg (grown_of_below hd))
            have hs := HSWAP.out w' A' (B ++ xs.drop (i + 1)) xs[i] y HL.out HO.out
            rw [show ((A'.length + 1 : Nat) : Int) = (j : Int) from by omega, show ((A'.length : Nat) : Int) = (j : Int) - 1 from by omega] at hs
            obtain ⟨ho2, hg2⟩ := own_swap hk HO.out
            have k0 := hg2.cell c0 (by simp; omega)
            have k1 := hg2.cell c1 (by simp; omega)
            rw [hs, Oper.upon_value]
            have HO2 := Lib.hid ho2
            clear ho2 hs
            generalize (w'.setCells blk ((A'.length + 1) * k) (enc y)).setCells blk (A'.length * k) (enc xs[i]) = w2 at *
            go_wp2
            go_roundw
            case rel => exact ⟨j - 1, A', y :: B, by first | go_num | (congr 1; omega) | congr 1, by omega, by omega, by have := HL.out; simp at this ⊢; omega, by rw [← HI.out, insR_go HLV.out]; simp, HO2, k0, k1, grownBy_trans hg hg2⟩
            case measure => simp [intOf]; omega
          | false =>
            rw [hlv] at hl
            have hfin : A' ++ y :: xs[i] :: (B ++ xs.drop (i + 1)) = insR lt S xs[i] ++ xs.drop (i + 1) := by rw [← HI.out, insR_stop hlv]; simp
            rw [hfin] at HO
            clear hlv
            go_wp2_with (go_at_fn g; refine hl.mono ?_; rintro e w' ⟨rfl, hd⟩; replace c0 := cell_kept c0 hd; replace c1 := cell_kept c1 hd; replace HO := Lib.hid (own_below HO.out hd); replace hg := grownBy_trans hg (grown_of_below hd))
            go_roundw
            case rel => exact ⟨i + 1, by go_num, by omega, by omega, by rw [HSUCC.out]; exact HO, c0, c1, hg⟩
            case measure => simp [intOf]; omega
    · obtain rfl : i = xs.length := by omega
      rw [List.take_length, List.drop_length, List.append_nil] at HO
      go_wp2
      go_end0
      exact ⟨rfl, HO.out, hg⟩
end Go.Proofs.Ytpodkgfapbcmlaa

namespace Go.Proofs.Ytpodkgfapbcmlaa
open Go.ChangeShapes Go.WideShapes Go.ChangeAt Go.RowKit Go.Sort

theorem LessB.grown {α : Type} {P : Program} {g : Nat} {lb : Array Value} {enc : α → List Value} {k : Nat} {lt : α → α → Bool} {base : Nat} {e : TypeId} {blk cap n : Nat} {w w1 : World}
    (h : LessB P g lb enc k lt base e blk cap n w) (hg : w.grownBy w1 (some blk)) : LessB P g lb enc k lt base e blk cap n w1 :=
  fun W ys i j hi hj hn ho hw => h W ys i j hi hj hn ho (grownBy_trans hg hw)

set_option maxRecDepth 100000 in
set_option maxHeartbeats 4000000 in
theorem stable_any {α : Type} (enc : α → List Value) (k : Nat) (hk : ∀ x, (enc x).length = k) (lt : α → α → Bool) (g : Nat) (lb : Array Value) (sf : Nat) (sb : Array Value) (base : Nat) (e : TypeId) (blk cap : Nat) (xs : List α) (w : World)
    (eg : ∀ args w, (callFunc g args).run Try.prog w = .ok (.enter g args) w) (hless : LessB Try.prog g lb enc k lt base e blk cap xs.length w) (hswap : SwapB Try.prog sf sb enc k base e blk cap xs.length)
    (ho : w.ownsRow base e k (.slice (some ⟨blk, 0, none⟩) xs.length cap) xs.length (xs.flatMap enc)) (h1 : 1 ≤ xs.length) (hn : xs.length < 20) :
    Calls Try.prog 114 #[.agg #[.func (.func g) #[] lb, .func (.func sf) #[] sb], .int .i64 xs.length] w fun en w' => en = .returned (.tuple #[]) ∧
      w'.ownsRow base e k (.slice (some ⟨blk, 0, none⟩) xs.length cap) xs.length ((insSort lt xs).flatMap enc) ∧ w.grownBy w' (some blk) := by
  have hx : Below w.heap.size w (w.alloc (.cells #[.func (.func g) #[] lb, .func (.func sf) #[] sb] 148)) := (Below.refl _ _).alloc (Nat.le_refl _) _
  have hg : w.grownBy (w.alloc (.cells #[.func (.func g) #[] lb, .func (.func sf) #[] sb] 148)) (some blk) := grown_of_below hx
  have hc := Lib.hid (insertionSort_any enc k hk lt g lb sf sb base e blk cap xs _ eg (hless.grown hg) hswap (own_below ho hx) h1 (by omega))
  clear hless hswap ho eg
  go_enter Try.func114, Try.ntmps114
  go_wp2
  refine wp_loop_rounds 1 ?_
  rw [rounds_succ]
  go_wp2_with fail
  refine hc.out.mono ?_
  rintro en w2 ⟨rfl, ho2, hg2⟩
  have HO := Lib.hid ho2
  clear ho2
  go_wp2
  refine wp_loop_rounds 1 ?_
  rw [rounds_succ]
  go_wp2
  all_goals first | (exfalso; omega) | (go_end0; exact ⟨rfl, HO.out, grownBy_trans hg hg2⟩)
end Go.Proofs.Ytpodkgfapbcmlaa

namespace Go.Proofs.Ytpodkgfapbcmlaa
open Go.ChangeShapes Go.WideShapes Go.ChangeAt Go.RowKit Go.Sort Go.Lib

theorem swapB_of {α : Type} {P : Program} (gS : Bool) (sf : Nat) (hx : ∀ args W, (callFunc sf args).run P W = ((Extern.ReflectliteSwapper.swap gS args).run P W).andThen fun v w' => .ok (.value v) w')
    (e : TypeId) (ie : TypeInfo) (hie : P.info? e = some ie) (enc : α → List Value) (k : Nat) (hk : ∀ x, (enc x).length = k) (hs : ie.size = k) (hagg : ∀ w, (isAgg e).run P w = .ok true w) (h1 : ∀ x, ∀ v ∈ enc x, v.oneCell' = true) (base blk cap n : Nat) :
    SwapB P sf #[.slice (some ⟨blk, 0, none⟩) n cap, typeHandle P e] enc k base e blk cap n := by
  intro W A B x y hn ho
  subst hs
  have hla : A.length < (A ++ y :: x :: B).length := by simp
  have hlb : A.length + 1 < (A ++ y :: x :: B).length := by simp
  have ex : (A ++ y :: x :: B)[A.length + 1] = x := by simp [List.getElem_append_right]
  have ey : (A ++ y :: x :: B)[A.length] = y := by simp [List.getElem_append_right]
  have := run_swap_cells (P := P) gS e ie hie hagg blk 0 n cap (A.length + 1) A.length (by omega) (by omega) (enc x) (enc y) (hk _) (hk _) (h1 _) (h1 _) W
    (fun u v hv => by
      have := own_cells hk ho hn.symm hlb (j := u) (v := v) (by rw [ex]; exact hv)
      simpa using this)
    (fun u v hv => by
      have := own_cells hk ho hn.symm hla (j := u) (v := v) (by rw [ey]; exact hv)
      simpa using this)
    (fun u hu => by rw [Nat.zero_add]; exact ho.frozenAt _) (fun u hu => by rw [Nat.zero_add]; exact ho.frozenAt _)
  rw [Nat.zero_add, Nat.zero_add] at this
  rw [hx, show (#[Value.int .i64 (A.length + 1 : Nat), Value.int .i64 (A.length : Nat)] ++ #[Value.slice (some ⟨blk, 0, none⟩) n cap, typeHandle P e]) = #[.int .i64 (A.length + 1 : Nat), .int .i64 A.length, .slice (some ⟨blk, 0, none⟩) n cap, typeHandle P e] from rfl, this]
  rfl
end Go.Proofs.Ytpodkgfapbcmlaa
