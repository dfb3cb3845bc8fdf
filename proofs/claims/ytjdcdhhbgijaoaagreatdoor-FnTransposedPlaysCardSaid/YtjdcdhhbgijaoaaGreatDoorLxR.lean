/- Contracts: the reference's drawn piles, seldom not valid. Nothing is said of them but that they are short. -/
import Derived.Test.YtjdcdhhbgijaoaaGreatDoorDbE
import Derived.Test.YtjdcdhhbgijaoaaGreatDoorDbS
import Derived.Test.YtjdcdhhbgijaoaaGreatDoorLgA
namespace Go.Proofs.YtjdcdhhbgijaoaaGreatDoor
open Go.ChangeShapes Go.WideShapes Go.ChangeAt Go.RowKit Go.Sort

def pileTexts : List ByteArray := [⟨#[97]⟩, ⟨#[101]⟩, ⟨#[101]⟩, ⟨#[110]⟩, ⟨#[114]⟩, ⟨#[115]⟩, ⟨#[116]⟩, ⟨#[98]⟩, ⟨#[63]⟩]
def oddTexts : List ByteArray := [⟨#[97]⟩, ⟨#[63]⟩, ⟨#[65]⟩, ⟨#[49]⟩]
theorem pile_one : ∀ x ∈ pileTexts, x.size = 1 := by
  have : pileTexts.all (fun x => decide (x.size = 1)) = true := by rfl
  intro x hx
  exact of_decide_eq_true (List.all_eq_true.1 this x hx)
theorem odd_one : ∀ x ∈ oddTexts, x.size = 1 := by
  have : oddTexts.all (fun x => decide (x.size = 1)) = true := by rfl
  intro x hx
  exact of_decide_eq_true (List.all_eq_true.1 this x hx)
/-- a text of at most M bytes is drawn; the source goes on -/
def TextDrawn (M : Nat) (w : World) (N b k : Nat) (e : Ending) (w' : World) : Prop := ∃ s : ByteArray, s.size ≤ M ∧ e = .returned (.string s) ∧ SrcAt w' N b k ∧ w.grownBy w' (some b)
set_option maxRecDepth 100000 in
set_option maxHeartbeats 4000000 in
theorem l03Draw_any (N b k : Nat) (w : World) (hs : SrcAt w N b k) (hk : k < 268435456) :
    Calls Tryz.prog 233 #[.pointer (some ⟨b, 0, none⟩), .int .i64 7] w (TextDrawn 7 w N b (k + 20)) := by
  have hbN := hs.lt
  have HS := Lib.hid hs
  have G := Lib.hid (grown_of_below (row := some b) (Below.refl w.heap.size w))
  clear hs
  go_enter Tryz.func233, Tryz.ntmps233
  go_wp2_with fail
  refine (pick_any 8 N b _ _ HS.out (by omega)).mono ?_
  rintro e w4 ⟨x, ⟨x0, x1, _, _⟩, rfl, s4, g4⟩
  have x2 := x1 (by decide)
  obtain ⟨q, rfl⟩ : ∃ q : Nat, x = q := ⟨x.toNat, by omega⟩
  replace HS := Lib.hid s4
  replace G := Lib.hid (grownBy_trans G.out g4)
  clear g4 s4
  clear x0 x1
  go_wp2_with fail
  go_loopw [5, 6] (fun ov kv wr => ∃ (q : Nat) (s : ByteArray), q ≤ 7 ∧ kv = .int .i64 q ∧ ov = .string s ∧ s.size + q ≤ 7 ∧ Hid (SrcAt wr N b (k + 2 + 2 * (7 - q))) ∧ Hid (w.grownBy wr (some b))) (fun _ kv _ => (intOf kv).toNat)
  case atStart => exact ⟨q, ⟨#[]⟩, by omega, rfl, rfl, (show 0 + q ≤ 7 by omega), Lib.hid (HS.out.mono (Nat.le_refl _) (by omega)), G⟩
  case round =>
    clear HS G x2
    obtain ⟨q, s, hq, rfl, rfl, hsq, HS, G⟩ := hrel
    by_cases hq0 : 0 < q
    · have hq0I : (0 : Int) < (q : Int) := by omega
      obtain ⟨q', rfl⟩ : ∃ q', q = q' + 1 := ⟨q - 1, by omega⟩
      have wq : IntKind.i64.wrap (((q' + 1 : Nat) : Int) - 1) = (q' : Int) := by rw [show ((q' + 1 : Nat) : Int) - 1 = q' by omega]; exact IntWalk.i64_in _ (by omega)
      have hlt := HS.out.size
      have hx : Below wr.heap.size wr (wr.alloc (.cells (pileTexts.flatMap Str.enc).toArray 9)) := (Below.refl _ _).alloc (Nat.le_refl _) _
      have HC := Lib.hid (cells_new (enc := Str.enc) (sz := 1) (fun _ => rfl) wr pileTexts 9)
      replace HS := Lib.hid (HS.out.kept hx)
      replace G := Lib.hid (grown_below G.out hx)
      clear hx
      go_wp2_with fail
      refine (text_any pileTexts wr.heap.size 9 N b _ _ HS.out (by omega) HC.out (by decide) (by decide) (by omega)).mono ?_
      rintro e w5 ⟨t, hx, rfl, s5, g5⟩
      replace HS := Lib.hid s5
      replace G := Lib.hid (grownBy_trans G.out g5)
      clear g5 s5
      have ht := pile_one t hx
      have hsz : s.size + t.size ≤ 9223372036854775807 := by omega
      have hst : (s ++ t).size + q' ≤ 7 := by rw [ByteArray.size_append]; omega
      have HS2 := Lib.hid (HS.out.mono (Nat.le_refl _) (show k + 2 + 2 * (7 - (q' + 1)) + 2 ≤ k + 2 + 2 * (7 - q') by omega))
      clear HC hx HS hlt
      go_wp2
      go_roundw
      case rel => exact ⟨q', s ++ t, by omega, rfl, rfl, hst, HS2, G⟩
      case measure => simp [intOf]
    · have hq0I : ¬ (0 : Int) < (q : Int) := by omega
      go_wp2_with fail
      refine (l03Sort_any s _ (by omega)).mono ?_
      rintro e w6 ⟨R, rfl, _, hp, hd⟩
      have hR : (mkB R).size ≤ 7 := by
        rw [mkB_size, hp.length_eq]
        have : s.data.toList.length = s.size := by simp
        omega
      replace HS := Lib.hid (HS.out.kept hd)
      replace G := Lib.hid (grown_below G.out hd)
      clear hd
      clear hp
      go_wp2
      go_ret
      exact ⟨mkB R, hR, rfl, HS.out.mono (Nat.le_refl _) (by omega), G.out⟩
set_option maxRecDepth 100000 in
set_option maxHeartbeats 4000000 in
theorem l03Bent_any (N b k : Nat) (w : World) (hs : SrcAt w N b k) (hk : k < 134217728) :
    Calls Tryz.prog 158 #[.pointer (some ⟨b, 0, none⟩), .int .i64 7] w (TextDrawn 200 w N b (k + 40)) := by
  have hbN := hs.lt
  have HS := Lib.hid hs
  have HRP : Hid (∀ (n : Nat) (W : World), n ≤ 1000 → Calls Tryz.prog 101 #[.int .u8 101, .int .i64 (n : Int)] W fun e w' => e = .returned (.string (mkB (List.replicate n 101))) ∧ Below W.heap.size W w') := Lib.hid (fun (n : Nat) (W : World) (h : n ≤ 1000) => l02Repeat_any 101 n W (Nat.le_trans h (by decide)))
  clear hs
  go_enter Tryz.func158, Tryz.ntmps158
  go_wp2_with fail
  refine (l03Draw_any N b k w HS.out (by omega)).mono ?_
  rintro e w2 ⟨s, hsz, rfl, s2, g2⟩
  replace HS := Lib.hid s2
  have G := Lib.hid g2
  clear s2 g2
  go_wp2_with fail
  refine (pick_any 20 N b _ _ HS.out (by omega)).mono ?_
  rintro e w4 ⟨x, ⟨x0, x1, _, _⟩, rfl, s4, g4⟩
  replace HS := Lib.hid s4
  replace G := Lib.hid (grownBy_trans G.out g4)
  clear g4 s4
  clear x0 x1
  by_cases h0 : x = 0
  · subst h0
    have hlt := HS.out.size
    have hx : Below w4.heap.size w4 (w4.alloc (.cells (oddTexts.flatMap Str.enc).toArray 9)) := (Below.refl _ _).alloc (Nat.le_refl _) _
    have HC := Lib.hid (cells_new (enc := Str.enc) (sz := 1) (fun _ => rfl) w4 oddTexts 9)
    replace HS := Lib.hid (HS.out.kept hx)
    replace G := Lib.hid (grown_below G.out hx)
    clear hx
    go_wp2_with fail
    refine (text_any oddTexts w4.heap.size 4 N b _ _ HS.out (by omega) HC.out (by decide) (by decide) (by omega)).mono ?_
    rintro e w5 ⟨t, hx, rfl, s5, g5⟩
    replace HS := Lib.hid s5
    replace G := Lib.hid (grownBy_trans G.out g5)
    clear g5 s5
    have ht := odd_one t hx
    have hsz2 : s.size + t.size ≤ 9223372036854775807 := by omega
    have hst : (s ++ t).size ≤ 200 := by rw [ByteArray.size_append]; omega
    clear HC hx hlt
    go_wp2
    go_ret
    exact ⟨s ++ t, hst, rfl, HS.out.mono (Nat.le_refl _) (by omega), G.out⟩
  · by_cases h1 : x = 1
    · subst h1
      go_wp2_with fail
      refine (pick_any 2 N b _ _ HS.out (by omega)).mono ?_
      rintro e w5 ⟨y, ⟨y0, y1, _, _⟩, rfl, s5, g5⟩
      have y2 := y1 (by decide)
      replace HS := Lib.hid s5
      replace G := Lib.hid (grownBy_trans G.out g5)
      clear g5 s5
      clear y1
      obtain ⟨n, hn⟩ : ∃ n : Nat, 120 + y = n := ⟨(120 + y).toNat, by omega⟩
      have wn : IntKind.i64.wrap (120 + y) = (n : Int) := by rw [hn]; exact IntWalk.i64_in _ (by omega)
      go_wp2_with fail
      refine (HRP.out n _ (by omega)).mono ?_
      rintro e w6 ⟨rfl, hd⟩
      replace HS := Lib.hid (HS.out.kept hd)
      replace G := Lib.hid (grown_below G.out hd)
      clear hd
      have hst : (mkB (List.replicate n (101 : UInt8))).size ≤ 200 := by rw [mkB_size, List.length_replicate]; omega
      clear HRP wn
      go_wp2
      go_ret
      exact ⟨_, hst, rfl, HS.out.mono (Nat.le_refl _) (by omega), G.out⟩
    · have e0 : (x == 0) = false := by simpa using h0
      have e1 : (x == 1) = false := by simpa using h1
      clear HRP
      go_wp2
      go_ret
      exact ⟨s, by omega, rfl, HS.out.mono (Nat.le_refl _) (by omega), G.out⟩
end Go.Proofs.YtjdcdhhbgijaoaaGreatDoor
