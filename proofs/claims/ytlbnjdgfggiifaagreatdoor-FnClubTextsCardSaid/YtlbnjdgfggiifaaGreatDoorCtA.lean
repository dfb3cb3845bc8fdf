/- Contract: the reference's spoiling of a text: a text that is at most one byte longer. -/
import Derived.Test.YtlbnjdgfggiifaaGreatDoorDrC
import Derived.Test.YtlbnjdgfggiifaaGreatDoorSlot
import Derived.Test.YtlbnjdgfggiifaaGreatDoorCtS
namespace Go.Proofs.YtlbnjdgfggiifaaGreatDoor
open Go.ChangeShapes Go.WideShapes Go.ChangeAt Go.RowKit Go.Sort

def spoilTexts : List ByteArray := [⟨#[32]⟩, ⟨#[48]⟩, ⟨#[45]⟩, ⟨#[120]⟩, ⟨#[49]⟩, ⟨#[57]⟩, ⟨#[46]⟩]
theorem txt_some {t : ByteArray} (he : ¬ t = ⟨#[]⟩) : t.toList.isEmpty = false := by
  cases hh : t.toList.isEmpty with
  | false => rfl
  | true =>
    have h1 := List.isEmpty_iff.1 hh
    rw [ByteArray.toList_eq] at h1
    exact absurd (ByteArray.ext (Array.toList_inj.1 h1)) he
theorem spoil_one {x : ByteArray} (h : x ∈ spoilTexts) : x.size ≤ 1 := by
  simp only [spoilTexts, List.mem_cons, List.not_mem_nil, or_false] at h
  rcases h with rfl | rfl | rfl | rfl | rfl | rfl | rfl <;> decide
/-- a text that was drawn -/
def TextDrawn (n : Nat) (w : World) (N b k : Nat) (e : Ending) (w' : World) : Prop :=
  ∃ u : ByteArray, e = .returned (.string u) ∧ u.size ≤ n ∧ SrcAt w' N b k ∧ w.grownBy w' (some b)
set_option maxRecDepth 100000 in
set_option maxHeartbeats 2000000 in
theorem l01Spoil_any (t : ByteArray) (N b k : Nat) (w : World) (hs : SrcAt w N b k) (hk : k < 536870912) (ht : t.size ≤ 100000) :
    Calls Tryz.prog 35 #[.pointer (some ⟨b, 0, none⟩), .string t] w (TextDrawn (t.size + 1) w N b (k + 20)) := by
  have HS := Lib.hid hs
  clear hs
  go_enter Tryz.func35, Tryz.ntmps35
  go_wp2_with fail
  refine (pick_any 5 N b k w HS.out (by omega)).mono ?_
  rintro e w2 ⟨x, ⟨x0, _, _, _⟩, rfl, s2, g2⟩
  replace HS := Lib.hid s2
  have G := Lib.hid g2
  clear s2 g2
  by_cases h0 : x = 0
  · subst h0
    clear x0
    have hw1 : IntKind.i64.wrap ((t.size : Int) + 1) = (t.size : Int) + 1 := IntWalk.i64_in _ (by omega)
    go_wp2_with fail
    refine (pick_any ((t.size : Int) + 1) N b _ w2 HS.out (by omega)).mono ?_
    rintro e w3 ⟨y, ⟨y0, y1, _, _⟩, rfl, s3, g3⟩
    obtain ⟨at', rfl⟩ : ∃ i : Nat, y = i := ⟨y.toNat, (Int.toNat_of_nonneg y0).symm⟩
    have hat : at' ≤ t.size := by have := y1 (by omega); omega
    replace HS := Lib.hid s3
    replace G := Lib.hid (grownBy_trans G.out g3)
    clear s3 g3 y0 y1 hw1
    go_upto_region 4 with fail
    have hdw := (Below.refl w3.heap.size w3).drew
    replace HS := Lib.hid (HS.out.kept hdw)
    replace G := Lib.hid (grown_below G.out hdw)
    clear hdw
    have a0 : ¬ ((at' : Int) < 0) := by omega
    have a1 : (at' : Int) ≤ (t.size : Int) := by omega
    have hpz : (t.extract 0 at').size ≤ at' := by rw [ByteArray.size_extract]; omega
    have hrz : (t.extract at' t.size).size ≤ t.size - at' := by rw [ByteArray.size_extract]; omega
    refine wp_region_held_drew (S := fun _ => True) (by kernel_rfl) trivial (fun hHeld => ?_)
    generalize w3.drew = wd at *
    refine slotA 0 16 (.string t) ?_
    simp only [S3]
    refine slotA 1 17 (.int .i64 (at' : Int)) ?_
    simp only [S3]
    refine slotA 2 18 (.string (t.extract 0 at')) ?_
    simp only [S3]
    refine slotA 3 19 (.pointer (some ⟨b, 0, none⟩)) ?_
    simp only [S3]
    refine slotA 7 23 (.string t) ?_
    simp only [S3]
    refine slotA 8 24 (.int .i64 (at' : Int)) ?_
    simp only [S3]
    refine slotA 9 25 (.string (t.extract at' t.size)) ?_
    simp only [S3]
    generalize t.extract 0 at' = p at *
    generalize t.extract at' t.size = r at *
    refine wpAnyH_ready (rs := [4]) (by kernel_rfl) (by simp) ?_
    refine AllReadyH.cons (o := _) rfl (fun K hK => ?_) AllReadyH.nil
    have hbw : b < wd.heap.size := HS.out.size
    have hx : Below wd.heap.size wd (wd.alloc (.cells #[.string ⟨#[32]⟩, .string ⟨#[48]⟩, .string ⟨#[45]⟩, .string ⟨#[120]⟩, .string ⟨#[49]⟩, .string ⟨#[57]⟩, .string ⟨#[46]⟩] 9)) := (Below.refl _ _).alloc (Nat.le_refl _) _
    have HCN := Lib.hid (cells_new (enc := Str.enc) (fun _ => rfl) wd spoilTexts 9)
    go_simp
    refine hK.out _ _ trivial (fun hHeld2 => ?_)
    clear hK K hHeld
    replace HS := Lib.hid (HS.out.kept hx)
    replace G := Lib.hid (grown_below G.out hx)
    clear hx
    refine wpAnyH_ready (rs := [5]) (by kernel_rfl) (by simp) ?_
    refine AllReadyH.cons (o := _) rfl (fun K hK => ?_) AllReadyH.nil
    go_simp
    refine (text_any spoilTexts wd.heap.size 7 N b _ _ HS.out (by omega) HCN.out (by decide) (by decide) (by omega)).mono ?_
    rintro e w5 ⟨q, hq, rfl, s5, g5⟩
    have hqz := spoil_one hq
    replace HS := Lib.hid s5
    replace G := Lib.hid (grownBy_trans G.out g5)
    clear s5 g5 hq HCN hHeld2
    go_wp2_with fail
    refine hK.out _ _ trivial (fun hHeld => ?_)
    clear hK K
    have z1 : p.size + q.size ≤ 9223372036854775807 := by omega
    have z2 : p.size + q.size + r.size ≤ 9223372036854775807 := by omega
    have z3 : (p ++ q).size + r.size ≤ 9223372036854775807 := by rw [ByteArray.size_append]; omega
    refine slotA 6 22 (.string (p ++ q)) ?_
    simp only [S3]
    refine slotA 10 26 (.string (p ++ q ++ r)) ?_
    simp only [S3]
    refine slotA 11 1 (.string (p ++ q ++ r)) ?_
    simp only [S3]
    refine wpAnyH_done (by kernel_rfl) ?_ _
    clear hHeld
    have hz : (p ++ q ++ r).size ≤ t.size + 1 := by rw [ByteArray.size_append, ByteArray.size_append]; omega
    clear z1 z2 z3
    go_wp2
    go_ret
    exact ⟨_, rfl, hz, HS.out.mono (Nat.le_refl _) (by omega), G.out⟩
  · by_cases h1 : x = 1
    · subst h1
      clear x0 h0
      by_cases he : t = ⟨#[]⟩
      · subst he
        go_wp2
        go_ret
        exact ⟨_, rfl, by decide, HS.out.mono (Nat.le_refl _) (by omega), G.out⟩
      have hne := txt_some he
      have hsz : 0 < t.size := by
        rcases Nat.eq_zero_or_pos t.size with h | h
        · exact absurd (ByteArray.size_eq_zero_iff.1 h) he
        · exact h
      clear he
      go_wp2_with fail
      refine (pick_any (t.size : Int) N b _ w2 HS.out (by omega)).mono ?_
      rintro e w3 ⟨y, ⟨y0, y1, _, _⟩, rfl, s3, g3⟩
      obtain ⟨at', rfl⟩ : ∃ i : Nat, y = i := ⟨y.toNat, (Int.toNat_of_nonneg y0).symm⟩
      have hat : at' < t.size := by have := y1 (by omega); omega
      replace HS := Lib.hid s3
      replace G := Lib.hid (grownBy_trans G.out g3)
      clear s3 g3 y0 y1 hne
      go_upto_region 8 with fail
      have hdw := (Below.refl w3.heap.size w3).drew
      replace HS := Lib.hid (HS.out.kept hdw)
      replace G := Lib.hid (grown_below G.out hdw)
      clear hdw
      have a0 : ¬ ((at' : Int) < 0) := by omega
      have a1 : (at' : Int) ≤ (t.size : Int) := by omega
      have a2 : ¬ ((at' : Int) + 1 < 0) := by omega
      have a3 : (at' : Int) + 1 ≤ (t.size : Int) := by omega
      have a4 : ((at' : Int) + 1).toNat = at' + 1 := by omega
      have hw1 : IntKind.i64.wrap ((at' : Int) + 1) = (at' : Int) + 1 := IntWalk.i64_in _ (by omega)
      have hpz : (t.extract 0 at').size ≤ at' := by rw [ByteArray.size_extract]; omega
      have hrz : (t.extract (at' + 1) t.size).size ≤ t.size - (at' + 1) := by rw [ByteArray.size_extract]; omega
      refine wp_region_held_drew (S := fun _ => True) (by kernel_rfl) trivial (fun hHeld => ?_)
      generalize w3.drew = wd at *
      refine slotA 0 35 (.string t) ?_
      simp only [S3]
      refine slotA 1 36 (.int .i64 (at' : Int)) ?_
      simp only [S3]
      refine slotA 2 37 (.string (t.extract 0 at')) ?_
      simp only [S3]
      refine slotA 3 38 (.string t) ?_
      simp only [S3]
      refine slotA 4 39 (.int .i64 (at' : Int)) ?_
      simp only [S3]
      refine slotA 5 40 (.int .i64 ((at' : Int) + 1)) ?_
      simp only [S3]
      refine slotA 6 41 (.string (t.extract (at' + 1) t.size)) ?_
      simp only [S3]
      generalize t.extract 0 at' = p at *
      generalize t.extract (at' + 1) t.size = r at *
      have z1 : p.size + r.size ≤ 9223372036854775807 := by omega
      refine slotA 7 42 (.string (p ++ r)) ?_
      simp only [S3]
      refine slotA 8 1 (.string (p ++ r)) ?_
      simp only [S3]
      refine wpAnyH_done (by kernel_rfl) ?_ _
      clear hHeld
      have hz : (p ++ r).size ≤ t.size + 1 := by rw [ByteArray.size_append]; omega
      clear z1
      go_wp2
      go_ret
      exact ⟨_, rfl, hz, HS.out.mono (Nat.le_refl _) (by omega), G.out⟩
    · have e0 : (x == 0) = false := beq_eq_false_iff_ne.2 h0
      have e1 : (x == 1) = false := beq_eq_false_iff_ne.2 h1
      go_wp2
      go_ret
      exact ⟨t, rfl, by omega, HS.out.mono (Nat.le_refl _) (by omega), G.out⟩
end Go.Proofs.YtlbnjdgfggiifaaGreatDoor
