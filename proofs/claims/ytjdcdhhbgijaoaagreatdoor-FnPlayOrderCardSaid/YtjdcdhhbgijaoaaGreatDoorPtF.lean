/- Contracts: the reference's draw of a text of a play: a text that is at most one byte longer than a play's. -/
import Derived.Test.YtjdcdhhbgijaoaaGreatDoorPtA
import Derived.Test.YtjdcdhhbgijaoaaGreatDoorDbP
import Derived.Test.YtjdcdhhbgijaoaaGreatDoorDbQ
import Derived.Deep.DeepCutAuto
import Derived.Deep.CutBlock
namespace Go.Proofs.YtjdcdhhbgijaoaaGreatDoor
open Go.ChangeShapes Go.WideShapes Go.ChangeAt Go.RowKit Go.Sort

def spoilTexts : List ByteArray := [⟨#[32]⟩, ⟨#[48]⟩, ⟨#[45]⟩, ⟨#[120]⟩, ⟨#[49]⟩, ⟨#[57]⟩, ⟨#[46]⟩]
theorem spoilNe {t : ByteArray} (he : ¬ t = ⟨#[]⟩) : t.toList.isEmpty = false := by
  cases hh : t.toList.isEmpty with
  | false => rfl
  | true =>
    have h1 := List.isEmpty_iff.1 hh
    rw [ByteArray.toList_eq] at h1
    exact absurd (ByteArray.ext (Array.toList_inj.1 h1)) he
theorem spoil_one {x : ByteArray} (h : x ∈ spoilTexts) : x.size ≤ 1 := by
  simp only [spoilTexts, List.mem_cons, List.not_mem_nil, or_false] at h
  rcases h with rfl | rfl | rfl | rfl | rfl | rfl | rfl <;> decide
/-- a text that was drawn -/
def SpoilDrawn (n : Nat) (w : World) (N b k : Nat) (e : Ending) (w' : World) : Prop :=
  ∃ u : ByteArray, e = .returned (.string u) ∧ u.size ≤ n ∧ SrcAt w' N b k ∧ w.grownBy w' (some b)
set_option maxRecDepth 100000 in
set_option maxHeartbeats 2000000 in
theorem l01Spoil_any (t : ByteArray) (N b k : Nat) (w : World) (hs : SrcAt w N b k) (hk : k < 536870912) (ht : t.size ≤ 100000) :
    Calls Tryz.prog 144 #[.pointer (some ⟨b, 0, none⟩), .string t] w (SpoilDrawn (t.size + 1) w N b (k + 20)) := by
  have HS := Lib.hid hs
  clear hs
  go_enter Tryz.func144, Tryz.ntmps144
  go_wp2_with fail
  refine (pick_any 5 N b k w HS.out (by omega)).mono ?_
  rintro e w2 ⟨x, ⟨x0, _, _, _⟩, rfl, s2, g2⟩
  replace HS := Lib.hid s2
  have G := Lib.hid g2
  clear s2 g2
  by_cases h0 : x = 0
  · subst h0
    clear x0
    have hw1 : IntKind.i64.wrap ((t.size : Int) + 1) = (t.size : Int) + 1 := IntWalk.i64_in _ (by omega)
    go_wp2_with fail
    refine (pick_any ((t.size : Int) + 1) N b _ w2 HS.out (by omega)).mono ?_
    rintro e w3 ⟨y, ⟨y0, y1, _, _⟩, rfl, s3, g3⟩
    obtain ⟨at', rfl⟩ : ∃ i : Nat, y = i := ⟨y.toNat, (Int.toNat_of_nonneg y0).symm⟩
    have hat : at' ≤ t.size := by have := y1 (by omega); omega
    replace HS := Lib.hid s3
    replace G := Lib.hid (grownBy_trans G.out g3)
    clear s3 g3 y0 y1 hw1
    go_upto_region 4 with fail
    have hdw := (Below.refl w3.heap.size w3).drew
    replace HS := Lib.hid (HS.out.kept hdw)
    replace G := Lib.hid (grown_below G.out hdw)
    clear hdw
    have a0 : ¬ ((at' : Int) < 0) := by omega
    have a1 : (at' : Int) ≤ (t.size : Int) := by omega
    have hpz : (t.extract 0 at').size ≤ at' := by rw [ByteArray.size_extract]; omega
    have hrz : (t.extract at' t.size).size ≤ t.size - at' := by rw [ByteArray.size_extract]; omega
    refine wp_region_held_drew (S := fun _ => True) (by kernel_rfl) trivial (fun hHeld => ?_)
    generalize w3.drew = wd at *
    refine slotA 0 16 (.string t) ?_
    simp only [S3]
    refine slotA 1 17 (.int .i64 (at' : Int)) ?_
    simp only [S3]
    refine slotA 2 18 (.string (t.extract 0 at')) ?_
    simp only [S3]
    refine slotA 3 19 (.pointer (some ⟨b, 0, none⟩)) ?_
    simp only [S3]
    refine slotA 7 23 (.string t) ?_
    simp only [S3]
    refine slotA 8 24 (.int .i64 (at' : Int)) ?_
    simp only [S3]
    refine slotA 9 25 (.string (t.extract at' t.size)) ?_
    simp only [S3]
    generalize t.extract 0 at' = p at *
    generalize t.extract at' t.size = r at *
    refine wpAnyH_ready (rs := [4]) (by kernel_rfl) (by simp) ?_
    refine AllReadyH.cons (o := _) rfl (fun K hK => ?_) AllReadyH.nil
    have hbw : b < wd.heap.size := HS.out.size
    have hx : Below wd.heap.size wd (wd.alloc (.cells #[.string ⟨#[32]⟩, .string ⟨#[48]⟩, .string ⟨#[45]⟩, .string ⟨#[120]⟩, .string ⟨#[49]⟩, .string ⟨#[57]⟩, .string ⟨#[46]⟩] 9)) := (Below.refl _ _).alloc (Nat.le_refl _) _
    have HCN := Lib.hid (cells_new (enc := Str.enc) (fun _ => rfl) wd spoilTexts 9)
    go_simp
    refine hK.out _ _ trivial (fun hHeld2 => ?_)
    clear hK K hHeld
    replace HS := Lib.hid (HS.out.kept hx)
    replace G := Lib.hid (grown_below G.out hx)
    clear hx
    refine wpAnyH_ready (rs := [5]) (by kernel_rfl) (by simp) ?_
    refine AllReadyH.cons (o := _) rfl (fun K hK => ?_) AllReadyH.nil
    go_simp
    refine (text_any spoilTexts wd.heap.size 7 N b _ _ HS.out (by omega) HCN.out (by decide) (by decide) (by omega)).mono ?_
    rintro e w5 ⟨q, hq, rfl, s5, g5⟩
    have hqz := spoil_one hq
    replace HS := Lib.hid s5
    replace G := Lib.hid (grownBy_trans G.out g5)
    clear s5 g5 hq HCN hHeld2
    go_wp2_with fail
    refine hK.out _ _ trivial (fun hHeld => ?_)
    clear hK K
    have z1 : p.size + q.size ≤ 9223372036854775807 := by omega
    have z2 : p.size + q.size + r.size ≤ 9223372036854775807 := by omega
    have z3 : (p ++ q).size + r.size ≤ 9223372036854775807 := by rw [ByteArray.size_append]; omega
    refine slotA 6 22 (.string (p ++ q)) ?_
    simp only [S3]
    refine slotA 10 26 (.string (p ++ q ++ r)) ?_
    simp only [S3]
    refine slotA 11 1 (.string (p ++ q ++ r)) ?_
    simp only [S3]
    refine wpAnyH_done (by kernel_rfl) ?_ _
    clear hHeld
    have hz : (p ++ q ++ r).size ≤ t.size + 1 := by rw [ByteArray.size_append, ByteArray.size_append]; omega
    clear z1 z2 z3
    go_wp2
    go_ret
    exact ⟨_, rfl, hz, HS.out.mono (Nat.le_refl _) (by omega), G.out⟩
  · by_cases h1 : x = 1
    · subst h1
      clear x0 h0
      by_cases he : t = ⟨#[]⟩
      · subst he
        go_wp2
        go_ret
        exact ⟨_, rfl, by decide, HS.out.mono (Nat.le_refl _) (by omega), G.out⟩
      have hne := spoilNe he
      have hsz : 0 < t.size := by
        rcases Nat.eq_zero_or_pos t.size with h | h
        · exact absurd (ByteArray.size_eq_zero_iff.1 h) he
        · exact h
      clear he
      go_wp2_with fail
      refine (pick_any (t.size : Int) N b _ w2 HS.out (by omega)).mono ?_
      rintro e w3 ⟨y, ⟨y0, y1, _, _⟩, rfl, s3, g3⟩
      obtain ⟨at', rfl⟩ : ∃ i : Nat, y = i := ⟨y.toNat, (Int.toNat_of_nonneg y0).symm⟩
      have hat : at' < t.size := by have := y1 (by omega); omega
      replace HS := Lib.hid s3
      replace G := Lib.hid (grownBy_trans G.out g3)
      clear s3 g3 y0 y1 hne
      go_upto_region 8 with fail
      have hdw := (Below.refl w3.heap.size w3).drew
      replace HS := Lib.hid (HS.out.kept hdw)
      replace G := Lib.hid (grown_below G.out hdw)
      clear hdw
      have a0 : ¬ ((at' : Int) < 0) := by omega
      have a1 : (at' : Int) ≤ (t.size : Int) := by omega
      have a2 : ¬ ((at' : Int) + 1 < 0) := by omega
      have a3 : (at' : Int) + 1 ≤ (t.size : Int) := by omega
      have a4 : ((at' : Int) + 1).toNat = at' + 1 := by omega
      have hw1 : IntKind.i64.wrap ((at' : Int) + 1) = (at' : Int) + 1 := IntWalk.i64_in _ (by omega)
      have hpz : (t.extract 0 at').size ≤ at' := by rw [ByteArray.size_extract]; omega
      have hrz : (t.extract (at' + 1) t.size).size ≤ t.size - (at' + 1) := by rw [ByteArray.size_extract]; omega
      refine wp_region_held_drew (S := fun _ => True) (by kernel_rfl) trivial (fun hHeld => ?_)
      generalize w3.drew = wd at *
      refine slotA 0 35 (.string t) ?_
      simp only [S3]
      refine slotA 1 36 (.int .i64 (at' : Int)) ?_
      simp only [S3]
      refine slotA 2 37 (.string (t.extract 0 at')) ?_
      simp only [S3]
      refine slotA 3 38 (.string t) ?_
      simp only [S3]
      refine slotA 4 39 (.int .i64 (at' : Int)) ?_
      simp only [S3]
      refine slotA 5 40 (.int .i64 ((at' : Int) + 1)) ?_
      simp only [S3]
      refine slotA 6 41 (.string (t.extract (at' + 1) t.size)) ?_
      simp only [S3]
      generalize t.extract 0 at' = p at *
      generalize t.extract (at' + 1) t.size = r at *
      have z1 : p.size + r.size ≤ 9223372036854775807 := by omega
      refine slotA 7 42 (.string (p ++ r)) ?_
      simp only [S3]
      refine slotA 8 1 (.string (p ++ r)) ?_
      simp only [S3]
      refine wpAnyH_done (by kernel_rfl) ?_ _
      clear hHeld
      have hz : (p ++ r).size ≤ t.size + 1 := by rw [ByteArray.size_append]; omega
      clear z1
      go_wp2
      go_ret
      exact ⟨_, rfl, hz, HS.out.mono (Nat.le_refl _) (by omega), G.out⟩
    · have e0 : (x == 0) = false := beq_eq_false_iff_ne.2 h0
      have e1 : (x == 1) = false := beq_eq_false_iff_ne.2 h1
      go_wp2
      go_ret
      exact ⟨t, rfl, by omega, HS.out.mono (Nat.le_refl _) (by omega), G.out⟩
def playTexts : List ByteArray := [⟨#[49, 53, 111, 32, 97, 116]⟩, ⟨#[49, 54, 97, 32, 97, 116]⟩, ⟨#[49, 112, 32, 97, 116]⟩, ⟨#[48, 97, 32, 97, 116]⟩, ⟨#[97, 48, 32, 97, 116]⟩, ⟨#[111, 49, 53, 32, 97, 116]⟩, ⟨#[49, 97, 32, 97]⟩, ⟨#[97, 49]⟩, ⟨#[48, 49, 97, 32, 97, 116]⟩, ⟨#[97, 97, 32, 97, 116]⟩]
/-- a short text comes back -/
def ShortOut (w : World) (e : Ending) (w' : World) : Prop := ∃ u : ByteArray, u.size ≤ 100 ∧ e = .returned (.string u) ∧ Below w.heap.size w w'
theorem text_short {p : Ply} (hp : p.plain = true) (hw : p.word.size ≤ 20) : (mkB p.text).size ≤ 30 := by
  obtain ⟨⟨r0, r1⟩, ⟨k0, k1⟩, _⟩ := plain_iff.1 hp
  have hi := itoa_short (n := p.row + 1) (by omega) (by omega)
  have hz : p.word.data.toList.length = p.word.size := Array.length_toList
  rw [mkB_size]
  unfold Ply.text Ply.place
  split <;> simp only [List.length_append, List.length_cons, List.length_nil] <;> omega
set_option maxRecDepth 100000 in
set_option maxHeartbeats 8000000 in
theorem DrawReadPlay_any (ca : Option Addr) (ccap : Nat) (bs : List Int) (w : World) (hc : CodeAt w w.heap.size ca bs) : Calls Tryz.prog 58 #[.slice ca bs.length ccap] w (ShortOut w) := by
  have HC := Lib.hid hc
  clear hc
  go_enter Tryz.func58, Tryz.ntmps58
  go_wp2_with fail
  refine (l00From_any ca ccap bs _ HC.out).mono ?_
  rintro e w2 ⟨rfl, h2, s2, hz2⟩
  have HS := Lib.hid s2
  have hb := h2
  have hz3 : w.heap.size + 1 ≤ w2.heap.size := by omega
  obtain ⟨B1, hB1⟩ : ∃ B, B = w.heap.size := ⟨_, rfl⟩
  rw [← hB1] at HS hz3
  have hB2 : w.heap.size ≤ B1 := by omega
  rw [← hB1]
  clear h2 s2 HC hz2 hB1
  go_wp2_with fail
  refine (l11Draw_any (B1 + 1) B1 0 _ HS.out (by omega) hz3).mono ?_
  rintro e w3 ⟨n, ⟨bz, P, C⟩, hgd, h9, rfl, s3, g3⟩
  obtain rfl : bz = (n : Int) := hgd.size
  have hz5 : B1 + 1 ≤ w3.heap.size := by have := g3.size; omega
  replace HS := Lib.hid s3
  replace hb := hb.grown g3 hb.size (fun q h => by cases h; omega)
  have HGD := Lib.hid hgd
  clear s3 g3 hgd hz3
  simp only
  have hx : Below w3.heap.size w3 (w3.alloc (.cells #[.int .i64 (n : Int), .string P, .string C] 25)) := (Below.refl _ _).alloc (Nat.le_refl _) _
  have V4 := Lib.hid (VarAt.new w3 25 [.int .i64 (n : Int), .string P, .string C])
  have hz6 : w3.heap.size < (w3.alloc (.cells #[.int .i64 (n : Int), .string P, .string C] 25)).heap.size := by simp
  replace HS := Lib.hid (HS.out.kept hx)
  replace hb := hb.trans ((hx).mono hb.size)
  clear hx
  go_upto_region 3 with fail
  generalize w3.alloc (.cells #[.int .i64 (n : Int), .string P, .string C] 25) = w4 at *
  generalize w3.heap.size = B4 at *
  go_wp2_with fail
  refine (l12Some_any P C n B4 (B1 + 1) B1 _ _ HGD.out h9 (bat_of V4.out) (by omega) HS.out (by omega) (by omega)).mono ?_
  rintro e w5 ⟨⟨R, Q, D, Wd⟩, hW, rfl, s5, g5⟩
  have hz7 : B4 < w5.heap.size := by have := g5.size; omega
  replace hW : Wd.size ≤ 20 := hW
  replace HS := Lib.hid s5
  replace hb := hb.grown g5 hb.size (fun q h => by cases h; omega)
  clear s5 g5 hz6 V4 HGD
  simp only
  have hx : Below w5.heap.size w5 (w5.alloc (.cells #[.int .i64 R, .int .i64 Q, .bool D, .string Wd] 30)) := (Below.refl _ _).alloc (Nat.le_refl _) _
  have V5 := Lib.hid (VarAt.new w5 30 [.int .i64 R, .int .i64 Q, .bool D, .string Wd])
  replace HS := Lib.hid (HS.out.kept hx)
  replace hb := hb.trans ((hx).mono hb.size)
  clear hx
  have hz8 : w5.heap.size < (w5.alloc (.cells #[.int .i64 R, .int .i64 Q, .bool D, .string Wd] 30)).heap.size := by simp
  go_upto_region 4 with fail
  generalize w5.alloc (.cells #[.int .i64 R, .int .i64 Q, .bool D, .string Wd] 30) = w6 at *
  generalize w5.heap.size = B5 at *
  have HPL : Hid (∀ W : World, Calls Tryz.prog 142 #[.agg #[.int .i64 R, .int .i64 Q, .bool D, .string Wd]] W fun e w' => e = .returned (.bool (Ply.plain ⟨R, Q, D, Wd⟩)) ∧ Below W.heap.size W w') := Lib.hid (fun W => l12Plain_any ⟨R, Q, D, Wd⟩ W (Nat.le_trans hW (by decide)))
  have HTX : Hid (Ply.plain ⟨R, Q, D, Wd⟩ = true → (mkB (Ply.text ⟨R, Q, D, Wd⟩)).size ≤ 30 ∧ ∀ W : World, Calls Tryz.prog 143 #[.agg #[.int .i64 R, .int .i64 Q, .bool D, .string Wd]] W (StrPost W (Ply.text ⟨R, Q, D, Wd⟩))) := Lib.hid (fun hp => ⟨text_short hp hW, fun W => l12Text_any ⟨R, Q, D, Wd⟩ W hp (Nat.le_trans hW (by decide))⟩)
  generalize Ply.plain ⟨R, Q, D, Wd⟩ = pl at *
  generalize Ply.text ⟨R, Q, D, Wd⟩ = tx at *
  have c0 := V5.out.cell (i := 0) rfl
  have c1 := V5.out.cell (i := 1) rfl
  have c2 := V5.out.cell (i := 2) rfl
  have c3 := V5.out.cell (i := 3) rfl
  go_wp2_with fail
  refine (HPL.out _).mono ?_
  rintro e w7 ⟨rfl, hd⟩
  replace HS := Lib.hid (HS.out.kept hd)
  replace hb := hb.trans ((hd).mono hb.size)
  replace V5 := Lib.hid (V5.out.kept hd)
  have hz9 : B5 < w7.heap.size := Nat.lt_of_lt_of_le hz8 hd.size
  clear hd HPL c0 c1 c2 c3 hz8
  go_upto_if 14 with fail
  go_cut [6] (fun v6 wx => ∃ u : ByteArray, v6 = .string u ∧ u.size ≤ 30 ∧ Below w7.heap.size w7 wx)
  case first =>
    cases pl with
    | false =>
      go_wp2_with fail
      go_meet
      exact ⟨_, rfl, (by decide), Below.refl _ _⟩
    | true =>
      obtain ⟨hz, HX⟩ := HTX.out rfl
      have HX := Lib.hid HX
      clear HTX
      have c0 := V5.out.cell (i := 0) rfl
      have c1 := V5.out.cell (i := 1) rfl
      have c2 := V5.out.cell (i := 2) rfl
      have c3 := V5.out.cell (i := 3) rfl
      go_wp2_with fail
      refine (HX.out _).mono ?_
      rintro e w8 ⟨rfl, hd⟩
      go_wp2_with fail
      go_meet
      exact ⟨_, rfl, hz, hd⟩
  case rest =>
    obtain ⟨u, rfl, hu, hd⟩ := hcut
    replace HS := Lib.hid (HS.out.kept hd)
    replace hb := hb.trans ((hd).mono hb.size)
    have hz10 : w7.heap.size ≤ wc.heap.size := hd.size
    generalize wc = w8 at *
    clear hd V5 HTX
    go_wp2_with fail
    refine (one_any 3 (B1 + 1) B1 _ _ HS.out (by omega)).mono ?_
    rintro e w9 ⟨y, rfl, s9, g9⟩
    have hz11 := g9.size
    replace HS := Lib.hid s9
    replace hb := hb.grown g9 hb.size (fun q h => by cases h; omega)
    clear s9 g9
    cases y with
    | true =>
      go_wp2_with fail
      refine (l01Spoil_any u (B1 + 1) B1 _ _ HS.out (by omega) (by omega)).mono ?_
      rintro e w10 ⟨t, rfl, ht, s10, g10⟩
      replace HS := Lib.hid s10
      replace hb := hb.grown g10 hb.size (fun q h => by cases h; omega)
      go_wp2
      go_ret
      exact ⟨t, by omega, rfl, hb⟩
    | false =>
      go_wp2_with fail
      refine (one_any 8 (B1 + 1) B1 _ _ HS.out (by omega)).mono ?_
      rintro e w10 ⟨y, rfl, s10, g10⟩
      have hz12 := g10.size
      replace HS := Lib.hid s10
      replace hb := hb.grown g10 hb.size (fun q h => by cases h; omega)
      clear s10 g10
      cases y with
      | true =>
        have hx : Below w10.heap.size w10 (w10.alloc (.cells (playTexts.flatMap Str.enc).toArray 9)) := (Below.refl _ _).alloc (Nat.le_refl _) _
        have HCN := Lib.hid (cells_new (enc := Str.enc) (sz := 1) (fun _ => rfl) w10 playTexts 9)
        replace HS := Lib.hid (HS.out.kept hx)
        replace hb := hb.trans ((hx).mono hb.size)
        clear hx
        go_wp2_with fail
        refine (text_any playTexts w10.heap.size 10 (B1 + 1) B1 _ _ HS.out (by omega) HCN.out (by decide) (by decide) (by omega)).mono ?_
        rintro e w11 ⟨t, ht, rfl, s11, g11⟩
        have hsz := short_ok ht (by rfl)
        replace HS := Lib.hid s11
        replace hb := hb.grown g11 hb.size (fun q h => by cases h; omega)
        go_wp2
        go_ret
        exact ⟨t, by omega, rfl, hb⟩
      | false =>
        go_wp2
        go_ret
        exact ⟨u, by omega, rfl, hb⟩
end Go.Proofs.YtjdcdhhbgijaoaaGreatDoor
