/- Contract: the reference's drawn tile set. Nothing is said of it but that it is short and n · Contracts: the reference's tile sets, seldom not valid; the one that a score is asked with -/
import Derived.Test.YtjdcdhhbgijaoaaGreatDoorMkSz
import Derived.Test.YtjdcdhhbgijaoaaGreatDoorMkXz
import Derived.Test.YtjdcdhhbgijaoaaGreatDoorDgS
import Derived.Deep.DeepCutAuto
import Derived.Deep.CutBlock
namespace Go.Proofs.YtjdcdhhbgijaoaaGreatDoor
open Go.ChangeShapes Go.WideShapes Go.ChangeAt Go.RowKit Go.Sort

theorem conv_c (W : World) (c : Nat) (hc : c ≤ 255) : (convert 22 9 (.slice (some ⟨W.heap.size, 0, none⟩) 1 1)).run Tryz.prog (W.alloc (.cells #[.int .u8 (c : Int)] 5)) = .ok (.string (mkB [UInt8.ofNat c])) (W.alloc (.cells #[.int .u8 (c : Int)] 5)) := by
  refine bytes_str rfl fun j hj => ?_
  obtain rfl : j = 0 := by simp at hj; omega
  have e : (((UInt8.ofNat c).toNat : Nat) : Int) = (c : Int) := by simp; omega
  refine cell_new0 W #[.int .u8 (c : Int)] 5 (i := 0) ?_
  show some (Value.int .u8 (c : Int)) = some (Value.int .u8 (((UInt8.ofNat c).toNat : Nat) : Int))
  rw [e]
def stdNames : List ByteArray := [⟨#[101, 110, 103, 108, 105, 115, 104]⟩, ⟨#[115, 109, 97, 108, 108]⟩]
theorem std_text {s : ByteArray} (h : s ∈ stdNames) : ∃ t : Tls, t.Text (standX s) ∧ t.letters.size ≤ 26 ∧ t.values.length ≤ 26 ∧ t.counts.length ≤ 26 ∧ 1 ≤ t.values.length ∧ 1 ≤ t.counts.length := by
  unfold stdNames at h
  simp only [List.mem_cons, List.not_mem_nil, or_false] at h
  rcases h with rfl | rfl
  · exact ⟨englishT, by have := text_english; exact this, by decide, by decide, by decide, by decide, by decide⟩
  · exact ⟨smallT, by have := text_small; exact this, by decide, by decide, by decide, by decide, by decide⟩
theorem names_any (w : World) : Calls Tryz.prog 276 #[] w fun e w' => e = .returned (.slice (some ⟨w.heap.size, 0, none⟩) 2 2) ∧ CellsAt w' 1 Str.enc w.heap.size 0 stdNames ∧ Below w.heap.size w w' := by
  have hx : Below w.heap.size w (w.alloc (.cells (stdNames.flatMap Str.enc).toArray 9)) := (Below.refl _ _).alloc (Nat.le_refl _) _
  have HC := Lib.hid (cells_new (enc := Str.enc) (sz := 1) (fun _ => rfl) w stdNames 9)
  go_enter Tryz.func276, Tryz.ntmps276
  go_wp2
  go_ret
  exact ⟨rfl, HC.out, hx⟩
set_option maxRecDepth 100000 in
set_option maxHeartbeats 8000000 in
theorem l02Draw_any (N b k : Nat) (w : World) (hs : SrcAt w N b k) (hk : k < 268435456) (hN : N ≤ w.heap.size) :
    Calls Tryz.prog 248 #[.pointer (some ⟨b, 0, none⟩)] w (TlDrawn 1 30 w N b (k + 200)) := by
  obtain ⟨i0, hi0, hi1, hi2, hi3⟩ := info_parts infoI64
  have hbN := hs.lt
  have hb : Below w.heap.size w (w.alloc (.cells #[.string ⟨#[]⟩, .slice none 0 0, .slice none 0 0, .int .i64 0] 44)) := (Below.refl _ _).alloc (Nat.le_refl _) _
  have HS := Lib.hid (hs.kept hb)
  have G := Lib.hid (grown_of_below (row := some b) hb)
  have VR := Lib.hid (VarAt.new w 44 [.string ⟨#[]⟩, .slice none 0 0, .slice none 0 0, .int .i64 0])
  clear hs hb
  go_enter Tryz.func248, Tryz.ntmps248
  go_upto_region 1 with fail
  have hz1 : w.heap.size + 1 ≤ (w.alloc (.cells #[.string ⟨#[]⟩, .slice none 0 0, .slice none 0 0, .int .i64 0] 44)).heap.size := by simp
  generalize w.alloc (.cells #[.string ⟨#[]⟩, .slice none 0 0, .slice none 0 0, .int .i64 0] 44) = w1 at *
  go_wp2_with fail
  refine (one_any 3 N b _ _ HS.out (by omega)).mono ?_
  rintro e w2 ⟨y, rfl, s2, g2⟩
  replace VR := Lib.hid (VR.out.grown g2 (by simp; omega))
  replace HS := Lib.hid s2
  replace G := Lib.hid (grownBy_trans G.out g2)
  have hz2 : w.heap.size + 1 ≤ w2.heap.size := Nat.le_trans hz1 g2.size
  clear s2 g2 hz1
  cases y with
  | true =>
    go_wp2_with fail
    refine (names_any w2).mono ?_
    rintro e w3 ⟨rfl, hc, hd⟩
    have HC := Lib.hid hc
    replace VR := Lib.hid (VR.out.kept hd)
    replace HS := Lib.hid (HS.out.kept hd)
    replace G := Lib.hid (grown_below G.out hd)
    have hz3 := hd.size
    clear hd hc
    go_wp2_with fail
    refine (text_any stdNames w2.heap.size 2 N b _ _ HS.out (by omega) HC.out (by decide) (by decide) (by omega)).mono ?_
    rintro e w4 ⟨s, hsx, rfl, s4, g4⟩
    obtain ⟨x, htx, l1, l2, l3, l4, l5⟩ := std_text hsx
    replace VR := Lib.hid (VR.out.grown g4 (by simp; omega))
    replace HS := Lib.hid s4
    replace G := Lib.hid (grownBy_trans G.out g4)
    have hz4 : w.heap.size + 1 ≤ w4.heap.size := Nat.le_trans (by omega) g4.size
    clear s4 g4 hz3 hz2 HC hsx
    go_wp2_with fail
    refine (specTiles_any x s _ htx).mono ?_
    rintro e w5 ⟨q, rfl, hat, hoff, hd⟩
    have hx : Below w5.heap.size w5 (w5.alloc (.cells #[.string x.letters, .slice q.values.a x.values.length q.values.c, .slice q.counts.a x.counts.length q.counts.c, .int .i64 x.blanks] 44)) := (Below.refl _ _).alloc (Nat.le_refl _) _
    have TB := Lib.hid (TBoy.new w5 hat hoff (Nat.le_trans hz4 hd.size) hz4)
    replace VR := Lib.hid ((VR.out.kept hd).kept hx)
    replace HS := Lib.hid ((HS.out.kept hd).kept hx)
    replace G := Lib.hid (grown_below (grown_below G.out hd) hx)
    clear hd hx hat hoff htx hz4
    go_upto_region 3 with fail
    generalize w5.alloc (.cells #[.string x.letters, .slice q.values.a x.values.length q.values.c, .slice q.counts.a x.counts.length q.counts.c, .int .i64 x.blanks] 44) = w6 at *
    generalize w5.heap.size = B5 at *
    have c0 := TB.out.cell (i := 0) (v := .string x.letters) rfl
    have c1 := TB.out.cell (i := 1) (v := .slice q.values.a x.values.length q.values.c) rfl
    have c2 := TB.out.cell (i := 2) (v := .slice q.counts.a x.counts.length q.counts.c) rfl
    have c3 := TB.out.cell (i := 3) (v := .int .i64 x.blanks) rfl
    have y0 := VR.out.cell (i := 0) rfl
    have y1 := VR.out.cell (i := 1) rfl
    have y2 := VR.out.cell (i := 2) rfl
    have y3 := VR.out.cell (i := 3) rfl
    have f0 := VR.out.free 0
    have f1 := VR.out.free 1
    have f2 := VR.out.free 2
    have f3 := VR.out.free 3
    obtain ⟨o0, k0⟩ := VR.out.set 0 (.string x.letters)
    obtain ⟨o1, k1⟩ := o0.set 1 (.slice q.values.a x.values.length q.values.c)
    obtain ⟨o2, k2⟩ := o1.set 2 (.slice q.counts.a x.counts.length q.counts.c)
    obtain ⟨o3, k3⟩ := o2.set 3 (.int .i64 x.blanks)
    have GG := grownBy_trans (grownBy_trans (grownBy_trans k0 k1) k2) k3
    have e0 := o3.cell (i := 0) (v := .string x.letters) rfl
    have e1 := o3.cell (i := 1) (v := .slice q.values.a x.values.length q.values.c) rfl
    have e2 := o3.cell (i := 2) (v := .slice q.counts.a x.counts.length q.counts.c) rfl
    have e3 := o3.cell (i := 3) (v := .int .i64 x.blanks) rfl
    have HF := Lib.hid (Tls.Own.mono (Tls.Own.store TB.out.own GG (by omega)) (show w.heap.size ≤ w.heap.size + 1 by omega))
    have HO := Lib.hid TB.out.off
    replace HS := Lib.hid (HS.out.grown GG (fun g e => by cases e; exact hN))
    replace G := Lib.hid (grown_over G.out GG (Nat.le_refl _))
    clear o0 o1 o2 o3 k0 k1 k2 k3 GG TB VR
    go_wp2
    refine bodyPost_ret (v := .agg #[.string x.letters, .slice q.values.a x.values.length q.values.c, .slice q.counts.a x.counts.length q.counts.c, .int .i64 x.blanks]) (by simp [results, Tryz.results248, go_sem, e0, e1, e2, e3]) rfl ?_
    exact ⟨x, q, rfl, by omega, by omega, by omega, l4, l5, HF.out, HO.out, HS.out.mono (Nat.le_refl _) (by omega), G.out⟩
  | false =>
    go_wp2_with fail
    refine (pick_any 3 N b _ _ HS.out (by omega)).mono ?_
    rintro e w4 ⟨z, ⟨z0, z1, _, _⟩, rfl, s4, g4⟩
    replace VR := Lib.hid (VR.out.grown g4 (by simp; omega))
    replace HS := Lib.hid s4
    replace G := Lib.hid (grownBy_trans G.out g4)
    have hz4 : w.heap.size + 1 ≤ w4.heap.size := Nat.le_trans hz2 g4.size
    clear s4 g4 hz2 z0 z1
    have hx : Below w4.heap.size w4 (w4.alloc (.cells #[.string ⟨#[]⟩, .slice none 0 0, .slice none 0 0, .int .i64 z] 44)) := (Below.refl _ _).alloc (Nat.le_refl _) _
    have TB := Lib.hid (TBoy.zero w4 z hz4)
    replace VR := Lib.hid (VR.out.kept hx)
    replace HS := Lib.hid (HS.out.kept hx)
    replace G := Lib.hid (grown_below G.out hx)
    clear hx
    go_upto_region 5 with fail
    generalize w4.alloc (.cells #[.string ⟨#[]⟩, .slice none 0 0, .slice none 0 0, .int .i64 z] 44) = w5 at *
    generalize w4.heap.size = B5 at *
    go_wp2_with fail
    go_loopw [6] (fun cv wr => ∃ (c : Nat) (x : Tls) (q : TlA), 97 ≤ c ∧ c ≤ 123 ∧ cv = .int .u8 (c : Int) ∧ x.letters.size ≤ c - 97 ∧ x.values.length ≤ c - 97 ∧ x.counts.length ≤ c - 97 ∧ (97 < c → 1 ≤ x.values.length ∧ 1 ≤ x.counts.length) ∧ Hid (TBoy wr (w.heap.size + 1) B5 x q) ∧ Hid (SrcAt wr N b (k + 4 + 6 * (c - 97))) ∧ Hid (w.grownBy wr (some b)) ∧ Hid (VarAt wr w.heap.size 44 [.string ⟨#[]⟩, .slice none 0 0, .slice none 0 0, .int .i64 0])) (fun cv _ => 123 - (intOf cv).toNat)
    case atStart => exact ⟨97, _, _, Nat.le_refl _, by omega, rfl, Nat.le_of_eq rfl, Nat.le_of_eq rfl, Nat.le_of_eq rfl, fun h => absurd h (by omega), TB, Lib.hid (HS.out.mono (Nat.le_refl _) (by omega)), G, VR⟩
    case round =>
      clear TB HS G VR
      obtain ⟨c, x, q, hc1, hc2, rfl, l1, l2, l3, l4, TB, HS, G, VR⟩ := hrel
      by_cases hlt : c ≤ 122
      · have hltI : (c : Int) ≤ 122 := by omega
        have wc1 : IntKind.u8.wrap ((c : Int) + 1) = ((c + 1 : Nat) : Int) := by rw [IntKind.wrap_u8]; omega
        by_cases h6 : 102 < c
        · have h6I : (102 : Int) < (c : Int) := by omega
          have l5 := l4 (by omega)
          go_wp2_with fail
          refine (one_any 3 N b _ _ HS.out (by omega)).mono ?_
          rintro e w6 ⟨y, rfl, s6, g6⟩
          replace VR := Lib.hid (VR.out.grown g6 (by simp; omega))
          replace TB := Lib.hid (TB.out.grown g6 (by omega))
          replace HS := Lib.hid s6
          replace G := Lib.hid (grownBy_trans G.out g6)
          clear g6 s6
          cases y with
          | false =>
            replace HS := Lib.hid (HS.out.mono (Nat.le_refl _) (show _ ≤ k + 4 + 6 * (c + 1 - 97) by omega))
            go_wp2
            go_roundw
            case rel => exact ⟨c + 1, x, q, by omega, by omega, by go_num, by omega, by omega, by omega, fun _ => l5, TB, HS, G, VR⟩
            case measure => simp [intOf]; omega
          | true =>
            clear l5
            go_upto_region 9 with fail
            have hx : Below w6.heap.size w6 (w6.alloc (.cells #[.int .u8 (c : Int)] 5)) := (Below.refl _ _).alloc (Nat.le_refl _) _
            have hcv := conv_c w6 c (by omega)
            have c00 := TB.out.cell (i := 0) (v := .string x.letters) rfl
            replace VR := Lib.hid (VR.out.kept hx)
            replace TB := Lib.hid (TB.out.kept hx)
            replace HS := Lib.hid (HS.out.kept hx)
            replace G := Lib.hid (grown_below G.out hx)
            clear hx
            obtain ⟨hT, hA⟩ := TB.out.setL (x.letters ++ mkB [UInt8.ofNat c])
            have c0 := TB.out.cell (i := 0) (v := .string x.letters) rfl
            have f0 := TB.out.free 0
            have hlx : x.letters.size + 1 ≤ 9223372036854775807 := by omega
            have hly : (x.letters ++ mkB [UInt8.ofNat c]).size = x.letters.size + 1 := by rw [ByteArray.size_append, mkB_size]; rfl
            have hls : (mkB [UInt8.ofNat c]).size = 1 := by rw [mkB_size]; rfl
            go_upto_region 10 with fail
            clear c0 f0 hcv c00
            replace TB := Lib.hid hT
            replace VR := Lib.hid (Above.var hA VR.out (by omega))
            replace HS := Lib.hid (Above.src hA HS.out (by omega))
            replace G := Lib.hid (Above.grown hA G.out (by omega))
            clear hA
            clear hT
            generalize World.setCell _ ⟨B5, 0, none⟩ _ = wc at *
            obtain ⟨y, hy⟩ : ∃ y : Tls, y = { x with letters := x.letters ++ mkB [UInt8.ofNat c] } := ⟨_, rfl⟩
            rw [← hy] at TB
            have m1 : y.letters.size ≤ c - 97 + 1 := by rw [hy]; show (x.letters ++ mkB [UInt8.ofNat c]).size ≤ _; omega
            have m2 : y.values.length ≤ c - 97 := by rw [hy]; exact l2
            have m3 : y.counts.length ≤ c - 97 := by rw [hy]; exact l3
            clear hy l1 l2 l3 l4 hlx hly hls
            have hd : Below wc.heap.size wc wc.drew := (Below.refl _ _).drew
            replace VR := Lib.hid (VR.out.kept hd)
            replace TB := Lib.hid (TB.out.kept hd)
            replace HS := Lib.hid (HS.out.kept hd)
            replace G := Lib.hid (grown_below G.out hd)
            clear hd
            refine wp_region_G 5 (fun W => W.cell? ⟨B5, 1, none⟩ = some (.slice q.values.a y.values.length q.values.c)) (by kernel_rfl) (TB.out.cell (i := 1) rfl) (fun hHeld => ?_)
            clear hHeld
            generalize wc.drew = w6 at *
            refine slotG 0 38 (.pointer (some ⟨B5, 1, none⟩)) ?_ (hS := fun _ => TB.out.cell (i := 1) rfl)
            simp only [S3]
            refine slotL 1 39 (.slice q.values.a y.values.length q.values.c) ?_ (hw := waitsFor_of (by kernel_rfl)) (hq := by kernel_rfl) (hS := TB.out.cell (i := 1) rfl) (hy := Or.inl ⟨by rfl, fun w' hS => by have c9 : w'.cell? ⟨B5, 1, none⟩ = some (.slice q.values.a y.values.length q.values.c) := hS; go_simp⟩)
            simp only [S3]
            refine slotG 2 40 (.pointer (some ⟨b, 0, none⟩)) ?_ (hS := fun _ => TB.out.cell (i := 1) rfl)
            simp only [S3]
            refine oneG 3 (by kernel_rfl) rfl (fun K hK => ?_)
            go_simp
            refine (pick_any 12 N b _ _ HS.out (by omega)).mono ?_
            rintro e w7 ⟨z, ⟨z0, z1, _, _⟩, rfl, s7, g7⟩
            replace VR := Lib.hid (VR.out.grown g7 (by simp; omega))
            replace TB := Lib.hid (TB.out.grown g7 (by omega))
            replace HS := Lib.hid s7
            replace G := Lib.hid (grownBy_trans G.out g7)
            clear g7 s7
            clear z0 z1
            go_wp2_with fail
            refine hK.out _ _ (fun _ => TB.out.cell (i := 1) rfl) (fun hHeld => ?_)
            clear hK K hHeld
            refine oneG 4 (by kernel_rfl) rfl (fun K hK => ?_)
            have hx : Below w7.heap.size w7 (w7.alloc (.cells #[.int .i64 z] 2)) := (Below.refl _ _).alloc (Nat.le_refl _) _
            have KN := Lib.hid (new_i64 w7 z 2)
            replace VR := Lib.hid (VR.out.kept hx)
            replace TB := Lib.hid (TB.out.kept hx)
            replace HS := Lib.hid (HS.out.kept hx)
            replace G := Lib.hid (grown_below G.out hx)
            clear hx
            go_simp
            refine hK.out _ _ (fun _ => TB.out.cell (i := 1) rfl) (fun hHeld => ?_)
            clear hK K hHeld
            refine oneG 5 (by kernel_rfl) rfl (fun K hK => ?_)
            have hlt7 := TB.out.lt
            have hlo7 := TB.out.lo
            refine step_append_lies _ rfl (.tmp 39) (.tmp 42) 42 rfl (w.heap.size + 1) 2 i0 _ 1 8 Tryz.underlying42 hi0 hi1 hi2 hi3 rfl (by decide) _ y.values.length (y.values.flatMap I64.enc) (by rfl) TB.out.own.1 ⟨w7.heap.size, 0, none⟩ 1 1 (I64.enc z) (by rfl) rfl KN.out (i64_one z) (by decide) ?c1 ?c2 ?c3 _ rfl ?_
            case c1 => unfold maxLen; omega
            case c2 => omega
            case c3 => (first | omega | (simp only [World.size_alloc] at *; omega))
            intro g8 cap8 w8 hown hgr hwh hlt8
            obtain ⟨hT, hA, c9, f9⟩ := TB.out.addv hown hgr hwh
            clear hown hgr hwh hlt8 KN hlt7 hlo7
            go_simp
            refine hK.out _ _ (fun h => absurd h (by decide)) (fun hHeld => ?_)
            clear hK K hHeld
            refine slotG 6 44 (.pointer (some ⟨B5, 1, none⟩)) ?_ (hS := fun h => absurd h (by decide))
            simp only [S3]
            refine oneG 7 (by kernel_rfl) rfl (fun K hK => ?_)
            go_simp
            refine hK.out _ _ (fun h => absurd h (by decide)) (fun hHeld => ?_)
            clear hK K hHeld c9 f9
            replace TB := Lib.hid hT
            replace VR := Lib.hid (Above.var hA VR.out (by omega))
            replace HS := Lib.hid (Above.src hA HS.out (by omega))
            replace G := Lib.hid (Above.grown hA G.out (by omega))
            clear hA
            clear hT
            generalize World.setCell w8 ⟨B5, 1, none⟩ _ = w9 at *
            refine doneG (by kernel_rfl) ?_ _
            obtain ⟨q1, hq1⟩ : ∃ q1 : TlA, q1 = ⟨⟨some ⟨g8, 0, none⟩, cap8⟩, q.counts⟩ := ⟨_, rfl⟩
            obtain ⟨x1, hy⟩ : ∃ x1 : Tls, x1 = { y with values := y.values ++ [z] } := ⟨_, rfl⟩
            rw [← hy, ← hq1] at TB
            have n1 : x1.letters.size ≤ c - 97 + 1 := by rw [hy]; exact m1
            have n2 : x1.values.length ≤ c - 97 + 1 ∧ 1 ≤ x1.values.length := by rw [hy]; show (y.values ++ [z]).length ≤ _ ∧ 1 ≤ (y.values ++ [z]).length; rw [List.length_append]; simp; omega
            have n3 : x1.counts.length ≤ c - 97 := by rw [hy]; exact m3
            clear hy hq1 m1 m2 m3
            go_upto_region 11 with fail
            have hd : Below w9.heap.size w9 w9.drew := (Below.refl _ _).drew
            replace VR := Lib.hid (VR.out.kept hd)
            replace TB := Lib.hid (TB.out.kept hd)
            replace HS := Lib.hid (HS.out.kept hd)
            replace G := Lib.hid (grown_below G.out hd)
            clear hd
            refine wp_region_G 6 (fun W => W.cell? ⟨B5, 2, none⟩ = some (.slice q1.counts.a x1.counts.length q1.counts.c)) (by kernel_rfl) (TB.out.cell (i := 2) rfl) (fun hHeld => ?_)
            clear hHeld
            generalize w9.drew = w6 at *
            refine slotG 0 45 (.pointer (some ⟨B5, 2, none⟩)) ?_ (hS := fun _ => TB.out.cell (i := 2) rfl)
            simp only [S3]
            refine slotL 1 46 (.slice q1.counts.a x1.counts.length q1.counts.c) ?_ (hw := waitsFor_of (by kernel_rfl)) (hq := by kernel_rfl) (hS := TB.out.cell (i := 2) rfl) (hy := Or.inl ⟨by rfl, fun w' hS => by have c9 : w'.cell? ⟨B5, 2, none⟩ = some (.slice q1.counts.a x1.counts.length q1.counts.c) := hS; go_simp⟩)
            simp only [S3]
            refine slotG 2 47 (.pointer (some ⟨b, 0, none⟩)) ?_ (hS := fun _ => TB.out.cell (i := 2) rfl)
            simp only [S3]
            refine oneG 3 (by kernel_rfl) rfl (fun K hK => ?_)
            go_simp
            refine (pick_any 4 N b _ _ HS.out (by omega)).mono ?_
            rintro e w7 ⟨z, ⟨z0, z1, _, _⟩, rfl, s7, g7⟩
            replace VR := Lib.hid (VR.out.grown g7 (by simp; omega))
            replace TB := Lib.hid (TB.out.grown g7 (by omega))
            replace HS := Lib.hid s7
            replace G := Lib.hid (grownBy_trans G.out g7)
            clear g7 s7
            have z2 := z1 (by decide)
            have wz : IntKind.i64.wrap (1 + z) = 1 + z := IntWalk.i64_in _ (by omega)
            clear z1
            go_wp2_with fail
            refine hK.out _ _ (fun _ => TB.out.cell (i := 2) rfl) (fun hHeld => ?_)
            clear hK K hHeld
            refine slotG 4 49 (.int .i64 (1 + z)) ?_ (hS := fun _ => TB.out.cell (i := 2) rfl)
            simp only [S3]
            clear wz z0 z2
            generalize 1 + z = z at *
            refine oneG 5 (by kernel_rfl) rfl (fun K hK => ?_)
            have hx : Below w7.heap.size w7 (w7.alloc (.cells #[.int .i64 z] 2)) := (Below.refl _ _).alloc (Nat.le_refl _) _
            have KN := Lib.hid (new_i64 w7 z 2)
            replace VR := Lib.hid (VR.out.kept hx)
            replace TB := Lib.hid (TB.out.kept hx)
            replace HS := Lib.hid (HS.out.kept hx)
            replace G := Lib.hid (grown_below G.out hx)
            clear hx
            go_simp
            refine hK.out _ _ (fun _ => TB.out.cell (i := 2) rfl) (fun hHeld => ?_)
            clear hK K hHeld
            refine oneG 6 (by kernel_rfl) rfl (fun K hK => ?_)
            have hlt7 := TB.out.lt
            have hlo7 := TB.out.lo
            refine step_append_lies _ rfl (.tmp 46) (.tmp 50) 42 rfl (w.heap.size + 1) 2 i0 _ 1 8 Tryz.underlying42 hi0 hi1 hi2 hi3 rfl (by decide) _ x1.counts.length (x1.counts.flatMap I64.enc) (by rfl) TB.out.own.2 ⟨w7.heap.size, 0, none⟩ 1 1 (I64.enc z) (by rfl) rfl KN.out (i64_one z) (by decide) ?c1 ?c2 ?c3 _ rfl ?_
            case c1 => unfold maxLen; omega
            case c2 => omega
            case c3 => (first | omega | (simp only [World.size_alloc] at *; omega))
            intro g8 cap8 w8 hown hgr hwh hlt8
            obtain ⟨hT, hA, c9, f9⟩ := TB.out.addc hown hgr hwh
            clear hown hgr hwh hlt8 KN hlt7 hlo7
            go_simp
            refine hK.out _ _ (fun h => absurd h (by decide)) (fun hHeld => ?_)
            clear hK K hHeld
            refine slotG 7 52 (.pointer (some ⟨B5, 2, none⟩)) ?_ (hS := fun h => absurd h (by decide))
            simp only [S3]
            refine oneG 8 (by kernel_rfl) rfl (fun K hK => ?_)
            go_simp
            refine hK.out _ _ (fun h => absurd h (by decide)) (fun hHeld => ?_)
            clear hK K hHeld c9 f9
            replace TB := Lib.hid hT
            replace VR := Lib.hid (Above.var hA VR.out (by omega))
            replace HS := Lib.hid (Above.src hA HS.out (by omega))
            replace G := Lib.hid (Above.grown hA G.out (by omega))
            clear hA
            clear hT
            generalize World.setCell w8 ⟨B5, 2, none⟩ _ = w5 at *
            refine doneG (by kernel_rfl) ?_ _
            obtain ⟨q2, hq1⟩ : ∃ q2 : TlA, q2 = ⟨q1.values, ⟨some ⟨g8, 0, none⟩, cap8⟩⟩ := ⟨_, rfl⟩
            obtain ⟨x2, hy⟩ : ∃ x2 : Tls, x2 = { x1 with counts := x1.counts ++ [z] } := ⟨_, rfl⟩
            rw [← hy, ← hq1] at TB
            have p1 : x2.letters.size ≤ c + 1 - 97 := by rw [hy]; show x1.letters.size ≤ _; omega
            have p2 : x2.values.length ≤ c + 1 - 97 ∧ 1 ≤ x2.values.length := by rw [hy]; show x1.values.length ≤ _ ∧ 1 ≤ x1.values.length; omega
            have p3 : x2.counts.length ≤ c + 1 - 97 ∧ 1 ≤ x2.counts.length := by rw [hy]; show (x1.counts ++ [z]).length ≤ _ ∧ 1 ≤ (x1.counts ++ [z]).length; rw [List.length_append]; simp; omega
            clear hy hq1 n1 n2 n3
            replace HS := Lib.hid (HS.out.mono (Nat.le_refl _) (show _ ≤ k + 4 + 6 * (c + 1 - 97) by omega))
            go_wp2
            go_roundw
            case rel => exact ⟨c + 1, x2, q2, by omega, by omega, by go_num, p1, p2.1, p3.1, fun _ => ⟨p2.2, p3.2⟩, TB, HS, G, VR⟩
            case measure => simp [intOf]; omega
        · have h6I : ¬ (102 : Int) < (c : Int) := by omega
          go_upto_region 9 with fail
          have hx : Below wr.heap.size wr (wr.alloc (.cells #[.int .u8 (c : Int)] 5)) := (Below.refl _ _).alloc (Nat.le_refl _) _
          have hcv := conv_c wr c (by omega)
          have c00 := TB.out.cell (i := 0) (v := .string x.letters) rfl
          replace VR := Lib.hid (VR.out.kept hx)
          replace TB := Lib.hid (TB.out.kept hx)
          replace HS := Lib.hid (HS.out.kept hx)
          replace G := Lib.hid (grown_below G.out hx)
          clear hx
          obtain ⟨hT, hA⟩ := TB.out.setL (x.letters ++ mkB [UInt8.ofNat c])
          have c0 := TB.out.cell (i := 0) (v := .string x.letters) rfl
          have f0 := TB.out.free 0
          have hlx : x.letters.size + 1 ≤ 9223372036854775807 := by omega
          have hly : (x.letters ++ mkB [UInt8.ofNat c]).size = x.letters.size + 1 := by rw [ByteArray.size_append, mkB_size]; rfl
          have hls : (mkB [UInt8.ofNat c]).size = 1 := by rw [mkB_size]; rfl
          go_upto_region 10 with fail
          clear c0 f0 hcv c00
          replace TB := Lib.hid hT
          replace VR := Lib.hid (Above.var hA VR.out (by omega))
          replace HS := Lib.hid (Above.src hA HS.out (by omega))
          replace G := Lib.hid (Above.grown hA G.out (by omega))
          clear hA
          clear hT
          generalize World.setCell _ ⟨B5, 0, none⟩ _ = wc at *
          obtain ⟨y, hy⟩ : ∃ y : Tls, y = { x with letters := x.letters ++ mkB [UInt8.ofNat c] } := ⟨_, rfl⟩
          rw [← hy] at TB
          have m1 : y.letters.size ≤ c - 97 + 1 := by rw [hy]; show (x.letters ++ mkB [UInt8.ofNat c]).size ≤ _; omega
          have m2 : y.values.length ≤ c - 97 := by rw [hy]; exact l2
          have m3 : y.counts.length ≤ c - 97 := by rw [hy]; exact l3
          clear hy l1 l2 l3 l4 hlx hly hls
          have hd : Below wc.heap.size wc wc.drew := (Below.refl _ _).drew
          replace VR := Lib.hid (VR.out.kept hd)
          replace TB := Lib.hid (TB.out.kept hd)
          replace HS := Lib.hid (HS.out.kept hd)
          replace G := Lib.hid (grown_below G.out hd)
          clear hd
          refine wp_region_G 5 (fun W => W.cell? ⟨B5, 1, none⟩ = some (.slice q.values.a y.values.length q.values.c)) (by kernel_rfl) (TB.out.cell (i := 1) rfl) (fun hHeld => ?_)
          clear hHeld
          generalize wc.drew = w6 at *
          refine slotG 0 38 (.pointer (some ⟨B5, 1, none⟩)) ?_ (hS := fun _ => TB.out.cell (i := 1) rfl)
          simp only [S3]
          refine slotL 1 39 (.slice q.values.a y.values.length q.values.c) ?_ (hw := waitsFor_of (by kernel_rfl)) (hq := by kernel_rfl) (hS := TB.out.cell (i := 1) rfl) (hy := Or.inl ⟨by rfl, fun w' hS => by have c9 : w'.cell? ⟨B5, 1, none⟩ = some (.slice q.values.a y.values.length q.values.c) := hS; go_simp⟩)
          simp only [S3]
          refine slotG 2 40 (.pointer (some ⟨b, 0, none⟩)) ?_ (hS := fun _ => TB.out.cell (i := 1) rfl)
          simp only [S3]
          refine oneG 3 (by kernel_rfl) rfl (fun K hK => ?_)
          go_simp
          refine (pick_any 12 N b _ _ HS.out (by omega)).mono ?_
          rintro e w7 ⟨z, ⟨z0, z1, _, _⟩, rfl, s7, g7⟩
          replace VR := Lib.hid (VR.out.grown g7 (by simp; omega))
          replace TB := Lib.hid (TB.out.grown g7 (by omega))
          replace HS := Lib.hid s7
          replace G := Lib.hid (grownBy_trans G.out g7)
          clear g7 s7
          clear z0 z1
          go_wp2_with fail
          refine hK.out _ _ (fun _ => TB.out.cell (i := 1) rfl) (fun hHeld => ?_)
          clear hK K hHeld
          refine oneG 4 (by kernel_rfl) rfl (fun K hK => ?_)
          have hx : Below w7.heap.size w7 (w7.alloc (.cells #[.int .i64 z] 2)) := (Below.refl _ _).alloc (Nat.le_refl _) _
          have KN := Lib.hid (new_i64 w7 z 2)
          replace VR := Lib.hid (VR.out.kept hx)
          replace TB := Lib.hid (TB.out.kept hx)
          replace HS := Lib.hid (HS.out.kept hx)
          replace G := Lib.hid (grown_below G.out hx)
          clear hx
          go_simp
          refine hK.out _ _ (fun _ => TB.out.cell (i := 1) rfl) (fun hHeld => ?_)
          clear hK K hHeld
          refine oneG 5 (by kernel_rfl) rfl (fun K hK => ?_)
          have hlt7 := TB.out.lt
          have hlo7 := TB.out.lo
          refine step_append_lies _ rfl (.tmp 39) (.tmp 42) 42 rfl (w.heap.size + 1) 2 i0 _ 1 8 Tryz.underlying42 hi0 hi1 hi2 hi3 rfl (by decide) _ y.values.length (y.values.flatMap I64.enc) (by rfl) TB.out.own.1 ⟨w7.heap.size, 0, none⟩ 1 1 (I64.enc z) (by rfl) rfl KN.out (i64_one z) (by decide) ?c1 ?c2 ?c3 _ rfl ?_
          case c1 => unfold maxLen; omega
          case c2 => omega
          case c3 => (first | omega | (simp only [World.size_alloc] at *; omega))
          intro g8 cap8 w8 hown hgr hwh hlt8
          obtain ⟨hT, hA, c9, f9⟩ := TB.out.addv hown hgr hwh
          clear hown hgr hwh hlt8 KN hlt7 hlo7
          go_simp
          refine hK.out _ _ (fun h => absurd h (by decide)) (fun hHeld => ?_)
          clear hK K hHeld
          refine slotG 6 44 (.pointer (some ⟨B5, 1, none⟩)) ?_ (hS := fun h => absurd h (by decide))
          simp only [S3]
          refine oneG 7 (by kernel_rfl) rfl (fun K hK => ?_)
          go_simp
          refine hK.out _ _ (fun h => absurd h (by decide)) (fun hHeld => ?_)
          clear hK K hHeld c9 f9
          replace TB := Lib.hid hT
          replace VR := Lib.hid (Above.var hA VR.out (by omega))
          replace HS := Lib.hid (Above.src hA HS.out (by omega))
          replace G := Lib.hid (Above.grown hA G.out (by omega))
          clear hA
          clear hT
          generalize World.setCell w8 ⟨B5, 1, none⟩ _ = w9 at *
          refine doneG (by kernel_rfl) ?_ _
          obtain ⟨q1, hq1⟩ : ∃ q1 : TlA, q1 = ⟨⟨some ⟨g8, 0, none⟩, cap8⟩, q.counts⟩ := ⟨_, rfl⟩
          obtain ⟨x1, hy⟩ : ∃ x1 : Tls, x1 = { y with values := y.values ++ [z] } := ⟨_, rfl⟩
          rw [← hy, ← hq1] at TB
          have n1 : x1.letters.size ≤ c - 97 + 1 := by rw [hy]; exact m1
          have n2 : x1.values.length ≤ c - 97 + 1 ∧ 1 ≤ x1.values.length := by rw [hy]; show (y.values ++ [z]).length ≤ _ ∧ 1 ≤ (y.values ++ [z]).length; rw [List.length_append]; simp; omega
          have n3 : x1.counts.length ≤ c - 97 := by rw [hy]; exact m3
          clear hy hq1 m1 m2 m3
          go_upto_region 11 with fail
          have hd : Below w9.heap.size w9 w9.drew := (Below.refl _ _).drew
          replace VR := Lib.hid (VR.out.kept hd)
          replace TB := Lib.hid (TB.out.kept hd)
          replace HS := Lib.hid (HS.out.kept hd)
          replace G := Lib.hid (grown_below G.out hd)
          clear hd
          refine wp_region_G 6 (fun W => W.cell? ⟨B5, 2, none⟩ = some (.slice q1.counts.a x1.counts.length q1.counts.c)) (by kernel_rfl) (TB.out.cell (i := 2) rfl) (fun hHeld => ?_)
          clear hHeld
          generalize w9.drew = w6 at *
          refine slotG 0 45 (.pointer (some ⟨B5, 2, none⟩)) ?_ (hS := fun _ => TB.out.cell (i := 2) rfl)
          simp only [S3]
          refine slotL 1 46 (.slice q1.counts.a x1.counts.length q1.counts.c) ?_ (hw := waitsFor_of (by kernel_rfl)) (hq := by kernel_rfl) (hS := TB.out.cell (i := 2) rfl) (hy := Or.inl ⟨by rfl, fun w' hS => by have c9 : w'.cell? ⟨B5, 2, none⟩ = some (.slice q1.counts.a x1.counts.length q1.counts.c) := hS; go_simp⟩)
          simp only [S3]
          refine slotG 2 47 (.pointer (some ⟨b, 0, none⟩)) ?_ (hS := fun _ => TB.out.cell (i := 2) rfl)
          simp only [S3]
          refine oneG 3 (by kernel_rfl) rfl (fun K hK => ?_)
          go_simp
          refine (pick_any 4 N b _ _ HS.out (by omega)).mono ?_
          rintro e w7 ⟨z, ⟨z0, z1, _, _⟩, rfl, s7, g7⟩
          replace VR := Lib.hid (VR.out.grown g7 (by simp; omega))
          replace TB := Lib.hid (TB.out.grown g7 (by omega))
          replace HS := Lib.hid s7
          replace G := Lib.hid (grownBy_trans G.out g7)
          clear g7 s7
          have z2 := z1 (by decide)
          have wz : IntKind.i64.wrap (1 + z) = 1 + z := IntWalk.i64_in _ (by omega)
          clear z1
          go_wp2_with fail
          refine hK.out _ _ (fun _ => TB.out.cell (i := 2) rfl) (fun hHeld => ?_)
          clear hK K hHeld
          refine slotG 4 49 (.int .i64 (1 + z)) ?_ (hS := fun _ => TB.out.cell (i := 2) rfl)
          simp only [S3]
          clear wz z0 z2
          generalize 1 + z = z at *
          refine oneG 5 (by kernel_rfl) rfl (fun K hK => ?_)
          have hx : Below w7.heap.size w7 (w7.alloc (.cells #[.int .i64 z] 2)) := (Below.refl _ _).alloc (Nat.le_refl _) _
          have KN := Lib.hid (new_i64 w7 z 2)
          replace VR := Lib.hid (VR.out.kept hx)
          replace TB := Lib.hid (TB.out.kept hx)
          replace HS := Lib.hid (HS.out.kept hx)
          replace G := Lib.hid (grown_below G.out hx)
          clear hx
          go_simp
          refine hK.out _ _ (fun _ => TB.out.cell (i := 2) rfl) (fun hHeld => ?_)
          clear hK K hHeld
          refine oneG 6 (by kernel_rfl) rfl (fun K hK => ?_)
          have hlt7 := TB.out.lt
          have hlo7 := TB.out.lo
          refine step_append_lies _ rfl (.tmp 46) (.tmp 50) 42 rfl (w.heap.size + 1) 2 i0 _ 1 8 Tryz.underlying42 hi0 hi1 hi2 hi3 rfl (by decide) _ x1.counts.length (x1.counts.flatMap I64.enc) (by rfl) TB.out.own.2 ⟨w7.heap.size, 0, none⟩ 1 1 (I64.enc z) (by rfl) rfl KN.out (i64_one z) (by decide) ?c1 ?c2 ?c3 _ rfl ?_
          case c1 => unfold maxLen; omega
          case c2 => omega
          case c3 => (first | omega | (simp only [World.size_alloc] at *; omega))
          intro g8 cap8 w8 hown hgr hwh hlt8
          obtain ⟨hT, hA, c9, f9⟩ := TB.out.addc hown hgr hwh
          clear hown hgr hwh hlt8 KN hlt7 hlo7
          go_simp
          refine hK.out _ _ (fun h => absurd h (by decide)) (fun hHeld => ?_)
          clear hK K hHeld
          refine slotG 7 52 (.pointer (some ⟨B5, 2, none⟩)) ?_ (hS := fun h => absurd h (by decide))
          simp only [S3]
          refine oneG 8 (by kernel_rfl) rfl (fun K hK => ?_)
          go_simp
          refine hK.out _ _ (fun h => absurd h (by decide)) (fun hHeld => ?_)
          clear hK K hHeld c9 f9
          replace TB := Lib.hid hT
          replace VR := Lib.hid (Above.var hA VR.out (by omega))
          replace HS := Lib.hid (Above.src hA HS.out (by omega))
          replace G := Lib.hid (Above.grown hA G.out (by omega))
          clear hA
          clear hT
          generalize World.setCell w8 ⟨B5, 2, none⟩ _ = w5 at *
          refine doneG (by kernel_rfl) ?_ _
          obtain ⟨q2, hq1⟩ : ∃ q2 : TlA, q2 = ⟨q1.values, ⟨some ⟨g8, 0, none⟩, cap8⟩⟩ := ⟨_, rfl⟩
          obtain ⟨x2, hy⟩ : ∃ x2 : Tls, x2 = { x1 with counts := x1.counts ++ [z] } := ⟨_, rfl⟩
          rw [← hy, ← hq1] at TB
          have p1 : x2.letters.size ≤ c + 1 - 97 := by rw [hy]; show x1.letters.size ≤ _; omega
          have p2 : x2.values.length ≤ c + 1 - 97 ∧ 1 ≤ x2.values.length := by rw [hy]; show x1.values.length ≤ _ ∧ 1 ≤ x1.values.length; omega
          have p3 : x2.counts.length ≤ c + 1 - 97 ∧ 1 ≤ x2.counts.length := by rw [hy]; show (x1.counts ++ [z]).length ≤ _ ∧ 1 ≤ (x1.counts ++ [z]).length; rw [List.length_append]; simp; omega
          clear hy hq1 n1 n2 n3
          replace HS := Lib.hid (HS.out.mono (Nat.le_refl _) (show _ ≤ k + 4 + 6 * (c + 1 - 97) by omega))
          go_wp2
          go_roundw
          case rel => exact ⟨c + 1, x2, q2, by omega, by omega, by go_num, p1, p2.1, p3.1, fun _ => ⟨p2.2, p3.2⟩, TB, HS, G, VR⟩
          case measure => simp [intOf]; omega
      · have hltI : ¬ (c : Int) ≤ 122 := by omega
        have l5 := l4 (by omega)
        have c0 := TB.out.cell (i := 0) (v := .string x.letters) rfl
        have c1 := TB.out.cell (i := 1) (v := .slice q.values.a x.values.length q.values.c) rfl
        have c2 := TB.out.cell (i := 2) (v := .slice q.counts.a x.counts.length q.counts.c) rfl
        have c3 := TB.out.cell (i := 3) (v := .int .i64 x.blanks) rfl
        have y0 := VR.out.cell (i := 0) rfl
        have y1 := VR.out.cell (i := 1) rfl
        have y2 := VR.out.cell (i := 2) rfl
        have y3 := VR.out.cell (i := 3) rfl
        have f0 := VR.out.free 0
        have f1 := VR.out.free 1
        have f2 := VR.out.free 2
        have f3 := VR.out.free 3
        obtain ⟨o0, k0⟩ := VR.out.set 0 (.string x.letters)
        obtain ⟨o1, k1⟩ := o0.set 1 (.slice q.values.a x.values.length q.values.c)
        obtain ⟨o2, k2⟩ := o1.set 2 (.slice q.counts.a x.counts.length q.counts.c)
        obtain ⟨o3, k3⟩ := o2.set 3 (.int .i64 x.blanks)
        have GG := grownBy_trans (grownBy_trans (grownBy_trans k0 k1) k2) k3
        have e0 := o3.cell (i := 0) (v := .string x.letters) rfl
        have e1 := o3.cell (i := 1) (v := .slice q.values.a x.values.length q.values.c) rfl
        have e2 := o3.cell (i := 2) (v := .slice q.counts.a x.counts.length q.counts.c) rfl
        have e3 := o3.cell (i := 3) (v := .int .i64 x.blanks) rfl
        have HF := Lib.hid (Tls.Own.mono (Tls.Own.store TB.out.own GG (by omega)) (show w.heap.size ≤ w.heap.size + 1 by omega))
        have HO := Lib.hid TB.out.off
        replace HS := Lib.hid (HS.out.grown GG (fun g e => by cases e; exact hN))
        replace G := Lib.hid (grown_over G.out GG (Nat.le_refl _))
        clear o0 o1 o2 o3 k0 k1 k2 k3 GG TB VR
        go_wp2
        refine bodyPost_ret (v := .agg #[.string x.letters, .slice q.values.a x.values.length q.values.c, .slice q.counts.a x.counts.length q.counts.c, .int .i64 x.blanks]) (by simp [results, Tryz.results248, go_sem, e0, e1, e2, e3]) rfl ?_
        exact ⟨x, q, rfl, by omega, by omega, by omega, l5.1, l5.2, HF.out, HO.out, HS.out.mono (Nat.le_refl _) (by omega), G.out⟩
end Go.Proofs.YtjdcdhhbgijaoaaGreatDoor
namespace Go.Proofs.YtjdcdhhbgijaoaaGreatDoor
open Go.ChangeShapes Go.WideShapes Go.ChangeAt Go.RowKit Go.Sort

def one1 : List Int := [-1, 20, 21]
def one2 : List Int := [0, 20, 21]
def one3 : List Int := [-1, 4, 5]
def one5 : List Int := [10, 12, 5]
theorem own_at1 {w : World} {base g cap n : Nat} {ms : List Int} (h : w.ownsRow base 2 1 (.slice (some ⟨g, 0, none⟩) n cap) n (ms.flatMap I64.enc)) (hn : ms.length = n) {i : Nat} (hi : i < ms.length) : w.cell? ⟨g, i, none⟩ = some (.int .i64 ms[i]) := by
  subst hn
  have := own_cells (enc := I64.enc) (fun _ => rfl) h rfl (i := i) hi (j := 0) (v := .int .i64 ms[i]) rfl
  simpa using this
def bentLetters : List ByteArray := [⟨#[122]⟩, ⟨#[97]⟩, ⟨#[65]⟩, ⟨#[63]⟩]
theorem bentLetter {s : ByteArray} (h : s ∈ bentLetters) : s.size = 1 := by
  unfold bentLetters at h
  simp only [List.mem_cons, List.not_mem_nil, or_false] at h
  rcases h with rfl | rfl | rfl | rfl <;> rfl
set_option maxRecDepth 100000 in
set_option maxHeartbeats 8000000 in
theorem l02Bent_any (N b k : Nat) (w : World) (hs : SrcAt w N b k) (hk : k < 268435456) (hN : N ≤ w.heap.size) :
    Calls Tryz.prog 194 #[.pointer (some ⟨b, 0, none⟩)] w (TlDrawn 0 31 w N b (k + 300)) := by
  obtain ⟨i0, hi0, hi1, hi2, hi3⟩ := info_parts infoI64
  have hbN := hs.lt
  have hb : Below w.heap.size w (w.alloc (.cells #[.string ⟨#[]⟩, .slice none 0 0, .slice none 0 0, .int .i64 0] 44)) := (Below.refl _ _).alloc (Nat.le_refl _) _
  have HS := Lib.hid (hs.kept hb)
  have G := Lib.hid (grown_of_below (row := some b) hb)
  have VR := Lib.hid (VarAt.new w 44 [.string ⟨#[]⟩, .slice none 0 0, .slice none 0 0, .int .i64 0])
  clear hs hb
  go_enter Tryz.func194, Tryz.ntmps194
  go_upto_region 1 with fail
  have hz1 : w.heap.size + 1 ≤ (w.alloc (.cells #[.string ⟨#[]⟩, .slice none 0 0, .slice none 0 0, .int .i64 0] 44)).heap.size := by simp
  generalize w.alloc (.cells #[.string ⟨#[]⟩, .slice none 0 0, .slice none 0 0, .int .i64 0] 44) = w1 at *
  go_wp2_with fail
  refine (l02Draw_any N b _ w1 HS.out (by omega) (by omega)).mono ?_
  rintro e w2 ⟨x, q, rfl, l1, l2, l3, l4, l5, hat, hoff, s2, g2⟩
  have hz2 : w.heap.size + 1 ≤ w2.heap.size := Nat.le_trans hz1 g2.size
  have hx : Below w2.heap.size w2 (w2.alloc (.cells #[.string x.letters, .slice q.values.a x.values.length q.values.c, .slice q.counts.a x.counts.length q.counts.c, .int .i64 x.blanks] 44)) := (Below.refl _ _).alloc (Nat.le_refl _) _
  have TB := Lib.hid (TBoy.new w2 hat hoff hz2 hz1)
  replace VR := Lib.hid ((VR.out.grown g2 (by simp; omega)).kept hx)
  replace HS := Lib.hid (s2.kept hx)
  replace G := Lib.hid (grown_below (grownBy_trans G.out g2) hx)
  clear hx hat hoff s2 g2 hz1 hz2
  go_upto_region 2 with fail
  generalize w2.alloc (.cells #[.string x.letters, .slice q.values.a x.values.length q.values.c, .slice q.counts.a x.counts.length q.counts.c, .int .i64 x.blanks] 44) = w3 at *
  generalize w2.heap.size = B5 at *
  go_wp2_with fail
  refine (pick_any 20 N b _ _ HS.out (by omega)).mono ?_
  rintro e w4 ⟨v, ⟨v0, v1, _, _⟩, rfl, s4, g4⟩
  have v2 := v1 (by decide)
  replace VR := Lib.hid (VR.out.grown g4 (by simp; omega))
  replace TB := Lib.hid (TB.out.grown g4 (by omega))
  replace HS := Lib.hid s4
  replace G := Lib.hid (grownBy_trans G.out g4)
  clear g4 s4
  clear v1
  obtain ⟨gv, hgv, _⟩ := own_block TB.out.own.1 (by omega)
  obtain ⟨gc, hgc, _⟩ := own_block TB.out.own.2 (by omega)
  go_upto_block 0 with fail
  go_cut [] (fun wx => ∃ (x : Tls) (q : TlA), x.letters.size ≤ 31 ∧ x.values.length ≤ 31 ∧ x.counts.length ≤ 31 ∧ Hid (TBoy wx (w.heap.size + 1) B5 x q) ∧ Hid (SrcAt wx N b (k + 300)) ∧ Hid (w.grownBy wx (some b)) ∧ Hid (VarAt wx w.heap.size 44 [.string ⟨#[]⟩, .slice none 0 0, .slice none 0 0, .int .i64 0]))
  case first =>
    by_cases h0 : v = 0
    · subst h0
      clear hgv hgc
      go_upto_region 4 with fail
      have hd : Below w4.heap.size w4 w4.drew := (Below.refl _ _).drew
      replace VR := Lib.hid (VR.out.kept hd)
      replace TB := Lib.hid (TB.out.kept hd)
      replace HS := Lib.hid (HS.out.kept hd)
      replace G := Lib.hid (grown_below G.out hd)
      clear hd
      refine wp_region_G 5 (fun W => W.cell? ⟨B5, 0, none⟩ = some (.string x.letters)) (by kernel_rfl) (TB.out.cell (i := 0) rfl) (fun hHeld => ?_)
      clear hHeld
      generalize w4.drew = w6 at *
      refine slotG 0 11 (.pointer (some ⟨B5, 0, none⟩)) ?_ (hS := fun _ => TB.out.cell (i := 0) rfl)
      simp only [S3]
      refine slotL 1 12 (.string x.letters) ?_ (hw := waitsFor_of (by kernel_rfl)) (hq := by kernel_rfl) (hS := TB.out.cell (i := 0) rfl) (hy := Or.inl ⟨by rfl, fun w' hS => by have c9 : w'.cell? ⟨B5, 0, none⟩ = some (.string x.letters) := hS; go_simp⟩)
      simp only [S3]
      refine slotG 2 13 (.pointer (some ⟨b, 0, none⟩)) ?_ (hS := fun _ => TB.out.cell (i := 0) rfl)
      simp only [S3]
      refine oneG 3 (by kernel_rfl) rfl (fun K hK => ?_)
      have hx : Below w6.heap.size w6 (w6.alloc (.cells (bentLetters.flatMap Str.enc).toArray 9)) := (Below.refl _ _).alloc (Nat.le_refl _) _
      have HC := Lib.hid (cells_new (enc := Str.enc) (sz := 1) (fun _ => rfl) w6 bentLetters 9)
      have hlt6 := TB.out.lt
      have hlo6 := TB.out.lo
      replace VR := Lib.hid (VR.out.kept hx)
      replace TB := Lib.hid (TB.out.kept hx)
      replace HS := Lib.hid (HS.out.kept hx)
      replace G := Lib.hid (grown_below G.out hx)
      clear hx
      go_simp
      refine hK.out _ _ (fun _ => TB.out.cell (i := 0) rfl) (fun hHeld => ?_)
      clear hK K hHeld
      refine oneG 4 (by kernel_rfl) rfl (fun K hK => ?_)
      go_simp
      refine (text_any bentLetters w6.heap.size 4 N b _ _ HS.out (by omega) HC.out (by decide) (by decide) (by omega)).mono ?_
      rintro e w7 ⟨y, hyx, rfl, s7, g7⟩
      replace VR := Lib.hid (VR.out.grown g7 (by simp; omega))
      replace TB := Lib.hid (TB.out.grown g7 (by omega))
      replace HS := Lib.hid s7
      replace G := Lib.hid (grownBy_trans G.out g7)
      clear g7 s7
      have hys := bentLetter hyx
      clear hyx HC hlt6 hlo6
      go_wp2_with fail
      refine hK.out _ _ (fun _ => TB.out.cell (i := 0) rfl) (fun hHeld => ?_)
      clear hK K hHeld
      have hly : ¬ 9223372036854775807 < x.letters.size + y.size := by omega
      have hly1 : ¬ 9223372036854775807 < x.letters.size + 1 := by omega
      refine oneG 5 (by kernel_rfl) rfl (fun K hK => ?_)
      go_simp
      refine hK.out _ _ (fun h => absurd h (by decide)) (fun hHeld => ?_)
      clear hK K hHeld
      refine slotG 6 17 (.pointer (some ⟨B5, 0, none⟩)) ?_ (hS := fun h => absurd h (by decide))
      simp only [S3]
      refine oneG 7 (by kernel_rfl) rfl (fun K hK => ?_)
      have c0 := TB.out.cell (i := 0) rfl
      have f0 := TB.out.free 0
      obtain ⟨hT, hA⟩ := TB.out.setL (x.letters ++ y)
      go_simp
      refine hK.out _ _ (fun h => absurd h (by decide)) (fun hHeld => ?_)
      clear hK K hHeld c0 f0
      replace TB := Lib.hid hT
      replace VR := Lib.hid (Above.var hA VR.out (by omega))
      replace HS := Lib.hid (Above.src hA HS.out (by omega))
      replace G := Lib.hid (Above.grown hA G.out (by omega))
      clear hA
      clear hT
      generalize World.setCell w7 ⟨B5, 0, none⟩ _ = wq at *
      refine doneG (by kernel_rfl) ?_ _
      obtain ⟨z, hz⟩ : ∃ z : Tls, z = { x with letters := x.letters ++ y } := ⟨_, rfl⟩
      rw [← hz] at TB
      have m1 : z.letters.size ≤ 31 := by rw [hz]; show (x.letters ++ y).size ≤ 31; rw [ByteArray.size_append]; omega
      have m2 : z.values.length ≤ 30 := by rw [hz]; exact l2
      have m3 : z.counts.length ≤ 30 := by rw [hz]; exact l3
      clear hz l1 l2 l3 l4 l5 hly hly1 hys
      generalize z = x at *
      go_upto_region 5 with fail
      have hx : Below wq.heap.size wq (wq.alloc (.cells #[.int .i64 1] 2)) := (Below.refl _ _).alloc (Nat.le_refl _) _
      have KN := Lib.hid (new_i64 wq 1 2)
      have c1 := TB.out.cell (i := 1) rfl
      have hgx : w.heap.size + 1 ≤ (wq.alloc (.cells #[.int .i64 1] 2)).heap.size := by have := TB.out.lt; have := TB.out.lo; simp only [World.size_alloc]; omega
      replace VR := Lib.hid (VR.out.kept hx)
      replace TB := Lib.hid (TB.out.kept hx)
      replace HS := Lib.hid (HS.out.kept hx)
      replace G := Lib.hid (grown_below G.out hx)
      clear hx
      go_wp2_with (at_builtin; go_must (refine wpList_append_lies _ rfl (.tmp 19) (.tmp 20) 42 rfl (w.heap.size + 1) 2 i0 _ 1 8 Tryz.underlying42 hi0 hi1 hi2 hi3 rfl (by decide) _ x.values.length (x.values.flatMap I64.enc) (by rfl) TB.out.own.1 ⟨wq.heap.size, 0, none⟩ 1 1 (I64.enc 1) (by rfl) rfl KN.out (i64_one 1) (by decide) ?c1 ?c2 hgx _ rfl ?_))
      case c1 => unfold maxLen; omega
      case c2 => omega
      intro g8 cap8 w8 hown hgr hwh hlt8
      obtain ⟨hT, hA, c9, f9⟩ := TB.out.addv hown hgr (hwh.imp_right (fun e => e.trans (by simp)))
      clear hown hgr hwh hlt8 KN c1 hgx
      go_upto_region 6 with fail
      clear c9 f9
      replace TB := Lib.hid hT
      replace VR := Lib.hid (Above.var hA VR.out (by omega))
      replace HS := Lib.hid (Above.src hA HS.out (by omega))
      replace G := Lib.hid (Above.grown hA G.out (by omega))
      clear hA
      clear hT
      generalize World.setCell w8 ⟨B5, 1, none⟩ _ = wq2 at *
      obtain ⟨q1, hq1⟩ : ∃ q1 : TlA, q1 = ⟨⟨some ⟨g8, 0, none⟩, cap8⟩, q.counts⟩ := ⟨_, rfl⟩
      obtain ⟨x1, hz⟩ : ∃ y : Tls, y = { x with values := x.values ++ [1] } := ⟨_, rfl⟩
      rw [← hz, ← hq1] at TB
      have n1 : x1.letters.size ≤ 31 := by rw [hz]; exact m1
      have n2 : x1.values.length ≤ 31 := by rw [hz]; show (x.values ++ [1]).length ≤ _; rw [List.length_append]; simp; omega
      have n3 : x1.counts.length ≤ 30 := by rw [hz]; exact m3
      clear hz hq1 m1 m2 m3
      generalize x1 = x at *
      generalize q1 = q at *
      have hx : Below wq2.heap.size wq2 (wq2.alloc (.cells #[.int .i64 1] 2)) := (Below.refl _ _).alloc (Nat.le_refl _) _
      have KN := Lib.hid (new_i64 wq2 1 2)
      have c1 := TB.out.cell (i := 2) rfl
      have hgx : w.heap.size + 1 ≤ (wq2.alloc (.cells #[.int .i64 1] 2)).heap.size := by have := TB.out.lt; have := TB.out.lo; simp only [World.size_alloc]; omega
      replace VR := Lib.hid (VR.out.kept hx)
      replace TB := Lib.hid (TB.out.kept hx)
      replace HS := Lib.hid (HS.out.kept hx)
      replace G := Lib.hid (grown_below G.out hx)
      clear hx
      go_wp2_with (at_builtin; go_must (refine wpList_append_lies _ rfl (.tmp 24) (.tmp 25) 42 rfl (w.heap.size + 1) 2 i0 _ 1 8 Tryz.underlying42 hi0 hi1 hi2 hi3 rfl (by decide) _ x.counts.length (x.counts.flatMap I64.enc) (by rfl) TB.out.own.2 ⟨wq2.heap.size, 0, none⟩ 1 1 (I64.enc 1) (by rfl) rfl KN.out (i64_one 1) (by decide) ?c1 ?c2 hgx _ rfl ?_))
      case c1 => unfold maxLen; omega
      case c2 => omega
      intro g8 cap8 w8 hown hgr hwh hlt8
      obtain ⟨hT, hA, c9, f9⟩ := TB.out.addc hown hgr (hwh.imp_right (fun e => e.trans (by simp)))
      clear hown hgr hwh hlt8 KN c1 hgx
      go_wp2_with fail
      replace TB := Lib.hid hT
      replace VR := Lib.hid (Above.var hA VR.out (by omega))
      replace HS := Lib.hid (Above.src hA HS.out (by omega))
      replace G := Lib.hid (Above.grown hA G.out (by omega))
      clear hA
      go_meet
      exact ⟨{ x with counts := x.counts ++ [1] }, _, n1, n2, by show (x.counts ++ [1]).length ≤ 31; rw [List.length_append]; simp; omega, TB, Lib.hid (HS.out.mono (Nat.le_refl _) (by omega)), G, VR⟩
    · by_cases h1 : v = 1
      · subst h1
        go_upto_region 8 with fail
        have hne : 0 < x.values.length := by omega
        have hneI : (0 : Int) < (x.values.length : Int) := by omega
        have hd : Below w4.heap.size w4 w4.drew := (Below.refl _ _).drew
        replace VR := Lib.hid (VR.out.kept hd)
        replace TB := Lib.hid (TB.out.kept hd)
        replace HS := Lib.hid (HS.out.kept hd)
        replace G := Lib.hid (grown_below G.out hd)
        clear hd
        have hS : w4.drew.cell? ⟨B5, 1, none⟩ = some (.slice (some ⟨gv, 0, none⟩) x.values.length q.values.c) := by have := TB.out.cell (i := 1) (v := .slice q.values.a x.values.length q.values.c) rfl; rwa [hgv] at this
        refine wp_region_held_drew (S := fun W => W.cell? ⟨B5, 1, none⟩ = some (.slice (some ⟨gv, 0, none⟩) x.values.length q.values.c)) (by kernel_rfl) hS (fun hHeld => ?_)
        generalize w4.drew = w6 at *
        refine slotA 0 30 (.pointer (some ⟨B5, 1, none⟩)) ?_
        simp only [S3]
        refine slotA 1 31 (.slice (some ⟨gv, 0, none⟩) x.values.length q.values.c) ?_ (hy := Or.inl ⟨by rfl, fun w' hS => by have c9 : w'.cell? ⟨B5, 1, none⟩ = some (.slice (some ⟨gv, 0, none⟩) x.values.length q.values.c) := hS; go_simp⟩)
        simp only [S3]
        refine slotA 2 32 (.pointer (some ⟨b, 0, none⟩)) ?_
        simp only [S3]
        refine wpAnyH_ready (rs := [3]) (by kernel_rfl) (by simp) ?_
        refine AllReadyH.cons (o := _) rfl (fun K hK => ?_) AllReadyH.nil
        have hx : Below w6.heap.size w6 (w6.alloc (.cells (one1.flatMap I64.enc).toArray 2)) := (Below.refl _ _).alloc (Nat.le_refl _) _
        have HC := Lib.hid (cells_new (enc := I64.enc) (sz := 1) (fun _ => rfl) w6 one1 2)
        have hlt6 := TB.out.lt
        have hlo6 := TB.out.lo
        have hS2 := cell_kept hS hx
        replace VR := Lib.hid (VR.out.kept hx)
        replace TB := Lib.hid (TB.out.kept hx)
        replace HS := Lib.hid (HS.out.kept hx)
        replace G := Lib.hid (grown_below G.out hx)
        clear hx
        go_simp
        refine hK.out _ _ hS2 (fun hHeld2 => ?_)
        clear hK K hHeld hS
        refine wpAnyH_ready (rs := [4]) (by kernel_rfl) (by simp) ?_
        refine AllReadyH.cons (o := _) rfl (fun K hK => ?_) AllReadyH.nil
        go_simp
        refine (among_any one1 w6.heap.size 3 N b _ _ HS.out (by omega) HC.out (by decide) (by decide) (by omega)).mono ?_
        rintro e w7 ⟨y, hyx, rfl, s7, g7⟩
        have hS3 := g7.cell hS2 (by simp; omega)
        replace VR := Lib.hid (VR.out.grown g7 (by simp; omega))
        replace TB := Lib.hid (TB.out.grown g7 (by omega))
        replace HS := Lib.hid s7
        replace G := Lib.hid (grownBy_trans G.out g7)
        clear g7 s7
        clear hyx HC hlt6 hS2 hHeld2
        go_wp2_with fail
        refine hK.out _ _ hS3 (fun hHeld => ?_)
        clear hK K
        refine slotA 5 35 (.pointer (some ⟨gv, 0, none⟩)) ?_
        simp only [S3]
        obtain ⟨hT, hA⟩ := TB.out.putv hgv 0 y hne
        have hrow := TB.out.own.1
        rw [hgv] at hrow
        have c0 := own_at1 hrow rfl (i := 0) hne
        have f0 := World.ownsRow.frozenAt hrow 0
        have hS4 : (w7.setCell ⟨gv, 0, none⟩ (.int .i64 y)).cell? ⟨B5, 1, none⟩ = some (.slice (some ⟨gv, 0, none⟩) x.values.length q.values.c) := by have := hT.cell (i := 1) (v := .slice q.values.a (x.values.set 0 y).length q.values.c) rfl; rwa [hgv, List.length_set] at this
        clear hrow
        refine wpAnyH_ready (rs := [6]) (by kernel_rfl) (by simp) ?_
        refine AllReadyH.cons (o := _) rfl (fun K hK => ?_) AllReadyH.nil
        go_simp
        refine hK.out _ _ hS4 (fun hHeld2 => ?_)
        clear hK K hHeld hHeld2 hS3 hS4 c0 f0 hne hneI
        replace TB := Lib.hid hT
        replace VR := Lib.hid (Above.var hA VR.out (by omega))
        replace HS := Lib.hid (Above.src hA HS.out (by omega))
        replace G := Lib.hid (Above.grown hA G.out (by omega))
        clear hA
        clear hT
        generalize World.setCell w7 ⟨gv, 0, none⟩ _ = w9 at *
        refine wpAnyH_done (by kernel_rfl) ?_ _
        go_wp2_with fail
        go_meet
        exact ⟨_, _, by show x.letters.size ≤ 31; omega, by show (x.values.set 0 y).length ≤ 31; rw [List.length_set]; omega, by show x.counts.length ≤ 31; omega, TB, Lib.hid (HS.out.mono (Nat.le_refl _) (by omega)), G, VR⟩
      · by_cases h2 : v = 2
        · subst h2
          go_upto_region 10 with fail
          have hne : 0 < x.counts.length := by omega
          have hneI : (0 : Int) < (x.counts.length : Int) := by omega
          have hd : Below w4.heap.size w4 w4.drew := (Below.refl _ _).drew
          replace VR := Lib.hid (VR.out.kept hd)
          replace TB := Lib.hid (TB.out.kept hd)
          replace HS := Lib.hid (HS.out.kept hd)
          replace G := Lib.hid (grown_below G.out hd)
          clear hd
          have hS : w4.drew.cell? ⟨B5, 2, none⟩ = some (.slice (some ⟨gc, 0, none⟩) x.counts.length q.counts.c) := by have := TB.out.cell (i := 2) (v := .slice q.counts.a x.counts.length q.counts.c) rfl; rwa [hgc] at this
          refine wp_region_held_drew (S := fun W => W.cell? ⟨B5, 2, none⟩ = some (.slice (some ⟨gc, 0, none⟩) x.counts.length q.counts.c)) (by kernel_rfl) hS (fun hHeld => ?_)
          generalize w4.drew = w6 at *
          refine slotA 0 38 (.pointer (some ⟨B5, 2, none⟩)) ?_
          simp only [S3]
          refine slotA 1 39 (.slice (some ⟨gc, 0, none⟩) x.counts.length q.counts.c) ?_ (hy := Or.inl ⟨by rfl, fun w' hS => by have c9 : w'.cell? ⟨B5, 2, none⟩ = some (.slice (some ⟨gc, 0, none⟩) x.counts.length q.counts.c) := hS; go_simp⟩)
          simp only [S3]
          refine slotA 2 40 (.pointer (some ⟨b, 0, none⟩)) ?_
          simp only [S3]
          refine wpAnyH_ready (rs := [3]) (by kernel_rfl) (by simp) ?_
          refine AllReadyH.cons (o := _) rfl (fun K hK => ?_) AllReadyH.nil
          have hx : Below w6.heap.size w6 (w6.alloc (.cells (one2.flatMap I64.enc).toArray 2)) := (Below.refl _ _).alloc (Nat.le_refl _) _
          have HC := Lib.hid (cells_new (enc := I64.enc) (sz := 1) (fun _ => rfl) w6 one2 2)
          have hlt6 := TB.out.lt
          have hlo6 := TB.out.lo
          have hS2 := cell_kept hS hx
          replace VR := Lib.hid (VR.out.kept hx)
          replace TB := Lib.hid (TB.out.kept hx)
          replace HS := Lib.hid (HS.out.kept hx)
          replace G := Lib.hid (grown_below G.out hx)
          clear hx
          go_simp
          refine hK.out _ _ hS2 (fun hHeld2 => ?_)
          clear hK K hHeld hS
          refine wpAnyH_ready (rs := [4]) (by kernel_rfl) (by simp) ?_
          refine AllReadyH.cons (o := _) rfl (fun K hK => ?_) AllReadyH.nil
          go_simp
          refine (among_any one2 w6.heap.size 3 N b _ _ HS.out (by omega) HC.out (by decide) (by decide) (by omega)).mono ?_
          rintro e w7 ⟨y, hyx, rfl, s7, g7⟩
          have hS3 := g7.cell hS2 (by simp; omega)
          replace VR := Lib.hid (VR.out.grown g7 (by simp; omega))
          replace TB := Lib.hid (TB.out.grown g7 (by omega))
          replace HS := Lib.hid s7
          replace G := Lib.hid (grownBy_trans G.out g7)
          clear g7 s7
          clear hyx HC hlt6 hS2 hHeld2
          go_wp2_with fail
          refine hK.out _ _ hS3 (fun hHeld => ?_)
          clear hK K
          refine slotA 5 43 (.pointer (some ⟨gc, 0, none⟩)) ?_
          simp only [S3]
          obtain ⟨hT, hA⟩ := TB.out.putc hgc 0 y hne
          have hrow := TB.out.own.2
          rw [hgc] at hrow
          have c0 := own_at1 hrow rfl (i := 0) hne
          have f0 := World.ownsRow.frozenAt hrow 0
          have hS4 : (w7.setCell ⟨gc, 0, none⟩ (.int .i64 y)).cell? ⟨B5, 2, none⟩ = some (.slice (some ⟨gc, 0, none⟩) x.counts.length q.counts.c) := by have := hT.cell (i := 2) (v := .slice q.counts.a (x.counts.set 0 y).length q.counts.c) rfl; rwa [hgc, List.length_set] at this
          clear hrow
          refine wpAnyH_ready (rs := [6]) (by kernel_rfl) (by simp) ?_
          refine AllReadyH.cons (o := _) rfl (fun K hK => ?_) AllReadyH.nil
          go_simp
          refine hK.out _ _ hS4 (fun hHeld2 => ?_)
          clear hK K hHeld hHeld2 hS3 hS4 c0 f0 hne hneI
          replace TB := Lib.hid hT
          replace VR := Lib.hid (Above.var hA VR.out (by omega))
          replace HS := Lib.hid (Above.src hA HS.out (by omega))
          replace G := Lib.hid (Above.grown hA G.out (by omega))
          clear hA
          clear hT
          generalize World.setCell w7 ⟨gc, 0, none⟩ _ = w9 at *
          refine wpAnyH_done (by kernel_rfl) ?_ _
          go_wp2_with fail
          go_meet
          exact ⟨_, _, by show x.letters.size ≤ 31; omega, by show x.values.length ≤ 31; omega, by show (x.counts.set 0 y).length ≤ 31; rw [List.length_set]; omega, TB, Lib.hid (HS.out.mono (Nat.le_refl _) (by omega)), G, VR⟩
        · by_cases h3 : v = 3
          · subst h3
            clear hgv hgc
            go_upto_region 12 with fail
            have hx : Below w4.heap.size w4 (w4.alloc (.cells (one3.flatMap I64.enc).toArray 2)) := (Below.refl _ _).alloc (Nat.le_refl _) _
            have HC := Lib.hid (cells_new (enc := I64.enc) (sz := 1) (fun _ => rfl) w4 one3 2)
            have hlt6 := TB.out.lt
            have hlo6 := TB.out.lo
            replace VR := Lib.hid (VR.out.kept hx)
            replace TB := Lib.hid (TB.out.kept hx)
            replace HS := Lib.hid (HS.out.kept hx)
            replace G := Lib.hid (grown_below G.out hx)
            clear hx
            go_wp2_with fail
            refine (among_any one3 w4.heap.size 3 N b _ _ HS.out (by omega) HC.out (by decide) (by decide) (by omega)).mono ?_
            rintro e w7 ⟨y, hyx, rfl, s7, g7⟩
            replace VR := Lib.hid (VR.out.grown g7 (by simp; omega))
            replace TB := Lib.hid (TB.out.grown g7 (by omega))
            replace HS := Lib.hid s7
            replace G := Lib.hid (grownBy_trans G.out g7)
            clear g7 s7
            clear hyx HC hlt6 hlo6
            have c0 := TB.out.cell (i := 3) rfl
            have f0 := TB.out.free 3
            obtain ⟨hT, hA⟩ := TB.out.setB y
            go_wp2_with fail
            replace TB := Lib.hid hT
            replace VR := Lib.hid (Above.var hA VR.out (by omega))
            replace HS := Lib.hid (Above.src hA HS.out (by omega))
            replace G := Lib.hid (Above.grown hA G.out (by omega))
            clear hA
            go_meet
            exact ⟨_, _, by show x.letters.size ≤ 31; omega, by show x.values.length ≤ 31; omega, by show x.counts.length ≤ 31; omega, TB, Lib.hid (HS.out.mono (Nat.le_refl _) (by omega)), G, VR⟩
          · by_cases h4 : v = 4
            · subst h4
              clear hgv hgc
              go_upto_region 14 with fail
              have hx : Below w4.heap.size w4 (w4.alloc (.cells #[.int .i64 1] 2)) := (Below.refl _ _).alloc (Nat.le_refl _) _
              have KN := Lib.hid (new_i64 w4 1 2)
              have c1 := TB.out.cell (i := 2) rfl
              have hgx : w.heap.size + 1 ≤ (w4.alloc (.cells #[.int .i64 1] 2)).heap.size := by have := TB.out.lt; have := TB.out.lo; simp only [World.size_alloc]; omega
              replace VR := Lib.hid (VR.out.kept hx)
              replace TB := Lib.hid (TB.out.kept hx)
              replace HS := Lib.hid (HS.out.kept hx)
              replace G := Lib.hid (grown_below G.out hx)
              clear hx
              go_wp2_with (at_builtin; go_must (refine wpList_append_lies _ rfl (.tmp 53) (.tmp 54) 42 rfl (w.heap.size + 1) 2 i0 _ 1 8 Tryz.underlying42 hi0 hi1 hi2 hi3 rfl (by decide) _ x.counts.length (x.counts.flatMap I64.enc) (by rfl) TB.out.own.2 ⟨w4.heap.size, 0, none⟩ 1 1 (I64.enc 1) (by rfl) rfl KN.out (i64_one 1) (by decide) ?c1 ?c2 hgx _ rfl ?_))
              case c1 => unfold maxLen; omega
              case c2 => omega
              intro g8 cap8 w8 hown hgr hwh hlt8
              obtain ⟨hT, hA, c9, f9⟩ := TB.out.addc hown hgr (hwh.imp_right (fun e => e.trans (by simp)))
              clear hown hgr hwh hlt8 KN c1 hgx
              go_wp2_with fail
              replace TB := Lib.hid hT
              replace VR := Lib.hid (Above.var hA VR.out (by omega))
              replace HS := Lib.hid (Above.src hA HS.out (by omega))
              replace G := Lib.hid (Above.grown hA G.out (by omega))
              clear hA
              go_meet
              exact ⟨_, _, by show x.letters.size ≤ 31; omega, by show x.values.length ≤ 31; omega, by show (x.counts ++ [1]).length ≤ 31; rw [List.length_append]; simp; omega, TB, Lib.hid (HS.out.mono (Nat.le_refl _) (by omega)), G, VR⟩
            · by_cases h5 : v = 5
              · subst h5
                clear hgv
                go_wp2_with fail
                go_loopw [4] (fun iv wr => ∃ (i : Nat) (x : Tls), iv = .int .i64 i ∧ i ≤ x.counts.length ∧ x.letters.size ≤ 31 ∧ x.values.length ≤ 31 ∧ x.counts.length ≤ 30 ∧ Hid (TBoy wr (w.heap.size + 1) B5 x q) ∧ Hid (SrcAt wr N b (k + 210 + 2 * i)) ∧ Hid (w.grownBy wr (some b)) ∧ Hid (VarAt wr w.heap.size 44 [.string ⟨#[]⟩, .slice none 0 0, .slice none 0 0, .int .i64 0])) (fun iv _ => 31 - (intOf iv).toNat)
                case atStart => exact ⟨0, x, rfl, Nat.zero_le _, by omega, by omega, by omega, TB, Lib.hid (HS.out.mono (Nat.le_refl _) (by omega)), G, VR⟩
                case round =>
                  clear TB HS G VR l1 l2 l3 l4 l5
                  obtain ⟨i, x, rfl, hi, l1, l2, l3, TB, HS, G, VR⟩ := hrel
                  have c2 := TB.out.cell (i := 2) rfl
                  by_cases hlt : i < x.counts.length
                  · have hltI : (i : Int) < (x.counts.length : Int) := by omega
                    go_upto_region 19 with fail
                    clear c2
                    have hne : 0 < x.counts.length := by omega
                    have hneI : (0 : Int) ≤ (i : Int) := by omega
                    have hd : Below wr.heap.size wr wr.drew := (Below.refl _ _).drew
                    replace VR := Lib.hid (VR.out.kept hd)
                    replace TB := Lib.hid (TB.out.kept hd)
                    replace HS := Lib.hid (HS.out.kept hd)
                    replace G := Lib.hid (grown_below G.out hd)
                    clear hd
                    have hS : wr.drew.cell? ⟨B5, 2, none⟩ = some (.slice (some ⟨gc, 0, none⟩) x.counts.length q.counts.c) := by have := TB.out.cell (i := 2) (v := .slice q.counts.a x.counts.length q.counts.c) rfl; rwa [hgc] at this
                    refine wp_region_held_drew (S := fun W => W.cell? ⟨B5, 2, none⟩ = some (.slice (some ⟨gc, 0, none⟩) x.counts.length q.counts.c)) (by kernel_rfl) hS (fun hHeld => ?_)
                    generalize wr.drew = w6 at *
                    refine slotA 0 66 (.pointer (some ⟨B5, 2, none⟩)) ?_
                    simp only [S3]
                    refine slotA 1 67 (.slice (some ⟨gc, 0, none⟩) x.counts.length q.counts.c) ?_ (hy := Or.inl ⟨by rfl, fun w' hS => by have c9 : w'.cell? ⟨B5, 2, none⟩ = some (.slice (some ⟨gc, 0, none⟩) x.counts.length q.counts.c) := hS; go_simp⟩)
                    simp only [S3]
                    refine slotA 2 68 (.int .i64 (i : Int)) ?_
                    simp only [S3]
                    refine slotA 3 69 (.pointer (some ⟨b, 0, none⟩)) ?_
                    simp only [S3]
                    refine wpAnyH_ready (rs := [4]) (by kernel_rfl) (by simp) ?_
                    refine AllReadyH.cons (o := _) rfl (fun K hK => ?_) AllReadyH.nil
                    have hx : Below w6.heap.size w6 (w6.alloc (.cells (one5.flatMap I64.enc).toArray 2)) := (Below.refl _ _).alloc (Nat.le_refl _) _
                    have HC := Lib.hid (cells_new (enc := I64.enc) (sz := 1) (fun _ => rfl) w6 one5 2)
                    have hlt6 := TB.out.lt
                    have hlo6 := TB.out.lo
                    have hS2 := cell_kept hS hx
                    replace VR := Lib.hid (VR.out.kept hx)
                    replace TB := Lib.hid (TB.out.kept hx)
                    replace HS := Lib.hid (HS.out.kept hx)
                    replace G := Lib.hid (grown_below G.out hx)
                    clear hx
                    go_simp
                    refine hK.out _ _ hS2 (fun hHeld2 => ?_)
                    clear hK K hHeld hS
                    refine wpAnyH_ready (rs := [5]) (by kernel_rfl) (by simp) ?_
                    refine AllReadyH.cons (o := _) rfl (fun K hK => ?_) AllReadyH.nil
                    go_simp
                    refine (among_any one5 w6.heap.size 3 N b _ _ HS.out (by omega) HC.out (by decide) (by decide) (by omega)).mono ?_
                    rintro e w7 ⟨y, hyx, rfl, s7, g7⟩
                    have hS3 := g7.cell hS2 (by simp; omega)
                    replace VR := Lib.hid (VR.out.grown g7 (by simp; omega))
                    replace TB := Lib.hid (TB.out.grown g7 (by omega))
                    replace HS := Lib.hid s7
                    replace G := Lib.hid (grownBy_trans G.out g7)
                    clear g7 s7
                    clear hyx HC hlt6 hS2 hHeld2
                    go_wp2_with fail
                    refine hK.out _ _ hS3 (fun hHeld => ?_)
                    clear hK K
                    refine slotA 6 72 (.pointer (some ⟨gc, i, none⟩)) ?_
                    simp only [S3]
                    obtain ⟨hT, hA⟩ := TB.out.putc hgc i y hne
                    have hrow := TB.out.own.2
                    rw [hgc] at hrow
                    have c0 := own_at1 hrow rfl (i := i) hlt
                    have f0 := World.ownsRow.frozenAt hrow i
                    have hS4 : (w7.setCell ⟨gc, i, none⟩ (.int .i64 y)).cell? ⟨B5, 2, none⟩ = some (.slice (some ⟨gc, 0, none⟩) x.counts.length q.counts.c) := by have := hT.cell (i := 2) (v := .slice q.counts.a (x.counts.set i y).length q.counts.c) rfl; rwa [hgc, List.length_set] at this
                    clear hrow
                    refine wpAnyH_ready (rs := [7]) (by kernel_rfl) (by simp) ?_
                    refine AllReadyH.cons (o := _) rfl (fun K hK => ?_) AllReadyH.nil
                    go_simp
                    refine hK.out _ _ hS4 (fun hHeld2 => ?_)
                    clear hK K hHeld hHeld2 hS3 hS4 c0 f0 hne hneI
                    replace TB := Lib.hid hT
                    replace VR := Lib.hid (Above.var hA VR.out (by omega))
                    replace HS := Lib.hid (Above.src hA HS.out (by omega))
                    replace G := Lib.hid (Above.grown hA G.out (by omega))
                    clear hA
                    clear hT
                    generalize World.setCell w7 ⟨gc, i, none⟩ _ = w9 at *
                    refine wpAnyH_done (by kernel_rfl) ?_ _
                    go_wp2
                    go_roundw
                    case rel => exact ⟨i + 1, { x with counts := x.counts.set i y }, by go_num, by show _ ≤ (x.counts.set i y).length; rw [List.length_set]; omega, l1, l2, by show (x.counts.set i y).length ≤ _; rw [List.length_set]; omega, TB, Lib.hid (HS.out.mono (Nat.le_refl _) (by omega)), G, VR⟩
                    case measure => simp [intOf]; omega
                  · have hltI : ¬ (i : Int) < (x.counts.length : Int) := by omega
                    go_wp2_with fail
                    go_meet
                    exact ⟨x, q, l1, l2, by omega, TB, Lib.hid (HS.out.mono (Nat.le_refl _) (by omega)), G, VR⟩
              · by_cases h6 : v = 6
                · subst h6
                  clear hgv hgc
                  have c0 := TB.out.cell (i := 0) rfl
                  have c1 := TB.out.cell (i := 1) rfl
                  have c2 := TB.out.cell (i := 2) rfl
                  have c3 := TB.out.cell (i := 3) rfl
                  have f0 := TB.out.free 0
                  have f1 := TB.out.free 1
                  have f2 := TB.out.free 2
                  have f3 := TB.out.free 3
                  obtain ⟨o0, k0⟩ := TB.out.var.set 0 (.string ⟨#[]⟩)
                  obtain ⟨o1, k1⟩ := o0.set 1 (.slice none 0 0)
                  obtain ⟨o2, k2⟩ := o1.set 2 (.slice none 0 0)
                  obtain ⟨o3, k3⟩ := o2.set 3 (.int .i64 0)
                  have GG := grownBy_trans (grownBy_trans (grownBy_trans k0 k1) k2) k3
                  have hlo := TB.out.lo
                  have hA := above_of (g := w.heap.size + 1) GG (fun k e => by cases e; exact hlo)
                  have hT : Hid (TBoy _ (w.heap.size + 1) B5 ⟨⟨#[]⟩, [], [], 0⟩ ⟨⟨none, 0⟩, ⟨none, 0⟩⟩) := Lib.hid ⟨o3, ⟨World.ownsRow_nil _ _ _ _, World.ownsRow_nil _ _ _ _⟩, offA_none _, offA_none _, offA_none _, hlo⟩
                  clear o0 o1 o2 o3 k0 k1 k2 k3 GG hlo
                  go_wp2_with fail
                  clear TB
                  replace VR := Lib.hid (Above.var hA VR.out (by omega))
                  replace HS := Lib.hid (Above.src hA HS.out (by omega))
                  replace G := Lib.hid (Above.grown hA G.out (by omega))
                  clear hA
                  go_meet
                  exact ⟨_, _, by decide, by decide, by decide, hT, Lib.hid (HS.out.mono (Nat.le_refl _) (by omega)), G, VR⟩
                · clear hgv hgc
                  go_wp2_with fail
                  go_meet
                  exact ⟨x, q, by omega, by omega, by omega, TB, Lib.hid (HS.out.mono (Nat.le_refl _) (by omega)), G, VR⟩
  case rest =>
    clear TB HS G VR l1 l2 l3 l4 l5 hgv hgc
    obtain ⟨x, q, l1, l2, l3, TB, HS, G, VR⟩ := hcut
    have c0 := TB.out.cell (i := 0) (v := .string x.letters) rfl
    have c1 := TB.out.cell (i := 1) (v := .slice q.values.a x.values.length q.values.c) rfl
    have c2 := TB.out.cell (i := 2) (v := .slice q.counts.a x.counts.length q.counts.c) rfl
    have c3 := TB.out.cell (i := 3) (v := .int .i64 x.blanks) rfl
    have y0 := VR.out.cell (i := 0) rfl
    have y1 := VR.out.cell (i := 1) rfl
    have y2 := VR.out.cell (i := 2) rfl
    have y3 := VR.out.cell (i := 3) rfl
    have f0 := VR.out.free 0
    have f1 := VR.out.free 1
    have f2 := VR.out.free 2
    have f3 := VR.out.free 3
    obtain ⟨o0, k0⟩ := VR.out.set 0 (.string x.letters)
    obtain ⟨o1, k1⟩ := o0.set 1 (.slice q.values.a x.values.length q.values.c)
    obtain ⟨o2, k2⟩ := o1.set 2 (.slice q.counts.a x.counts.length q.counts.c)
    obtain ⟨o3, k3⟩ := o2.set 3 (.int .i64 x.blanks)
    have GG := grownBy_trans (grownBy_trans (grownBy_trans k0 k1) k2) k3
    have e0 := o3.cell (i := 0) (v := .string x.letters) rfl
    have e1 := o3.cell (i := 1) (v := .slice q.values.a x.values.length q.values.c) rfl
    have e2 := o3.cell (i := 2) (v := .slice q.counts.a x.counts.length q.counts.c) rfl
    have e3 := o3.cell (i := 3) (v := .int .i64 x.blanks) rfl
    have HF := Lib.hid (Tls.Own.mono (Tls.Own.store TB.out.own GG (by omega)) (show w.heap.size ≤ w.heap.size + 1 by omega))
    have HO := Lib.hid TB.out.off
    replace HS := Lib.hid (HS.out.grown GG (fun g e => by cases e; exact hN))
    replace G := Lib.hid (grown_over G.out GG (Nat.le_refl _))
    clear o0 o1 o2 o3 k0 k1 k2 k3 GG TB VR
    go_wp2
    refine bodyPost_ret (v := .agg #[.string x.letters, .slice q.values.a x.values.length q.values.c, .slice q.counts.a x.counts.length q.counts.c, .int .i64 x.blanks]) (by simp [results, Tryz.results194, go_sem, e0, e1, e2, e3]) rfl ?_
    exact ⟨x, q, rfl, l1, l2, l3, Nat.zero_le _, Nat.zero_le _, HF.out, HO.out, HS.out, G.out⟩
end Go.Proofs.YtjdcdhhbgijaoaaGreatDoor
