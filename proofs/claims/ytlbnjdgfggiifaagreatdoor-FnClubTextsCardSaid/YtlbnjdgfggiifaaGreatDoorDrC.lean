/- Contract: the reference's draw of a club that is seldom not valid. Nothing is said of it but that it can be read. -/
import Derived.Test.YtlbnjdgfggiifaaGreatDoorDrB
import Derived.Deep.RegionLaw
namespace Go.Proofs.YtlbnjdgfggiifaaGreatDoor
open Go.ChangeShapes Go.WideShapes Go.ChangeAt Go.RowKit Go.Sort

theorem mem_one2 (m : Mem) : ∀ u ∈ Mem.enc m, u.oneCell' = true := fun u hu => mem_oneCellD [m] u (by simpa using hu)
theorem txt_fit {x : ByteArray} (h : x ∈ ([⟨#[122, 122]⟩, ⟨#[97, 120]⟩, ⟨#[]⟩, ⟨#[85, 112]⟩] : List ByteArray)) : (⟨x, 5⟩ : Mem).fit := by
  simp only [List.mem_cons, List.not_mem_nil, or_false] at h
  rcases h with rfl | rfl | rfl | rfl <;> (unfold Mem.fit; decide)
theorem conv1 (wx : World) (x : Int) : (convert 22 9 (.slice (some ⟨wx.heap.size, 0, none⟩) 1 1)).run Tryz.prog (wx.alloc (.cells #[.int .u8 x] 5)) = .ok (.string (strOfNums [x])) (wx.alloc (.cells #[.int .u8 x] 5)) :=
  run_convert_bytes_arg (P := Tryz.prog) (wx.alloc (.cells #[.int .u8 x] 5)) 22 5 Tryz.underlying22 Tryz.underlying5 wx.heap.size 0 1 1 [x] rfl
    (fun i hi => by
      obtain rfl : i = 0 := by omega
      exact cell_new0 _ _ _ rfl) 9 Tryz.underlying9
theorem zz_fit {x : Int} : (⟨⟨#[122, 122]⟩, x⟩ : Mem).fit := by show (⟨#[122, 122]⟩ : ByteArray).size ≤ 9223372036854775807; decide
set_option maxRecDepth 100000 in
set_option maxHeartbeats 8000000 in
theorem l26Bent_any (N b k : Nat) (w : World) (hs : SrcAt w N b k) (hk : k < 536870912) (hN : N ≤ w.heap.size) :
    Calls Tryz.prog 24 #[.pointer (some ⟨b, 0, none⟩)] w (ClubDrawn 13 w N b (k + 200)) := by
  have hbN := hs.lt
  obtain ⟨i0, hi0, hj0, hj1, hj2⟩ := info_parts infoMember
  have hb : Below w.heap.size w (w.alloc (.cells #[.slice none 0 0] 26)) := (Below.refl _ _).alloc (Nat.le_refl _) _
  have HS := Lib.hid (hs.kept hb)
  have G := Lib.hid (grown_of_below (row := some b) hb)
  have V0 := Lib.hid (VarAt.new w 26 [.slice none 0 0])
  have hz1 : (w.alloc (.cells #[.slice none 0 0] 26)).heap.size = w.heap.size + 1 := by simp
  clear hs hb
  go_enter Tryz.func24, Tryz.ntmps24
  go_wp2_with fail
  refine (l26Draw_any N b k _ HS.out (by omega) (by omega)).mono ?_
  rintro e w3 ⟨a, cap, ms, rfl, ho, hl, hf, s3, g3⟩
  replace HS := Lib.hid s3
  replace G := Lib.hid (grownBy_trans G.out g3)
  replace V0 := Lib.hid (V0.out.grown g3 (by simp; omega))
  rw [hz1] at ho
  have hz3 : w.heap.size + 1 ≤ w3.heap.size := by have := g3.size; omega
  have HO := Lib.hid ho
  have HF := Lib.hid hf
  clear s3 g3 ho hf hz1
  have hx : Below w3.heap.size w3 (w3.alloc (.cells #[.slice a ms.length cap] 26)) := (Below.refl _ _).alloc (Nat.le_refl _) _
  have HX : Hid (some w3.heap.size ≠ (Value.slice a ms.length cap).ownBlock) := Lib.hid (fun e => by have := (HO.out.lt _ e.symm).2; omega)
  have V1 := Lib.hid (VarAt.new w3 26 [.slice a ms.length cap])
  replace HS := Lib.hid (HS.out.kept hx)
  replace G := Lib.hid (grown_below G.out hx)
  replace V0 := Lib.hid (V0.out.kept hx)
  replace HO := Lib.hid (own_below HO.out hx)
  clear hx
  generalize hB : w3.heap.size = B1 at *
  go_wp2_with fail
  clear hB
  refine (pick_any 24 N b _ _ HS.out (by omega)).mono ?_
  rintro e w4 ⟨x, ⟨x0, x1, _, _⟩, rfl, s4, g4⟩
  replace HS := Lib.hid s4
  replace G := Lib.hid (grownBy_trans G.out g4)
  replace V0 := Lib.hid (V0.out.grown g4 (by simp; omega))
  replace V1 := Lib.hid (V1.out.grown g4 (by simp; omega))
  replace HO := Lib.hid (HO.out.kept g4 (.inr (fun e => by have := (HO.out.lt b e).1; omega)))
  clear s4 g4 x1
  by_cases h0 : x = 0
  · subst h0
    go_wp2_with fail
    have hd : Below w4.heap.size w4 w4.drew := (Below.refl _ _).drew
    have c1 := V1.out.cell (i := 0) rfl
    have l1 := V1.out.lt
    have n1 := World.new_ne w4 _ c1
    have hcn := cells_new (enc := Str.enc) (sz := 1) (fun _ => rfl) w4.drew [⟨#[122, 122]⟩, ⟨#[97, 120]⟩, ⟨#[]⟩, ⟨#[85, 112]⟩] 9
    have hx2 : Below w4.heap.size w4 (w4.drew.alloc (.cells (([⟨#[122, 122]⟩, ⟨#[97, 120]⟩, ⟨#[]⟩, ⟨#[85, 112]⟩] : List _).flatMap Str.enc).toArray 9)) := hd.trans (((Below.refl _ _).alloc (Nat.le_refl _) _).mono hd.size)
    have hbw : b < w4.heap.size := HS.out.size
    replace HS := Lib.hid (HS.out.kept hx2)
    replace G := Lib.hid (grown_below G.out hx2)
    replace V0 := Lib.hid (V0.out.kept hx2)
    replace V1 := Lib.hid (V1.out.kept hx2)
    replace HO := Lib.hid (own_below HO.out hx2)
    have HC := Lib.hid hcn
    have hz4 : w.heap.size + 1 ≤ w4.heap.size := by omega
    clear hcn hx2 hd
    go_region_law
      (first
        | ((go_simp; go_at_call 45; refine (text_any [⟨#[122, 122]⟩, ⟨#[97, 120]⟩, ⟨#[]⟩, ⟨#[85, 112]⟩] w4.heap.size 4 N b _ _ HS.out (by omega) HC.out (by decide) (by decide) (by omega)).mono ?_; rintro e w7 ⟨x, hx, rfl, s4, g4⟩; replace HS := Lib.hid s4; replace G := Lib.hid (grownBy_trans G.out g4); replace V0 := Lib.hid (V0.out.grown g4 (by simp; omega)); replace V1 := Lib.hid (V1.out.grown g4 (by simp; omega)); replace HO := Lib.hid (HO.out.kept g4 (.inr (fun e => by have := (HO.out.lt b e).1; omega))); replace c1 := V1.out.cell (i := 0) rfl; replace l1 := V1.out.lt; replace n1 := World.new_ne w7 _ c1; clear s4 g4))
        | (((first | refine step_new_drew ?_ | refine step_new ?_); intro wz hxz hnz hoz; have nb0 := hnz.1 0 _ rfl; have nb1 := hnz.1 1 _ rfl; replace HS := Lib.hid (HS.out.kept hxz); replace G := Lib.hid (grown_below G.out hxz); replace V0 := Lib.hid (V0.out.kept hxz); replace V1 := Lib.hid (V1.out.kept hxz); replace HO := Lib.hid (own_below HO.out hxz); have hsz := Nat.le_trans (Nat.succ_le_of_lt (Nat.lt_of_le_of_lt hz3 V1.out.lt)) (Nat.le_refl _); clear hxz hnz hoz; refine step_append_lies _ ?_ (.tmp 12) (.tmp 17) 24 ?_ (w.heap.size + 1) 53 i0 (.agg #[.string ⟨#[]⟩, .int .i64 0]) 2 24 Tryz.underlying24 hi0 hj0 hj1 hj2 rfl (by decide) (.slice a ms.length cap) ms.length (ms.flatMap Mem.enc) ?_ HO.out ⟨_, 0, none⟩ 1 1 (Mem.enc ⟨x, 5⟩) ?_ rfl (news2 nb0 nb1) (mem_one2 ⟨x, 5⟩) (by decide) ?_ ?_ (Nat.le_of_succ_le hsz) _ rfl ?_; (all_goals (first | rfl | (unfold maxLen; omega) | omega | skip)); intro g5 cap5 w5 ho5 hg5 hat5 hlt5; replace HS := Lib.hid (HS.out.grown hg5 (fun g e => by have := (HO.out.lt g e).1; omega)); replace V0 := Lib.hid (V0.out.grown hg5 (own_ne HO.out (by omega))); have NE := Lib.hid (ne_behind (n := ms.length + 1) (cap := cap5) hat5 HX.out V1.out.lt); replace V1 := Lib.hid (V1.out.grown hg5 HX.out); replace G := Lib.hid (grown_own G.out HO.out (by omega) hg5); replace HO := Lib.hid (own_as ho5 (flat_snoc Mem.enc ms ⟨x, 5⟩)); have f1 := V1.out.free 0; replace c1 := V1.out.cell (i := 0) rfl; clear ho5 hg5 hat5 hlt5)))
    all_goals
      have HF5 := Lib.hid (fits_snoc (m := ⟨x, 5⟩) HF.out (txt_fit hx))
      have HL : Hid ((ms ++ [(⟨x, 5⟩ : Mem)]).length = ms.length + 1) := Lib.hid (by simp)
      obtain ⟨o8, g8⟩ := V1.out.set 0 (.slice (some ⟨g5, 0, none⟩) (ms.length + 1) cap5)
      replace HS := Lib.hid (HS.out.grown g8 (fun g e => by simp at e; omega))
      replace V0 := Lib.hid (V0.out.grown g8 (by simp; omega))
      replace HO := Lib.hid (HO.out.kept g8 (.inr NE.out.symm))
      replace G := Lib.hid (grown_over G.out g8 (by omega))
      replace V1 := Lib.hid o8
      replace HF := HF5
      clear o8 g8 HF5 c1 f1 n1 l1 NE
      have c1 := V1.out.cell (i := 0) rfl
      have c0 := V0.out.cell (i := 0) rfl
      have f0 := V0.out.free 0
      obtain ⟨o7, g7⟩ := V0.out.set 0 (.slice (some ⟨g5, 0, none⟩) (ms.length + 1) cap5)
      have c2 := o7.cell (i := 0) (v := .slice (some ⟨g5, 0, none⟩) (ms.length + 1) cap5) rfl
      replace HS := Lib.hid (HS.out.grown g7 (fun g e => by simp at e; omega))
      replace HO := Lib.hid (HO.out.kept g7 (.inr (own_en HO.out (by omega))))
      replace G := Lib.hid (grown_over G.out g7 (by omega))
      clear o7 g7
      go_wp2
      refine bodyPost_ret (v := .agg #[.slice (some ⟨g5, 0, none⟩) (ms.length + 1) cap5]) (by simp [results, Tryz.results24, go_sem, c2]) rfl ?_
      exact ⟨(some ⟨g5, 0, none⟩), cap5, (ms ++ [(⟨x, 5⟩ : Mem)]), (by first | rfl | rw [HL.out]), own_mono (by first | exact HO.out | (rw [HL.out]; exact HO.out)) (by omega), (by first | omega | (rw [HL.out]; omega)), HF.out, HS.out.mono (Nat.le_refl _) (by omega), G.out⟩
  · by_cases h1 : x = 1
    · subst h1
      go_wp2_with fail
      have hd : Below w4.heap.size w4 w4.drew := (Below.refl _ _).drew
      have c1 := V1.out.cell (i := 0) rfl
      have l1 := V1.out.lt
      have n1 := World.new_ne w4 _ c1
      have hcn := cells_new (enc := I64.enc) (sz := 1) (fun _ => rfl) w4.drew [-1, 0, 4000, 4001] 2
      have hx2 : Below w4.heap.size w4 (w4.drew.alloc (.cells (([-1, 0, 4000, 4001] : List _).flatMap I64.enc).toArray 2)) := hd.trans (((Below.refl _ _).alloc (Nat.le_refl _) _).mono hd.size)
      have hbw : b < w4.heap.size := HS.out.size
      replace HS := Lib.hid (HS.out.kept hx2)
      replace G := Lib.hid (grown_below G.out hx2)
      replace V0 := Lib.hid (V0.out.kept hx2)
      replace V1 := Lib.hid (V1.out.kept hx2)
      replace HO := Lib.hid (own_below HO.out hx2)
      have HC := Lib.hid hcn
      have hz4 : w.heap.size + 1 ≤ w4.heap.size := by omega
      clear hcn hx2 hd
      go_region_law
        (first
          | ((go_simp; go_at_call 51; refine (among_any [-1, 0, 4000, 4001] w4.heap.size 4 N b _ _ HS.out (by omega) HC.out (by decide) (by decide) (by omega)).mono ?_; rintro e w7 ⟨x, hx, rfl, s4, g4⟩; replace HS := Lib.hid s4; replace G := Lib.hid (grownBy_trans G.out g4); replace V0 := Lib.hid (V0.out.grown g4 (by simp; omega)); replace V1 := Lib.hid (V1.out.grown g4 (by simp; omega)); replace HO := Lib.hid (HO.out.kept g4 (.inr (fun e => by have := (HO.out.lt b e).1; omega))); replace c1 := V1.out.cell (i := 0) rfl; replace l1 := V1.out.lt; replace n1 := World.new_ne w7 _ c1; clear s4 g4))
          | (((first | refine step_new_drew ?_ | refine step_new ?_); intro wz hxz hnz hoz; have nb0 := hnz.1 0 _ rfl; have nb1 := hnz.1 1 _ rfl; replace HS := Lib.hid (HS.out.kept hxz); replace G := Lib.hid (grown_below G.out hxz); replace V0 := Lib.hid (V0.out.kept hxz); replace V1 := Lib.hid (V1.out.kept hxz); replace HO := Lib.hid (own_below HO.out hxz); have hsz := Nat.le_trans (Nat.succ_le_of_lt (Nat.lt_of_le_of_lt hz3 V1.out.lt)) (Nat.le_refl _); clear hxz hnz hoz; refine step_append_lies _ ?_ (.tmp 23) (.tmp 28) 24 ?_ (w.heap.size + 1) 53 i0 (.agg #[.string ⟨#[]⟩, .int .i64 0]) 2 24 Tryz.underlying24 hi0 hj0 hj1 hj2 rfl (by decide) (.slice a ms.length cap) ms.length (ms.flatMap Mem.enc) ?_ HO.out ⟨_, 0, none⟩ 1 1 (Mem.enc ⟨⟨#[122, 122]⟩, x⟩) ?_ rfl (news2 nb0 nb1) (mem_one2 ⟨⟨#[122, 122]⟩, x⟩) (by decide) ?_ ?_ (Nat.le_of_succ_le hsz) _ rfl ?_; (all_goals (first | rfl | (unfold maxLen; omega) | omega | skip)); intro g5 cap5 w5 ho5 hg5 hat5 hlt5; replace HS := Lib.hid (HS.out.grown hg5 (fun g e => by have := (HO.out.lt g e).1; omega)); replace V0 := Lib.hid (V0.out.grown hg5 (own_ne HO.out (by omega))); have NE := Lib.hid (ne_behind (n := ms.length + 1) (cap := cap5) hat5 HX.out V1.out.lt); replace V1 := Lib.hid (V1.out.grown hg5 HX.out); replace G := Lib.hid (grown_own G.out HO.out (by omega) hg5); replace HO := Lib.hid (own_as ho5 (flat_snoc Mem.enc ms ⟨⟨#[122, 122]⟩, x⟩)); have f1 := V1.out.free 0; replace c1 := V1.out.cell (i := 0) rfl; clear ho5 hg5 hat5 hlt5)))
      all_goals
        have HF5 := Lib.hid (fits_snoc (m := ⟨⟨#[122, 122]⟩, x⟩) HF.out zz_fit)
        have HL : Hid ((ms ++ [(⟨⟨#[122, 122]⟩, x⟩ : Mem)]).length = ms.length + 1) := Lib.hid (by simp)
        obtain ⟨o8, g8⟩ := V1.out.set 0 (.slice (some ⟨g5, 0, none⟩) (ms.length + 1) cap5)
        replace HS := Lib.hid (HS.out.grown g8 (fun g e => by simp at e; omega))
        replace V0 := Lib.hid (V0.out.grown g8 (by simp; omega))
        replace HO := Lib.hid (HO.out.kept g8 (.inr NE.out.symm))
        replace G := Lib.hid (grown_over G.out g8 (by omega))
        replace V1 := Lib.hid o8
        replace HF := HF5
        clear o8 g8 HF5 c1 f1 n1 l1 NE
        have c1 := V1.out.cell (i := 0) rfl
        have c0 := V0.out.cell (i := 0) rfl
        have f0 := V0.out.free 0
        obtain ⟨o7, g7⟩ := V0.out.set 0 (.slice (some ⟨g5, 0, none⟩) (ms.length + 1) cap5)
        have c2 := o7.cell (i := 0) (v := .slice (some ⟨g5, 0, none⟩) (ms.length + 1) cap5) rfl
        replace HS := Lib.hid (HS.out.grown g7 (fun g e => by simp at e; omega))
        replace HO := Lib.hid (HO.out.kept g7 (.inr (own_en HO.out (by omega))))
        replace G := Lib.hid (grown_over G.out g7 (by omega))
        clear o7 g7
        go_wp2
        refine bodyPost_ret (v := .agg #[.slice (some ⟨g5, 0, none⟩) (ms.length + 1) cap5]) (by simp [results, Tryz.results24, go_sem, c2]) rfl ?_
        exact ⟨(some ⟨g5, 0, none⟩), cap5, (ms ++ [(⟨⟨#[122, 122]⟩, x⟩ : Mem)]), (by first | rfl | rw [HL.out]), own_mono (by first | exact HO.out | (rw [HL.out]; exact HO.out)) (by omega), (by first | omega | (rw [HL.out]; omega)), HF.out, HS.out.mono (Nat.le_refl _) (by omega), G.out⟩
    · by_cases h2 : x = 2
      · subst h2
        have c1 := V1.out.cell (i := 0) rfl
        have f1 := V1.out.free 0
        obtain ⟨o8, g8⟩ := V1.out.set 0 (.slice none 0 0)
        replace HS := Lib.hid (HS.out.grown g8 (fun g e => by simp at e; omega))
        replace V0 := Lib.hid (V0.out.grown g8 (by simp; omega))
        replace G := Lib.hid (grown_over G.out g8 (by omega))
        have V8 := Lib.hid o8
        have hz8 : B1 + 1 ≤ (w4.setCell ⟨B1, 0, none⟩ (.slice none 0 0)).heap.size := by have := o8.lt; omega
        clear o8 g8 V1 HO HX HF hl
        go_wp2_with fail
        go_loopw [4] (fun iv wr => ∃ (j : Nat) (a : Option Addr) (cap : Nat) (ms : List Mem), j ≤ 13 ∧ iv = .int .i64 j ∧ ms.length = j ∧ B1 + 1 ≤ wr.heap.size ∧ Hid (VarAt wr w.heap.size 26 [.slice none 0 0]) ∧ Hid (VarAt wr B1 26 [.slice a ms.length cap]) ∧
          Hid (wr.ownsRow (B1 + 1) 53 2 (.slice a ms.length cap) ms.length (ms.flatMap Mem.enc)) ∧ Hid (MemsFit ms) ∧ Hid (SrcAt wr N b (k + 62 + 2 * j)) ∧ Hid (w.grownBy wr (some b))) (fun iv _ => (13 - intOf iv).toNat)
        case atStart => exact ⟨0, none, 0, [], by omega, rfl, rfl, hz8, V0, V8, Lib.hid (World.ownsRow_nil _ _ _ _), Lib.hid (fun m hm => by cases hm), Lib.hid HS.out, G⟩
        case round =>
          clear V0 V8 HS G hz8 c1 f1
          obtain ⟨j, a, cap, ms, hj, rfl, rfl, hz, V0, V1, HO, HF, HS, G⟩ := hrel
          go_wp2_with fail
          refine (pick_any 2 N b _ wr HS.out (by omega)).mono ?_
          rintro e w5 ⟨p, ⟨p0, p1, _, _⟩, rfl, s4, g4⟩
          have p2 : p < 2 := p1 (by omega)
          clear p1
          replace HS := Lib.hid s4
          replace G := Lib.hid (grownBy_trans G.out g4)
          replace V0 := Lib.hid (V0.out.grown g4 (by simp; omega))
          replace V1 := Lib.hid (V1.out.grown g4 (by simp; omega))
          replace HO := Lib.hid (HO.out.kept g4 (.inr (fun e => by have := HO.out.lt b e; omega)))
          have hz5 : B1 + 1 ≤ w5.heap.size := by have := g4.size; omega
          clear s4 g4
          by_cases hlt : (ms.length : Int) < 12 + p
          · obtain ⟨rt, hrt⟩ : ∃ rt : Int, rt = 900 := ⟨_, rfl⟩
            have hx : Below w5.heap.size w5 ((w5.alloc (.cells #[.int .u8 (97 + (ms.length : Int))] 5)).alloc (.cells #[.string (strOfNums [97 + (ms.length : Int)]), .int .i64 900] 53)) := ((Below.refl _ _).alloc (Nat.le_refl _) _).alloc (by simp) _
            have hcv := conv1 w5 (97 + (ms.length : Int))
            have KN : Hid (∀ j u, (Mem.enc ⟨strOfNums [97 + (ms.length : Int)], 900⟩)[j]? = some u → ((w5.alloc (.cells #[.int .u8 (97 + (ms.length : Int))] 5)).alloc (.cells #[.string (strOfNums [97 + (ms.length : Int)]), .int .i64 900] 53)).cell? ((⟨w5.heap.size + 1, 0, none⟩ : Addr).add j) = some u) := by
              have h0 := cell_new0 (w5.alloc (.cells #[.int .u8 (97 + (ms.length : Int))] 5)) #[.string (strOfNums [97 + (ms.length : Int)]), .int .i64 900] 53 (i := 0) (v := .string (strOfNums [97 + (ms.length : Int)])) rfl
              have h1 := cell_new0 (w5.alloc (.cells #[.int .u8 (97 + (ms.length : Int))] 5)) #[.string (strOfNums [97 + (ms.length : Int)]), .int .i64 900] 53 (i := 1) (v := .int .i64 900) rfl
              simp only [World.size_alloc] at h0 h1
              exact Lib.hid (news2 h0 h1)
            have c1 := V1.out.cell (i := 0) rfl
            replace HS := Lib.hid (HS.out.kept hx)
            replace G := Lib.hid (grown_below G.out hx)
            replace V0 := Lib.hid (V0.out.kept hx)
            replace V1 := Lib.hid (V1.out.kept hx)
            replace HO := Lib.hid (own_below HO.out hx)
            clear hx hrt
            go_wp2_with (at_builtin; go_must (refine wpList_append_own _ rfl (.tmp 42) (.tmp 49) 24 rfl (B1 + 1) 53 i0 _ 2 24 Tryz.underlying24 hi0 hj0 hj1 hj2 rfl (by decide) _ ms.length (ms.flatMap Mem.enc) rfl HO.out ⟨w5.heap.size + 1, 0, none⟩ 1 1 (Mem.enc ⟨strOfNums [97 + (ms.length : Int)], 900⟩) rfl rfl KN.out (fun u hu => mem_oneCellD [⟨strOfNums [97 + (ms.length : Int)], 900⟩] u (by simpa using hu)) ?c1 ?c2 ?c3 ?_))
            case c1 => unfold maxLen; omega
            case c2 => omega
            case c3 => simp; omega
            intro v' w6 hown6 hgr6 _
            obtain ⟨a6, cap6, rfl⟩ := own_shape hown6
            have hz6 : B1 + 1 ≤ w6.heap.size := by have := hgr6.size; simp at this; omega
            have HL6 : Hid ((ms ++ [(⟨strOfNums [97 + (ms.length : Int)], 900⟩ : Mem)]).length = ms.length + 1) := Lib.hid (by simp)
            have HF6 : Hid (MemsFit (ms ++ [(⟨strOfNums [97 + (ms.length : Int)], 900⟩ : Mem)])) := Lib.hid (fits_snoc HF.out (by show (strOfNums [97 + (ms.length : Int)]).size ≤ _; rw [strOfNums_size]; simp))
            replace HS := Lib.hid (HS.out.grown hgr6 (fun g e => by have := (HO.out.lt g e).1; omega))
            replace V0 := Lib.hid (V0.out.grown hgr6 (own_ne HO.out (by omega)))
            replace V1 := Lib.hid (V1.out.grown hgr6 (own_ne HO.out (by omega)))
            replace G := Lib.hid (grown_own G.out HO.out (by omega) hgr6)
            replace HO := Lib.hid (own_as hown6 (flat_snoc Mem.enc ms _))
            clear hown6 hgr6 KN hcv HF
            obtain ⟨o7, g7⟩ := V1.out.set 0 (.slice a6 (ms.length + 1) cap6)
            replace V0 := Lib.hid (V0.out.grown g7 (by simp; omega))
            replace HS := Lib.hid (HS.out.grown g7 (fun g e => by simp at e; omega))
            replace HO := Lib.hid (HO.out.kept g7 (.inr (own_en HO.out (by omega))))
            replace G := Lib.hid (grown_over G.out g7 (by omega))
            have V7 := Lib.hid o7
            have c1 := V1.out.cell (i := 0) rfl
            have f1 := V1.out.free 0
            have hz7 : B1 + 1 ≤ (w6.setCell ⟨B1, 0, none⟩ (.slice a6 (ms.length + 1) cap6)).heap.size := by have := g7.size; omega
            clear o7 g7 V1
            go_wp2
            go_roundw
            case rel =>
              refine ⟨ms.length + 1, a6, cap6, ms ++ [⟨strOfNums [97 + (ms.length : Int)], 900⟩], by omega, by go_num, HL6.out, hz7, V0, ?_, ?_, HF6, Lib.hid (HS.out.mono (Nat.le_refl _) (by omega)), G⟩
              · rw [HL6.out]; exact V7
              · rw [HL6.out]; exact HO
            case measure => simp [intOf]; omega
          · have c1 := V1.out.cell (i := 0) rfl
            have c0 := V0.out.cell (i := 0) rfl
            have f0 := V0.out.free 0
            obtain ⟨o7, g7⟩ := V0.out.set 0 (.slice a (ms.length) cap)
            have c2 := o7.cell (i := 0) (v := .slice a (ms.length) cap) rfl
            replace HS := Lib.hid (HS.out.grown g7 (fun g e => by simp at e; omega))
            replace HO := Lib.hid (HO.out.kept g7 (.inr (own_en HO.out (by omega))))
            replace G := Lib.hid (grown_over G.out g7 (by omega))
            clear o7 g7
            go_wp2
            refine bodyPost_ret (v := .agg #[.slice a (ms.length) cap]) (by simp [results, Tryz.results24, go_sem, c2]) rfl ?_
            exact ⟨a, cap, ms, (by first | rfl | rw [HL.out]), own_mono (by first | exact HO.out | (rw [HL.out]; exact HO.out)) (by omega), (by first | omega | (rw [HL.out]; omega)), HF.out, HS.out.mono (Nat.le_refl _) (by omega), G.out⟩
      · have e0 : (x == 0) = false := by simpa using h0
        have e1 : (x == 1) = false := by simpa using h1
        have e2 : (x == 2) = false := by simpa using h2
        have c1 := V1.out.cell (i := 0) rfl
        have c0 := V0.out.cell (i := 0) rfl
        have f0 := V0.out.free 0
        obtain ⟨o7, g7⟩ := V0.out.set 0 (.slice a (ms.length) cap)
        have c2 := o7.cell (i := 0) (v := .slice a (ms.length) cap) rfl
        replace HS := Lib.hid (HS.out.grown g7 (fun g e => by simp at e; omega))
        replace HO := Lib.hid (HO.out.kept g7 (.inr (own_en HO.out (by omega))))
        replace G := Lib.hid (grown_over G.out g7 (by omega))
        clear o7 g7
        go_wp2
        refine bodyPost_ret (v := .agg #[.slice a (ms.length) cap]) (by simp [results, Tryz.results24, go_sem, c2]) rfl ?_
        exact ⟨a, cap, ms, (by first | rfl | rw [HL.out]), own_mono (by first | exact HO.out | (rw [HL.out]; exact HO.out)) (by omega), (by first | omega | (rw [HL.out]; omega)), HF.out, HS.out.mono (Nat.le_refl _) (by omega), G.out⟩
end Go.Proofs.YtlbnjdgfggiifaaGreatDoor
