/- Contract: the reference's draw of a club: few members, small names, small numbers. Printed by bin/gen_drt.py -/
import Derived.Test.YtlbnjdgfggiifaaGreatDoorDrB
namespace Go.Proofs.YtlbnjdgfggiifaaGreatDoor
open Go.ChangeShapes Go.WideShapes Go.ChangeAt Go.RowKit Go.Sort

def Mem.tiny (m : Mem) : Prop := m.name.size ≤ 64 ∧ -9223372036854775808 ≤ m.rating ∧ m.rating ≤ 9223372036854775807
def MemsTiny (ms : List Mem) : Prop := ∀ m ∈ ms, m.tiny
theorem MemsTiny.fit {ms : List Mem} (h : MemsTiny ms) : MemsFit ms := fun m hm => Nat.le_trans (h m hm).1 (by decide)
theorem MemsTiny.at {ms : List Mem} (h : MemsTiny ms) {i : Nat} (hi : i < ms.length) : ms[i].name.size ≤ 64 := (h _ (List.getElem_mem hi)).1
theorem tiny_snoc {ms : List Mem} {m : Mem} (h : MemsTiny ms) (hm : m.tiny) : MemsTiny (ms ++ [m]) := by
  intro x hx
  rcases List.mem_append.1 hx with hx | hx
  · exact h x hx
  · rw [List.mem_singleton] at hx
    subst hx
    exact hm
/-- a club that was drawn, in new memory -/
def ClubDrawnT (c : Nat) (w : World) (N b k : Nat) (e : Ending) (w' : World) : Prop :=
  ∃ (a : Option Addr) (cap : Nat) (ms : List Mem), e = .returned (.agg #[.slice a ms.length cap]) ∧ w'.ownsRow w.heap.size 53 2 (.slice a ms.length cap) ms.length (ms.flatMap Mem.enc) ∧ ms.length ≤ c ∧ MemsTiny ms ∧ SrcAt w' N b k ∧ w.grownBy w' (some b)
set_option maxRecDepth 100000 in
set_option maxHeartbeats 4000000 in
theorem l26DrawT_any (N b k : Nat) (w : World) (hs : SrcAt w N b k) (hk : k < 1073741824) (hN : N ≤ w.heap.size) :
    Calls Tryz.prog 34 #[.pointer (some ⟨b, 0, none⟩)] w (ClubDrawnT 6 w N b (k + 60)) := by
  have hbN := hs.lt
  obtain ⟨w2, hw2⟩ : ∃ w2, w2 = (w.alloc (.cells #[.slice none 0 0] 26)).alloc (.cells #[.slice none 0 0] 26) := ⟨_, rfl⟩
  have hb : Below w.heap.size w w2 := by rw [hw2]; exact ((Below.refl _ _).alloc (Nat.le_refl _) _).alloc (by simp) _
  have hz2 : w2.heap.size = w.heap.size + 2 := by rw [hw2]; simp
  have HS := Lib.hid (hs.kept hb)
  have G := Lib.hid (grown_of_below (row := some b) hb)
  have V0 : Hid (VarAt w2 w.heap.size 26 [.slice none 0 0]) := by
    rw [hw2]
    exact Lib.hid ((VarAt.new w 26 [.slice none 0 0]).kept ((Below.refl _ _).alloc (Nat.le_refl _) _))
  have V1 : Hid (VarAt w2 (w.heap.size + 1) 26 [.slice none 0 0]) := by
    rw [hw2]
    have := VarAt.new (w.alloc (.cells #[.slice none 0 0] 26)) 26 [.slice none 0 0]
    simp only [World.size_alloc] at this
    exact Lib.hid this
  clear hs hb
  go_enter Tryz.func34, Tryz.ntmps34
  go_wp2_with fail
  rw [← hw2]
  clear hw2
  refine (pick_any 7 N b k w2 HS.out (by omega)).mono ?_
  rintro e w3 ⟨n, ⟨n0, n1, _, _⟩, rfl, s3, g3⟩
  have n7 : n < 7 := n1 (by omega)
  clear n1
  have hz3 : w.heap.size + 2 ≤ w3.heap.size := by have := g3.size; omega
  replace HS := Lib.hid s3
  replace G := Lib.hid (grownBy_trans G.out g3)
  replace V0 := Lib.hid (V0.out.grown g3 (by simp; omega))
  replace V1 := Lib.hid (V1.out.grown g3 (by simp; omega))
  clear s3 g3
  go_wp2_with fail
  go_loopw [5] (fun iv wr => ∃ (j : Nat) (a : Option Addr) (cap : Nat) (ms : List Mem), (j : Int) ≤ n ∧ iv = .int .i64 j ∧ ms.length = j ∧ w.heap.size + 2 ≤ wr.heap.size ∧ Hid (VarAt wr w.heap.size 26 [.slice none 0 0]) ∧ Hid (VarAt wr (w.heap.size + 1) 26 [.slice a ms.length cap]) ∧
    Hid (wr.ownsRow (w.heap.size + 2) 53 2 (.slice a ms.length cap) ms.length (ms.flatMap Mem.enc)) ∧ Hid (MemsTiny ms) ∧ Hid (SrcAt wr N b (k + 2 + 6 * j)) ∧ Hid (w.grownBy wr (some b))) (fun iv _ => (n - intOf iv).toNat)
  case atStart => exact ⟨0, none, 0, [], by omega, rfl, rfl, hz3, V0, V1, Lib.hid (World.ownsRow_nil _ _ _ _), Lib.hid (fun m hm => by cases hm), Lib.hid HS.out, G⟩
  case round =>
    clear V0 V1 HS G hz3
    obtain ⟨j, a, cap, ms, hj, rfl, rfl, hz, V0, V1, HO, HF, HS, G⟩ := hrel
    obtain ⟨i0, hi0, hj0, hj1, hj2⟩ := info_parts infoMember
    by_cases hlt : (ms.length : Int) < n
    · go_wp2_with fail
      refine (pick_any 1200 N b _ wr HS.out (by omega)).mono ?_
      rintro e w4 ⟨x, ⟨x0, x1, _, _⟩, rfl, s4, g4⟩
      have x2 : x < 1200 := x1 (by omega)
      clear x1
      replace HS := Lib.hid s4
      replace G := Lib.hid (grownBy_trans G.out g4)
      replace V0 := Lib.hid (V0.out.grown g4 (by simp; omega))
      replace V1 := Lib.hid (V1.out.grown g4 (by simp; omega))
      replace HO := Lib.hid (HO.out.kept g4 (.inr (fun e => by have := HO.out.lt b e; omega)))
      have hz4 : w.heap.size + 2 ≤ w4.heap.size := by have := g4.size; omega
      clear s4 g4
      go_wp2_with fail
      refine (one_any 8 N b _ w4 HS.out (by omega)).mono ?_
      rintro e w5 ⟨y, rfl, s4, g4⟩
      replace HS := Lib.hid s4
      replace G := Lib.hid (grownBy_trans G.out g4)
      replace V0 := Lib.hid (V0.out.grown g4 (by simp; omega))
      replace V1 := Lib.hid (V1.out.grown g4 (by simp; omega))
      replace HO := Lib.hid (HO.out.kept g4 (.inr (fun e => by have := HO.out.lt b e; omega)))
      have hz5 : w.heap.size + 2 ≤ w5.heap.size := by have := g4.size; omega
      clear s4 g4
      cases y with
      | false =>
        obtain ⟨rt, hrt⟩ : ∃ rt, 800 + x = rt := ⟨_, rfl⟩
        have hrt0 : -9223372036854775808 ≤ rt := by omega
        have hrt1 : rt ≤ 9223372036854775807 := by omega
        have hx : Below w5.heap.size w5 ((w5.alloc (.cells #[.int .u8 (97 + (ms.length : Int)), .int .u8 120] 5)).alloc (.cells #[.string (strOfNums [97 + (ms.length : Int), 120]), .int .i64 rt] 53)) := ((Below.refl _ _).alloc (Nat.le_refl _) _).alloc (by simp) _
        have hcv := conv2 w5 (97 + (ms.length : Int)) 120
        have KO := Lib.hid (own_below HO.out hx)
        have KN : Hid (∀ j u, (Mem.enc ⟨strOfNums [97 + (ms.length : Int), 120], rt⟩)[j]? = some u → ((w5.alloc (.cells #[.int .u8 (97 + (ms.length : Int)), .int .u8 120] 5)).alloc (.cells #[.string (strOfNums [97 + (ms.length : Int), 120]), .int .i64 rt] 53)).cell? ((⟨w5.heap.size + 1, 0, none⟩ : Addr).add j) = some u) := by
          have h0 := cell_new0 (w5.alloc (.cells #[.int .u8 (97 + (ms.length : Int)), .int .u8 120] 5)) #[.string (strOfNums [97 + (ms.length : Int), 120]), .int .i64 rt] 53 (i := 0) (v := .string (strOfNums [97 + (ms.length : Int), 120])) rfl
          have h1 := cell_new0 (w5.alloc (.cells #[.int .u8 (97 + (ms.length : Int)), .int .u8 120] 5)) #[.string (strOfNums [97 + (ms.length : Int), 120]), .int .i64 rt] 53 (i := 1) (v := .int .i64 rt) rfl
          simp only [World.size_alloc] at h0 h1
          exact Lib.hid (news2 h0 h1)
        have c1 := V1.out.cell (i := 0) rfl
        replace G := Lib.hid (grown_below G.out hx)
        replace HS := Lib.hid (HS.out.kept hx)
        replace V0 := Lib.hid (V0.out.kept hx)
        replace V1 := Lib.hid (V1.out.kept hx)
        clear HO hx
        go_wp2_with (at_builtin; go_must (refine wpList_append_own _ rfl (.tmp 24) (.tmp 32) 24 rfl (w.heap.size + 2) 53 i0 _ 2 24 Tryz.underlying24 hi0 hj0 hj1 hj2 rfl (by decide) _ ms.length (ms.flatMap Mem.enc) rfl KO.out ⟨w5.heap.size + 1, 0, none⟩ 1 1 (Mem.enc ⟨strOfNums [97 + (ms.length : Int), 120], rt⟩) rfl rfl KN.out (fun u hu => mem_oneCellD [⟨strOfNums [97 + (ms.length : Int), 120], rt⟩] u (by simpa using hu)) ?c1 ?c2 ?c3 ?_))
        case c1 => unfold maxLen; omega
        case c2 => omega
        case c3 => simp; omega
        intro v' w6 hown6 hgr6 _
        obtain ⟨a6, cap6, rfl⟩ := own_shape hown6
        have hz6 : w.heap.size + 2 ≤ w6.heap.size := by have := hgr6.size; simp at this; omega
        have hl6 : (ms ++ [(⟨strOfNums [97 + (ms.length : Int), 120], rt⟩ : Mem)]).length = ms.length + 1 := by simp
        have HF6 : Hid (MemsTiny (ms ++ [(⟨strOfNums [97 + (ms.length : Int), 120], rt⟩ : Mem)])) := Lib.hid (tiny_snoc HF.out ⟨by show (strOfNums [97 + (ms.length : Int), 120]).size ≤ _; rw [strOfNums_size]; simp, hrt0, hrt1⟩)
        replace HS := Lib.hid (HS.out.grown hgr6 (fun g e => by have := (KO.out.lt g e).1; omega))
        replace V0 := Lib.hid (V0.out.grown hgr6 (own_ne KO.out (by omega)))
        replace V1 := Lib.hid (V1.out.grown hgr6 (own_ne KO.out (by omega)))
        replace G := Lib.hid (grown_own G.out KO.out (by omega) hgr6)
        have HO := Lib.hid (own_as hown6 (flat_snoc Mem.enc ms _))
        have HL6 := Lib.hid hl6
        clear hown6 hgr6 KO KN hcv hl6 HF
        obtain ⟨o7, g7⟩ := V1.out.set 0 (.slice a6 (ms.length + 1) cap6)
        replace V0 := Lib.hid (V0.out.grown g7 (by simp))
        replace HS := Lib.hid (HS.out.grown g7 (fun g e => by simp at e; omega))
        replace HO := Lib.hid (HO.out.kept g7 (.inr (own_en HO.out (by omega))))
        replace G := Lib.hid (grown_over G.out g7 (by omega))
        have V7 := Lib.hid o7
        have c1 := V1.out.cell (i := 0) rfl
        have f1 := V1.out.free 0
        have hz7 : w.heap.size + 2 ≤ (w6.setCell ⟨w.heap.size + 1, 0, none⟩ (.slice a6 (ms.length + 1) cap6)).heap.size := by have := g7.size; omega
        clear o7 g7 V1
        go_wp2
        go_roundw
        case rel =>
          refine ⟨ms.length + 1, a6, cap6, ms ++ [⟨strOfNums [97 + (ms.length : Int), 120], rt⟩], by omega, by go_num, HL6.out, hz7, V0, ?_, ?_, HF6, Lib.hid (HS.out.mono (Nat.le_refl _) (by omega)), G⟩
          · rw [HL6.out]; exact V7
          · rw [HL6.out]; exact HO
        case measure => simp [intOf]; omega
      | true =>
        have hx : Below w5.heap.size w5 (w5.alloc (.cells #[.int .i64 0, .int .i64 3, .int .i64 4000, .int .i64 3995] 2)) := (Below.refl _ _).alloc (Nat.le_refl _) _
        have hcn := cells_new (enc := I64.enc) (fun _ => rfl) w5 [0, 3, 4000, 3995] 2
        replace HS := Lib.hid (HS.out.kept hx)
        replace G := Lib.hid (grown_below G.out hx)
        replace V0 := Lib.hid (V0.out.kept hx)
        replace V1 := Lib.hid (V1.out.kept hx)
        replace HO := Lib.hid (own_below HO.out hx)
        have HC := Lib.hid hcn
        clear hcn hx
        go_wp2_with fail
        refine (among_any [0, 3, 4000, 3995] w5.heap.size 4 N b _ _ HS.out (by omega) HC.out (by decide) (by decide) (by omega)).mono ?_
        rintro e w7 ⟨rt, hmem, rfl, s4, g4⟩
        have hrt : 0 ≤ rt ∧ rt ≤ 4000 := by
          simp only [List.mem_cons, List.not_mem_nil, or_false] at hmem
          omega
        have hrt0 : -9223372036854775808 ≤ rt := by omega
        have hrt1 : rt ≤ 9223372036854775807 := by omega
        clear hmem hrt
        replace HS := Lib.hid s4
        replace G := Lib.hid (grownBy_trans G.out g4)
        replace V0 := Lib.hid (V0.out.grown g4 (by simp; omega))
        replace V1 := Lib.hid (V1.out.grown g4 (by simp; omega))
        replace HO := Lib.hid (HO.out.kept g4 (.inr (fun e => by have := HO.out.lt b e; omega)))
        have hz7 : w.heap.size + 2 ≤ w7.heap.size := by have := g4.size; simp at this; omega
        clear s4 g4 HC
        have hx : Below w7.heap.size w7 ((w7.alloc (.cells #[.int .u8 (97 + (ms.length : Int)), .int .u8 120] 5)).alloc (.cells #[.string (strOfNums [97 + (ms.length : Int), 120]), .int .i64 rt] 53)) := ((Below.refl _ _).alloc (Nat.le_refl _) _).alloc (by simp) _
        have hcv := conv2 w7 (97 + (ms.length : Int)) 120
        have KO := Lib.hid (own_below HO.out hx)
        have KN : Hid (∀ j u, (Mem.enc ⟨strOfNums [97 + (ms.length : Int), 120], rt⟩)[j]? = some u → ((w7.alloc (.cells #[.int .u8 (97 + (ms.length : Int)), .int .u8 120] 5)).alloc (.cells #[.string (strOfNums [97 + (ms.length : Int), 120]), .int .i64 rt] 53)).cell? ((⟨w7.heap.size + 1, 0, none⟩ : Addr).add j) = some u) := by
          have h0 := cell_new0 (w7.alloc (.cells #[.int .u8 (97 + (ms.length : Int)), .int .u8 120] 5)) #[.string (strOfNums [97 + (ms.length : Int), 120]), .int .i64 rt] 53 (i := 0) (v := .string (strOfNums [97 + (ms.length : Int), 120])) rfl
          have h1 := cell_new0 (w7.alloc (.cells #[.int .u8 (97 + (ms.length : Int)), .int .u8 120] 5)) #[.string (strOfNums [97 + (ms.length : Int), 120]), .int .i64 rt] 53 (i := 1) (v := .int .i64 rt) rfl
          simp only [World.size_alloc] at h0 h1
          exact Lib.hid (news2 h0 h1)
        have c1 := V1.out.cell (i := 0) rfl
        replace G := Lib.hid (grown_below G.out hx)
        replace HS := Lib.hid (HS.out.kept hx)
        replace V0 := Lib.hid (V0.out.kept hx)
        replace V1 := Lib.hid (V1.out.kept hx)
        clear HO hx
        go_wp2_with (at_builtin; go_must (refine wpList_append_own _ rfl (.tmp 24) (.tmp 32) 24 rfl (w.heap.size + 2) 53 i0 _ 2 24 Tryz.underlying24 hi0 hj0 hj1 hj2 rfl (by decide) _ ms.length (ms.flatMap Mem.enc) rfl KO.out ⟨w7.heap.size + 1, 0, none⟩ 1 1 (Mem.enc ⟨strOfNums [97 + (ms.length : Int), 120], rt⟩) rfl rfl KN.out (fun u hu => mem_oneCellD [⟨strOfNums [97 + (ms.length : Int), 120], rt⟩] u (by simpa using hu)) ?c1 ?c2 ?c3 ?_))
        case c1 => unfold maxLen; omega
        case c2 => omega
        case c3 => simp; omega
        intro v' w6 hown6 hgr6 _
        obtain ⟨a6, cap6, rfl⟩ := own_shape hown6
        have hz6 : w.heap.size + 2 ≤ w6.heap.size := by have := hgr6.size; simp at this; omega
        have hl6 : (ms ++ [(⟨strOfNums [97 + (ms.length : Int), 120], rt⟩ : Mem)]).length = ms.length + 1 := by simp
        have HF6 : Hid (MemsTiny (ms ++ [(⟨strOfNums [97 + (ms.length : Int), 120], rt⟩ : Mem)])) := Lib.hid (tiny_snoc HF.out ⟨by show (strOfNums [97 + (ms.length : Int), 120]).size ≤ _; rw [strOfNums_size]; simp, hrt0, hrt1⟩)
        replace HS := Lib.hid (HS.out.grown hgr6 (fun g e => by have := (KO.out.lt g e).1; omega))
        replace V0 := Lib.hid (V0.out.grown hgr6 (own_ne KO.out (by omega)))
        replace V1 := Lib.hid (V1.out.grown hgr6 (own_ne KO.out (by omega)))
        replace G := Lib.hid (grown_own G.out KO.out (by omega) hgr6)
        have HO := Lib.hid (own_as hown6 (flat_snoc Mem.enc ms _))
        have HL6 := Lib.hid hl6
        clear hown6 hgr6 KO KN hcv hl6 HF
        obtain ⟨o7, g7⟩ := V1.out.set 0 (.slice a6 (ms.length + 1) cap6)
        replace V0 := Lib.hid (V0.out.grown g7 (by simp))
        replace HS := Lib.hid (HS.out.grown g7 (fun g e => by simp at e; omega))
        replace HO := Lib.hid (HO.out.kept g7 (.inr (own_en HO.out (by omega))))
        replace G := Lib.hid (grown_over G.out g7 (by omega))
        have V7 := Lib.hid o7
        have c1 := V1.out.cell (i := 0) rfl
        have f1 := V1.out.free 0
        have hz7 : w.heap.size + 2 ≤ (w6.setCell ⟨w.heap.size + 1, 0, none⟩ (.slice a6 (ms.length + 1) cap6)).heap.size := by have := g7.size; omega
        clear o7 g7 V1
        go_wp2
        go_roundw
        case rel =>
          refine ⟨ms.length + 1, a6, cap6, ms ++ [⟨strOfNums [97 + (ms.length : Int), 120], rt⟩], by omega, by go_num, HL6.out, hz7, V0, ?_, ?_, HF6, Lib.hid (HS.out.mono (Nat.le_refl _) (by omega)), G⟩
          · rw [HL6.out]; exact V7
          · rw [HL6.out]; exact HO
        case measure => simp [intOf]; omega
    · have c1 := V1.out.cell (i := 0) rfl
      have c0 := V0.out.cell (i := 0) rfl
      have f0 := V0.out.free 0
      have c2 : (wr.setCell ⟨w.heap.size, 0, none⟩ (.slice a ms.length cap)).cell? ⟨w.heap.size, 0, none⟩ = some (.slice a ms.length cap) := (V0.out.set 0 (.slice a ms.length cap)).1.cell (i := 0) rfl
      obtain ⟨o7, g7⟩ := V0.out.set 0 (.slice a ms.length cap)
      replace HS := Lib.hid (HS.out.grown g7 (fun g e => by simp at e; omega))
      replace HO := Lib.hid (HO.out.kept g7 (.inr (own_en HO.out (by omega))))
      replace G := Lib.hid (grown_over G.out g7 (by omega))
      clear o7 g7
      go_wp2
      refine bodyPost_ret (v := .agg #[.slice a ms.length cap]) (by simp [results, Tryz.results34, go_sem, c2]) rfl ?_
      exact ⟨a, cap, ms, rfl, own_mono HO.out (by omega), by omega, HF.out, HS.out.mono (Nat.le_refl _) (by omega), G.out⟩
end Go.Proofs.YtlbnjdgfggiifaaGreatDoor
