/- Contract: the reference's draw for WrongWords. Nothing is said of what comes but that its texts are short. -/
import Derived.Test.YtjdcdhhbgijaoaaGreatDoorDbQ
import Derived.Test.YtjdcdhhbgijaoaaGreatDoorLxE
import Derived.Deep.DeepCutAuto
namespace Go.Proofs.YtjdcdhhbgijaoaaGreatDoor
open Go.ChangeShapes Go.WideShapes Go.ChangeAt Go.RowKit Go.Sort

/-- what WrongWords is asked comes back -/
def WrongOut (w : World) (e : Ending) (w' : World) : Prop :=
  ∃ (bd : Brd) (p : Ply) (g m cap : Nat) (ys : List ByteArray), bd.premium.size ≤ 300 ∧ bd.cells.size ≤ 300 ∧ p.word.size ≤ 20 ∧ ys.length = m ∧ m ≤ 202 ∧ (∀ x ∈ ys, x.size ≤ 20) ∧ e = .returned (.tuple #[.agg #[.int .i64 bd.size, .string bd.premium, .string bd.cells], .agg #[.slice (some ⟨g, 0, none⟩) m cap], .agg #[.int .i64 p.row, .int .i64 p.col, .bool p.down, .string p.word]]) ∧ SliceAt w' 1 Tx.enc (some ⟨g, 0, none⟩) ys ∧ Below w.heap.size w w'
set_option maxRecDepth 100000 in
set_option maxHeartbeats 2000000 in
theorem DrawWrongWords_any (ca : Option Addr) (ccap : Nat) (bs : List Int) (w : World) (hc : CodeAt w w.heap.size ca bs) : Calls Tryz.prog 60 #[.slice ca bs.length ccap] w (WrongOut w) := by
  obtain ⟨w1, hw1⟩ : ∃ w1, w1 = ((w.alloc (.cells #[.int .i64 0, .string ⟨#[]⟩, .string ⟨#[]⟩] 25)).alloc (.cells #[.slice none 0 0] 28)).alloc (.cells #[.int .i64 0, .int .i64 0, .bool false, .string ⟨#[]⟩] 30) := ⟨_, rfl⟩
  have hb : Below w.heap.size w w1 := by rw [hw1]; exact (((Below.refl _ _).alloc (Nat.le_refl _) _).alloc (by simp) _).alloc (by simp; omega) _
  have hz1 : w1.heap.size = w.heap.size + 1 + 1 + 1 := by rw [hw1]; simp
  have V2 : Hid (VarAt w1 w.heap.size 25 [.int .i64 0, .string ⟨#[]⟩, .string ⟨#[]⟩]) := by
    rw [hw1]
    exact Lib.hid (((VarAt.new w 25 [.int .i64 0, .string ⟨#[]⟩, .string ⟨#[]⟩]).kept ((Below.refl _ _).alloc (Nat.le_refl _) _)).kept ((Below.refl _ _).alloc (Nat.le_refl _) _))
  have V3 : Hid (VarAt w1 (w.heap.size + 1) 28 [.slice none 0 0]) := by
    rw [hw1]
    have := (VarAt.new (w.alloc (.cells #[.int .i64 0, .string ⟨#[]⟩, .string ⟨#[]⟩] 25)) 28 [.slice none 0 0]).kept ((Below.refl _ _).alloc (Nat.le_refl _) (.cells #[.int .i64 0, .int .i64 0, .bool false, .string ⟨#[]⟩] 30))
    simp only [World.size_alloc] at this
    exact Lib.hid this
  have V5 : Hid (VarAt w1 (w.heap.size + 1 + 1) 30 [.int .i64 0, .int .i64 0, .bool false, .string ⟨#[]⟩]) := by
    rw [hw1]
    have := VarAt.new ((w.alloc (.cells #[.int .i64 0, .string ⟨#[]⟩, .string ⟨#[]⟩] 25)).alloc (.cells #[.slice none 0 0] 28)) 30 [.int .i64 0, .int .i64 0, .bool false, .string ⟨#[]⟩]
    simp only [World.size_alloc] at this
    exact Lib.hid this
  have HC : Hid (CodeAt w1 w1.heap.size ca bs) := by
    obtain ⟨c1, c2, c3, c4⟩ := hc
    exact Lib.hid ⟨c1.kept hb, c2, c3, fun h0 cb co e => by have := c4 h0 cb co e; omega⟩
  have HW1 := Lib.hid hw1
  clear hc hw1
  go_enter Tryz.func60, Tryz.ntmps60
  go_upto_region 1 with fail
  rw [← HW1.out]
  clear HW1
  have HZ1 := Lib.hid hz1
  clear hz1
  go_wp2_with fail
  refine (l00From_any ca ccap bs _ HC.out).mono ?_
  rintro e w2 ⟨rfl, h2, s2, hz2⟩
  have hz1 := HZ1.out
  have HS := Lib.hid s2
  replace V2 := Lib.hid (V2.out.kept h2)
  replace V3 := Lib.hid (V3.out.kept h2)
  replace V5 := Lib.hid (V5.out.kept h2)
  replace hb := hb.trans (h2.mono hb.size)
  have hz3 : w1.heap.size + 1 ≤ w2.heap.size := by omega
  have hz4 : w.heap.size + 1 + 1 < w1.heap.size := by omega
  generalize w1.heap.size = B1 at *
  clear h2 s2 HC hz1 HZ1 hz2
  go_wp2_with fail
  refine (l12Bent_any (B1 + 1) B1 0 _ HS.out (by omega) hz3).mono ?_
  rintro e w3 ⟨bd, p, hP, hC, hW, rfl, s3, g3⟩
  have hz5 := g3.size
  replace V2 := Lib.hid (V2.out.grown g3 (by simp; omega))
  replace V3 := Lib.hid (V3.out.grown g3 (by simp; omega))
  replace V5 := Lib.hid (V5.out.grown g3 (by simp; omega))
  replace HS := Lib.hid s3
  replace hb := hb.grown g3 hb.size (fun q h => by cases h; omega)
  clear g3 s3
  have hd : Below w3.heap.size w3 ((w3.alloc (.cells #[.int .i64 bd.size, .string bd.premium, .string bd.cells] 25)).alloc (.cells #[.int .i64 p.row, .int .i64 p.col, .bool p.down, .string p.word] 30)) := ((Below.refl _ _).alloc (Nat.le_refl _) _).alloc (by simp) _
  have V6 := Lib.hid ((VarAt.new w3 25 [.int .i64 bd.size, .string bd.premium, .string bd.cells]).kept ((Below.refl _ _).alloc (Nat.le_refl _) (.cells #[.int .i64 p.row, .int .i64 p.col, .bool p.down, .string p.word] 30)))
  have V7 : Hid (VarAt ((w3.alloc (.cells #[.int .i64 bd.size, .string bd.premium, .string bd.cells] 25)).alloc (.cells #[.int .i64 p.row, .int .i64 p.col, .bool p.down, .string p.word] 30)) (w3.heap.size + 1) 30 [.int .i64 p.row, .int .i64 p.col, .bool p.down, .string p.word]) := by
    have := VarAt.new (w3.alloc (.cells #[.int .i64 bd.size, .string bd.premium, .string bd.cells] 25)) 30 [.int .i64 p.row, .int .i64 p.col, .bool p.down, .string p.word]
    simp only [World.size_alloc] at this
    exact Lib.hid this
  replace V2 := Lib.hid (V2.out.kept hd)
  replace V3 := Lib.hid (V3.out.kept hd)
  replace V5 := Lib.hid (V5.out.kept hd)
  replace HS := Lib.hid (HS.out.kept hd)
  replace hb := hb.trans ((hd).mono hb.size)
  clear hd
  go_upto_region 3 with fail
  generalize (w3.alloc (.cells #[.int .i64 bd.size, .string bd.premium, .string bd.cells] 25)).alloc (.cells #[.int .i64 p.row, .int .i64 p.col, .bool p.down, .string p.word] 30) = w4 at *
  have hB6 : w.heap.size + 1 + 1 < w3.heap.size := by omega
  have hB6b : B1 + 1 ≤ w3.heap.size := by omega
  generalize w3.heap.size = B6 at *
  clear hz5
  have hlt7 := V7.out.lt
  go_wp2_with fail
  refine (l05Bent_any (B1 + 1) B1 _ _ HS.out (by omega) (by omega)).mono ?_
  rintro e w5 ⟨g, m, cap, ys, rfl, hl, hm, hy, ho, s5, g5⟩
  have hz6 := g5.size
  have hg := (ho.lt g rfl).1
  replace V2 := Lib.hid (V2.out.grown g5 (by simp; omega))
  replace V3 := Lib.hid (V3.out.grown g5 (by simp; omega))
  replace V5 := Lib.hid (V5.out.grown g5 (by simp; omega))
  replace V6 := Lib.hid (V6.out.grown g5 (by simp; omega))
  replace V7 := Lib.hid (V7.out.grown g5 (by simp; omega))
  replace HS := Lib.hid s5
  replace hb := hb.grown g5 hb.size (fun q h => by cases h; omega)
  clear g5 s5
  have hx : Below w5.heap.size w5 (w5.alloc (.cells #[.slice (some ⟨g, 0, none⟩) m cap] 28)) := (Below.refl _ _).alloc (Nat.le_refl _) _
  have V8 := Lib.hid (VarAt.new w5 28 [.slice (some ⟨g, 0, none⟩) m cap])
  have HO := Lib.hid (own_mono (own_below ho hx) (show w.heap.size + 1 + 1 + 1 ≤ _ by omega))
  replace V2 := Lib.hid (V2.out.kept hx)
  replace V3 := Lib.hid (V3.out.kept hx)
  replace V5 := Lib.hid (V5.out.kept hx)
  replace HS := Lib.hid (HS.out.kept hx)
  replace hb := hb.trans ((hx).mono hb.size)
  replace V6 := Lib.hid (V6.out.kept hx)
  replace V7 := Lib.hid (V7.out.kept hx)
  have hB8 : B6 + 1 < w5.heap.size := by omega
  clear hx ho hz6
  go_upto_region 4 with fail
  generalize w5.alloc (.cells #[.slice (some ⟨g, 0, none⟩) m cap] 28) = wE at *
  generalize w5.heap.size = B8 at *
  have hgw : w.heap.size + 1 + 1 + 1 ≤ g := by omega
  clear hg hlt7
  have hd : Below wE.heap.size wE wE.drew := (Below.refl _ _).drew
  replace V2 := Lib.hid (V2.out.kept hd)
  replace V3 := Lib.hid (V3.out.kept hd)
  replace V5 := Lib.hid (V5.out.kept hd)
  replace HS := Lib.hid (HS.out.kept hd)
  replace hb := hb.trans ((hd).mono hb.size)
  replace V6 := Lib.hid (V6.out.kept hd)
  replace V7 := Lib.hid (V7.out.kept hd)
  replace V8 := Lib.hid (V8.out.kept hd)
  replace HO := Lib.hid (own_below HO.out hd)
  clear hd HS
  refine wp_region_held_drew (S := fun W => W.rangeAt B6 0 [.int .i64 bd.size, .string bd.premium, .string bd.cells] ∧ W.rangeAt B8 0 [.slice (some ⟨g, 0, none⟩) m cap] ∧ W.rangeAt (B6 + 1) 0 [.int .i64 p.row, .int .i64 p.col, .bool p.down, .string p.word]) (by kernel_rfl) ⟨V6.out.range, V8.out.range, V7.out.range⟩ (fun hHeld => ?_)
  generalize World.drew _ = wD at *
  refine slotA 0 18 (.agg #[.int .i64 bd.size, .string bd.premium, .string bd.cells]) ?_ (hy := yieldsIf_load_mid (by rfl) 25 _ rfl B6 0 rfl [.int .i64 bd.size, .string bd.premium, .string bd.cells] _ (fun w' hS => hS.1) Tryz.underlying25 rfl (by kernel_rfl))
  simp only [S3]
  refine slotA 1 19 (.agg #[.slice (some ⟨g, 0, none⟩) m cap]) ?_ (hy := yieldsIf_load_mid (by rfl) 28 _ rfl B8 0 rfl [.slice (some ⟨g, 0, none⟩) m cap] _ (fun w' hS => hS.2.1) Tryz.underlying28 rfl (by kernel_rfl))
  simp only [S3]
  refine slotA 2 20 (.agg #[.int .i64 p.row, .int .i64 p.col, .bool p.down, .string p.word]) ?_ (hy := yieldsIf_load_mid (by rfl) 30 _ rfl (B6 + 1) 0 rfl [.int .i64 p.row, .int .i64 p.col, .bool p.down, .string p.word] _ (fun w' hS => hS.2.2) Tryz.underlying30 rfl (by kernel_rfl))
  simp only [S3]
  clear hHeld
  refine wpAnyH_ready (rs := [3]) (by kernel_rfl) (by simp) ?_
  refine AllReadyH.cons (o := _) rfl (fun K hK => ?_) AllReadyH.nil
  obtain ⟨o2, GG⟩ := V2.out.put [.int .i64 bd.size, .string bd.premium, .string bd.cells] rfl
  have tR := V2.out.there (n := 3) rfl
  refine mk_store rfl rfl 25 (.tmp 2) (.tmp 18) rfl w.heap.size 0 #[.int .i64 bd.size, .string bd.premium, .string bd.cells] rfl rfl tR (by kernel_rfl) (by simp [Value.oneCell']) ?_
  replace hb := hb.grown GG hb.size (fun q h => by cases h; omega)
  replace V6 := Lib.hid (V6.out.grown GG (by simp; omega))
  replace V7 := Lib.hid (V7.out.grown GG (by simp; omega))
  replace V8 := Lib.hid (V8.out.grown GG (by simp; omega))
  replace HO := Lib.hid (own_aside HO.out GG (by first | omega | (dsimp only; omega)))
  replace V3 := Lib.hid (V3.out.grown GG (by simp <;> omega))
  replace V5 := Lib.hid (V5.out.grown GG (by simp <;> omega))
  replace V2 := Lib.hid o2
  refine hK.out _ _ ⟨V6.out.range, V8.out.range, V7.out.range⟩ (fun hHeld9 => ?_)
  clear hK K tR o2 GG hHeld9
  change wpAnyH _ _ _ _ _ _ _ _ (World.setCells _ w.heap.size 0 [.int .i64 bd.size, .string bd.premium, .string bd.cells])
  generalize World.setCells _ w.heap.size 0 [.int .i64 bd.size, .string bd.premium, .string bd.cells] = wz at *
  refine wpAnyH_ready (rs := [4]) (by kernel_rfl) (by simp) ?_
  refine AllReadyH.cons (o := _) rfl (fun K hK => ?_) AllReadyH.nil
  obtain ⟨o2, GG⟩ := V3.out.put [.slice (some ⟨g, 0, none⟩) m cap] rfl
  have tR := V3.out.there (n := 1) rfl
  refine mk_store rfl rfl 28 (.tmp 3) (.tmp 19) rfl (w.heap.size + 1) 0 #[.slice (some ⟨g, 0, none⟩) m cap] rfl rfl tR (by kernel_rfl) (by simp [Value.oneCell']) ?_
  replace hb := hb.grown GG hb.size (fun q h => by cases h; omega)
  replace V6 := Lib.hid (V6.out.grown GG (by simp; omega))
  replace V7 := Lib.hid (V7.out.grown GG (by simp; omega))
  replace V8 := Lib.hid (V8.out.grown GG (by simp; omega))
  replace HO := Lib.hid (own_aside HO.out GG (by first | omega | (dsimp only; omega)))
  replace V2 := Lib.hid (V2.out.grown GG (by simp <;> omega))
  replace V5 := Lib.hid (V5.out.grown GG (by simp <;> omega))
  replace V3 := Lib.hid o2
  refine hK.out _ _ ⟨V6.out.range, V8.out.range, V7.out.range⟩ (fun hHeld9 => ?_)
  clear hK K tR o2 GG hHeld9
  change wpAnyH _ _ _ _ _ _ _ _ (World.setCells _ (w.heap.size + 1) 0 [.slice (some ⟨g, 0, none⟩) m cap])
  generalize World.setCells _ (w.heap.size + 1) 0 [.slice (some ⟨g, 0, none⟩) m cap] = wz at *
  refine wpAnyH_ready (rs := [5]) (by kernel_rfl) (by simp) ?_
  refine AllReadyH.cons (o := _) rfl (fun K hK => ?_) AllReadyH.nil
  obtain ⟨o2, GG⟩ := V5.out.put [.int .i64 p.row, .int .i64 p.col, .bool p.down, .string p.word] rfl
  have tR := V5.out.there (n := 4) rfl
  refine mk_store rfl rfl 30 (.tmp 4) (.tmp 20) rfl (w.heap.size + 1 + 1) 0 #[.int .i64 p.row, .int .i64 p.col, .bool p.down, .string p.word] rfl rfl tR (by kernel_rfl) (by simp [Value.oneCell']) ?_
  replace hb := hb.grown GG hb.size (fun q h => by cases h; omega)
  replace V6 := Lib.hid (V6.out.grown GG (by simp; omega))
  replace V7 := Lib.hid (V7.out.grown GG (by simp; omega))
  replace V8 := Lib.hid (V8.out.grown GG (by simp; omega))
  replace HO := Lib.hid (own_aside HO.out GG (by first | omega | (dsimp only; omega)))
  replace V2 := Lib.hid (V2.out.grown GG (by simp <;> omega))
  replace V3 := Lib.hid (V3.out.grown GG (by simp <;> omega))
  replace V5 := Lib.hid o2
  refine hK.out _ _ ⟨V6.out.range, V8.out.range, V7.out.range⟩ (fun hHeld9 => ?_)
  clear hK K tR o2 GG hHeld9
  change wpAnyH _ _ _ _ _ _ _ _ (World.setCells _ (w.heap.size + 1 + 1) 0 [.int .i64 p.row, .int .i64 p.col, .bool p.down, .string p.word])
  generalize World.setCells _ (w.heap.size + 1 + 1) 0 [.int .i64 p.row, .int .i64 p.col, .bool p.down, .string p.word] = wz at *
  refine wpAnyH_done (by kernel_rfl) ?_ _
  have e0 := V2.out.cell (i := 0) (v := .int .i64 bd.size) rfl
  have e1 := V2.out.cell (i := 1) (v := .string bd.premium) rfl
  have e2 := V2.out.cell (i := 2) (v := .string bd.cells) rfl
  have l0 := V3.out.cell (i := 0) (v := .slice (some ⟨g, 0, none⟩) m cap) rfl
  have u0 := V5.out.cell (i := 0) (v := .int .i64 p.row) rfl
  have u1 := V5.out.cell (i := 1) (v := .int .i64 p.col) rfl
  have u2 := V5.out.cell (i := 2) (v := .bool p.down) rfl
  have u3 := V5.out.cell (i := 3) (v := .string p.word) rfl
  clear V2 V3 V5 V6 V7 V8
  go_wp2
  refine bodyPost_ret (v := .tuple #[.agg #[.int .i64 bd.size, .string bd.premium, .string bd.cells], .agg #[.slice (some ⟨g, 0, none⟩) m cap], .agg #[.int .i64 p.row, .int .i64 p.col, .bool p.down, .string p.word]]) (by simp [results, Tryz.results60, go_sem, e0, e1, e2, l0, u0, u1, u2, u3]) rfl ?_
  exact ⟨bd, p, g, m, cap, ys, hP, hC, hW, hl, hm, hy, rfl, own_slice Tx.enc_len HO.out hl.symm, hb⟩
end Go.Proofs.YtjdcdhhbgijaoaaGreatDoor
