/- The Club type's own functions in the statements (sz, to, eq, mark, held). No condition but bounds on sizes. -/
import Derived.Test.YtpodkgfapbcmlaaDoorClub
namespace Go.Proofs.YtpodkgfapbcmlaaDoor
open Go.ChangeShapes Go.WideShapes Go.ChangeAt Go.RowKit Go.Sort

set_option maxHeartbeats 400000 in
theorem szClub_any (ms : List Mem) (a : Option Addr) (cap : Nat) (left : Int) (w : World) (hm : SliceAt w 2 Mem.enc a ms) (hl : ms.length ≤ 9223372036854775807) (hf : MemsFit ms) (h0 : 0 ≤ left) (h1 : left ≤ 1048576) :
    Calls Tryd.prog 11 #[.agg #[.slice a ms.length cap], .int .i64 left] w (SzPost w left (ms.length + szAll Mem.sz ms)) := by
  have HM := Lib.hid hm; clear hm
  have hb0 : Below w.heap.size w (w.alloc (.cells #[.slice a ms.length cap] 31)) := (Below.refl _ _).alloc (Nat.le_refl _) _
  go_enter Tryd.func11, Tryd.ntmps11
  go_wp2_with fail
  refine (szMemberS_any ms a cap left _ (HM.out.kept hb0) hl hf h0 h1).mono ?_
  rintro e w2 ⟨r, rfl, h2, hb2⟩
  have hb3 := hb0.trans (hb2.mono hb0.size)
  rcases h2 with rfl | ⟨h20, h2⟩
  · go_wp2
    go_ret
    exact ⟨_, rfl, .inl rfl, hb3⟩
  · have h3 : ¬ r < 0 := by omega
    have H2 := Lib.hid h2; clear h2
    go_wp2
    go_ret
    exact ⟨_, rfl, .inr ⟨h20, H2.out⟩, hb3⟩
/-- a club in new memory -/
def ClubPost (w : World) (ms : List Mem) (en : Ending) (w' : World) : Prop :=
  ∃ g, en = .returned (.agg #[.slice (some ⟨g, 0, none⟩) ms.length ms.length]) ∧ w'.ownsRow w.heap.size 64 2 (.slice (some ⟨g, 0, none⟩) ms.length ms.length) ms.length (ms.flatMap Mem.enc) ∧ Below w.heap.size w w'
set_option maxHeartbeats 400000 in
theorem toClub_any (ms : List Mem) (a : Option Addr) (cap : Nat) (w : World) (hm : SliceAt w 2 Mem.enc a ms) (hl : ms.length ≤ 1048576) :
    Calls Tryd.prog 13 #[.agg #[.slice a ms.length cap]] w (ClubPost w ms) := by
  have HM := Lib.hid hm; clear hm
  have hb0 : Below w.heap.size w (((w.alloc (.cells #[.slice a ms.length cap] 31)).alloc (.cells #[.slice none 0 0] 36)).alloc (.cells #[.slice none 0 0] 36)) := (((Below.refl _ _).alloc (Nat.le_refl _) _).alloc (by simp) _).alloc (by simp; omega) _
  go_enter Tryd.func13, Tryd.ntmps13
  go_wp2_with fail
  refine (toMemberS_any ms a cap _ (HM.out.kept hb0) hl).mono ?_
  rintro e w2 ⟨g, rfl, ho, hb2⟩
  have hg := ho.lt g rfl
  simp only [World.size_alloc] at hg
  have c1 : w2.cell? ⟨w.heap.size + 1, 0, none⟩ = some (.slice none 0 0) := (hb2.cell (p := ⟨w.heap.size + 1, 0, none⟩) (by simp)).trans (by go_cell)
  have c2 : w2.cell? ⟨w.heap.size + 1 + 1, 0, none⟩ = some (.slice none 0 0) := (hb2.cell (p := ⟨w.heap.size + 1 + 1, 0, none⟩) (by simp)).trans (by go_cell)
  have f1 : w2.frozen? ⟨w.heap.size + 1, 0, none⟩ = false := (hb2.frozen (p := ⟨w.heap.size + 1, 0, none⟩) (by simp)).trans (by simp [go_sem])
  have f2 : w2.frozen? ⟨w.heap.size + 1 + 1, 0, none⟩ = false := (hb2.frozen (p := ⟨w.heap.size + 1 + 1, 0, none⟩) (by simp)).trans (by simp [go_sem])
  have c3 : ((w2.setCell ⟨w.heap.size + 1 + 1, 0, none⟩ (.slice (some ⟨g, 0, none⟩) ms.length ms.length)).setCell ⟨w.heap.size + 1, 0, none⟩ (.slice (some ⟨g, 0, none⟩) ms.length ms.length)).cell? ⟨w.heap.size + 1, 0, none⟩ = some (.slice (some ⟨g, 0, none⟩) ms.length ms.length) := by go_cell
  have HO := Lib.hid ho; clear ho
  go_wp2
  refine bodyPost_ret (v := .agg #[.slice (some ⟨g, 0, none⟩) ms.length ms.length]) (by simp [results, Tryd.results13, go_sem, c3]) rfl ?_
  refine ⟨g, rfl, ?_, ?_⟩
  · exact own_mono (ownsRow_setCell_below (ownsRow_setCell_below HO.out (by simp) _) (by simp) _) (by simp; omega)
  · exact ((hb0.trans (hb2.mono (by simp; omega))).setCell (by simp; omega) _).setCell (by simp) _
set_option maxHeartbeats 400000 in
theorem eqClub_any (ms : List Mem) (a b : Option Addr) (capa capb : Nat) (w : World) (ha : SliceAt w 2 Mem.enc a ms) (hb : SliceAt w 2 Mem.enc b ms) (hl : ms.length ≤ 9223372036854775807) :
    Calls Tryd.prog 15 #[.agg #[.slice a ms.length capa], .agg #[.slice b ms.length capb]] w fun e w' => e = .returned (.bool true) ∧ Below w.heap.size w w' := by
  have HA := Lib.hid ha; clear ha
  have HB := Lib.hid hb; clear hb
  have hb0 : Below w.heap.size w ((w.alloc (.cells #[.slice a ms.length capa] 36)).alloc (.cells #[.slice b ms.length capb] 36)) := ((Below.refl _ _).alloc (Nat.le_refl _) _).alloc (by simp) _
  go_enter Tryd.func15, Tryd.ntmps15
  go_wp2_with fail
  refine (eqMemberS_any ms a b capa capb _ (HA.out.kept hb0) (HB.out.kept hb0) hl).mono ?_
  rintro e w2 ⟨rfl, hb2⟩
  go_wp2
  go_ret
  exact ⟨rfl, hb0.trans (hb2.mono hb0.size)⟩
set_option maxHeartbeats 400000 in
theorem markClub_any (ms : List Mem) (a : Option Addr) (cap base : Nat) (c0 : Int) (w : World) (hm : w.ownsRow base 64 2 (.slice a ms.length cap) ms.length (ms.flatMap Mem.enc)) (hl : ms.length ≤ 9223372036854775807) (h0 : 0 ≤ c0) (h1 : c0 + 2 * ms.length ≤ 1099511627776) :
    Calls Tryd.prog 21 #[.agg #[.slice a ms.length cap], .int .i64 c0] w fun e w' => ∃ w1, Below w.heap.size w w1 ∧ MarkPost w1 base 64 2 (.slice a ms.length cap) ms.length ((Mem.marks c0 ms.length).flatMap Mem.enc) (c0 + 2 * ms.length) e w' := by
  have HM := Lib.hid hm; clear hm
  have hb0 : Below w.heap.size w (w.alloc (.cells #[.slice a ms.length cap] 36)) := (Below.refl _ _).alloc (Nat.le_refl _) _
  go_enter Tryd.func21, Tryd.ntmps21
  go_wp2_with fail
  refine (markMemberS_any ms a cap base c0 _ (own_below HM.out hb0) hl h0 h1).mono ?_
  rintro e w2 ⟨rfl, ho, hg⟩
  have HO := Lib.hid ho; clear ho
  have HG := Lib.hid hg; clear hg
  go_wp2
  go_ret
  exact ⟨_, hb0, rfl, HO.out, HG.out⟩
set_option maxHeartbeats 400000 in
theorem heldClub_any (len : Nat) (a : Option Addr) (cap : Nat) (c0 : Int) (w : World) (hm : SliceAt w 2 Mem.enc a (Mem.marks c0 len)) (hl : len ≤ 9223372036854775807) (h0 : 0 ≤ c0) (h1 : c0 + 2 * len ≤ 1099511627776) :
    Calls Tryd.prog 22 #[.agg #[.slice a len cap], .int .i64 c0] w fun e w' => e = .returned (.int .i64 (c0 + 2 * len)) ∧ Below w.heap.size w w' := by
  have HM := Lib.hid hm; clear hm
  have hb0 : Below w.heap.size w (w.alloc (.cells #[.slice a len cap] 36)) := (Below.refl _ _).alloc (Nat.le_refl _) _
  have hx : ¬ c0 + 2 * (len : Int) < 0 := by omega
  go_enter Tryd.func22, Tryd.ntmps22
  go_wp2_with fail
  refine (heldMemberS_any len a cap c0 _ (HM.out.kept hb0) hl h0 h1).mono ?_
  rintro e w2 ⟨rfl, hb2⟩
  go_wp2
  go_ret
  exact ⟨rfl, hb0.trans (hb2.mono hb0.size)⟩
end Go.Proofs.YtpodkgfapbcmlaaDoor
