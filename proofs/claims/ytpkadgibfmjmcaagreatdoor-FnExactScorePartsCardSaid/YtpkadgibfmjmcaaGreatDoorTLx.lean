/- Contracts: the statements' own size, copy and comparison of a grid and of a lexicon. No condition but that a length fits an int. -/
import Derived.Test.YtpkadgibfmjmcaaGreatDoorTStr
import Derived.Test.YtpkadgibfmjmcaaGreatDoorTInt
namespace Go.Proofs.YtpkadgibfmjmcaaGreatDoor
open Go.ChangeShapes Go.WideShapes Go.ChangeAt Go.RowKit Go.Sort

set_option maxHeartbeats 400000 in
theorem szLexicon_any (ms : List ByteArray) (a : Option Addr) (cap : Nat) (left : Int) (w : World) (hm : SliceAt w 1 Tx.enc a ms) (hl : ms.length ≤ 9223372036854775807) (hf : ∀ m ∈ ms, m.size ≤ 9223372036854775807) (h0 : 0 ≤ left) (h1 : left ≤ 1048576) :
    Calls Tryz.prog 23 #[.agg #[.slice a ms.length cap], .int .i64 left] w (SzPost w left (ms.length + szAll ByteArray.size ms)) := by
  have HM := Lib.hid hm; clear hm
  have hb0 : Below w.heap.size w (w.alloc (.cells #[.slice a ms.length cap] 47)) := (Below.refl _ _).alloc (Nat.le_refl _) _
  go_enter Tryz.func23, Tryz.ntmps23
  go_wp2_with fail
  refine (szStringS_any ms a cap left _ (HM.out.kept hb0) hl hf h0 h1).mono ?_
  rintro e w2 ⟨r, rfl, h2, hb2⟩
  have hb3 := hb0.trans (hb2.mono hb0.size)
  rcases h2 with rfl | ⟨h20, h2⟩
  · go_wp2
    go_ret
    exact ⟨_, rfl, .inl rfl, hb3⟩
  · have h3 : ¬ r < 0 := by omega
    have H2 := Lib.hid h2; clear h2
    go_wp2
    go_ret
    exact ⟨_, rfl, .inr ⟨h20, H2.out⟩, hb3⟩
/-- a lexicon in new memory -/
def LexPost (w : World) (ms : List ByteArray) (en : Ending) (w' : World) : Prop :=
  ∃ g, en = .returned (.agg #[.slice (some ⟨g, 0, none⟩) ms.length ms.length]) ∧ w'.ownsRow w.heap.size 9 1 (.slice (some ⟨g, 0, none⟩) ms.length ms.length) ms.length (ms.flatMap Tx.enc) ∧ Below w.heap.size w w'
set_option maxHeartbeats 400000 in
theorem toLexicon_any (ms : List ByteArray) (a : Option Addr) (cap : Nat) (w : World) (hm : SliceAt w 1 Tx.enc a ms) (hl : ms.length ≤ 1048576) :
    Calls Tryz.prog 25 #[.agg #[.slice a ms.length cap]] w (LexPost w ms) := by
  have HM := Lib.hid hm; clear hm
  have hb0 : Below w.heap.size w (((w.alloc (.cells #[.slice a ms.length cap] 47)).alloc (.cells #[.slice none 0 0] 50)).alloc (.cells #[.slice none 0 0] 50)) := (((Below.refl _ _).alloc (Nat.le_refl _) _).alloc (by simp) _).alloc (by simp; omega) _
  go_enter Tryz.func25, Tryz.ntmps25
  go_wp2_with fail
  refine (toStringS_any ms a cap _ (HM.out.kept hb0) hl).mono ?_
  rintro e w2 ⟨g, rfl, ho, hb2⟩
  have hg := ho.lt g rfl
  simp only [World.size_alloc] at hg
  have c1 : w2.cell? ⟨w.heap.size + 1, 0, none⟩ = some (.slice none 0 0) := (hb2.cell (p := ⟨w.heap.size + 1, 0, none⟩) (by simp)).trans (by go_cell)
  have c2 : w2.cell? ⟨w.heap.size + 1 + 1, 0, none⟩ = some (.slice none 0 0) := (hb2.cell (p := ⟨w.heap.size + 1 + 1, 0, none⟩) (by simp)).trans (by go_cell)
  have f1 : w2.frozen? ⟨w.heap.size + 1, 0, none⟩ = false := (hb2.frozen (p := ⟨w.heap.size + 1, 0, none⟩) (by simp)).trans (by simp [go_sem])
  have f2 : w2.frozen? ⟨w.heap.size + 1 + 1, 0, none⟩ = false := (hb2.frozen (p := ⟨w.heap.size + 1 + 1, 0, none⟩) (by simp)).trans (by simp [go_sem])
  have c3 : ((w2.setCell ⟨w.heap.size + 1 + 1, 0, none⟩ (.slice (some ⟨g, 0, none⟩) ms.length ms.length)).setCell ⟨w.heap.size + 1, 0, none⟩ (.slice (some ⟨g, 0, none⟩) ms.length ms.length)).cell? ⟨w.heap.size + 1, 0, none⟩ = some (.slice (some ⟨g, 0, none⟩) ms.length ms.length) := by go_cell
  have HO := Lib.hid ho; clear ho
  go_wp2
  refine bodyPost_ret (v := .agg #[.slice (some ⟨g, 0, none⟩) ms.length ms.length]) (by simp [results, Tryz.results25, go_sem, c3]) rfl ?_
  refine ⟨g, rfl, ?_, ?_⟩
  · exact own_mono (ownsRow_setCell_below (ownsRow_setCell_below HO.out (by simp) _) (by simp) _) (by simp; omega)
  · exact ((hb0.trans (hb2.mono (by simp; omega))).setCell (by simp; omega) _).setCell (by simp) _
set_option maxHeartbeats 400000 in
theorem eqLexicon_any (ms : List ByteArray) (a b : Option Addr) (capa capb : Nat) (w : World) (ha : SliceAt w 1 Tx.enc a ms) (hb : SliceAt w 1 Tx.enc b ms) (hl : ms.length ≤ 9223372036854775807) :
    Calls Tryz.prog 27 #[.agg #[.slice a ms.length capa], .agg #[.slice b ms.length capb]] w fun e w' => e = .returned (.bool true) ∧ Below w.heap.size w w' := by
  have HA := Lib.hid ha; clear ha
  have HB := Lib.hid hb; clear hb
  have hb0 : Below w.heap.size w ((w.alloc (.cells #[.slice a ms.length capa] 50)).alloc (.cells #[.slice b ms.length capb] 50)) := ((Below.refl _ _).alloc (Nat.le_refl _) _).alloc (by simp) _
  go_enter Tryz.func27, Tryz.ntmps27
  go_wp2_with fail
  refine (eqStringS_any ms a b capa capb _ (HA.out.kept hb0) (HB.out.kept hb0) hl).mono ?_
  rintro e w2 ⟨rfl, hb2⟩
  go_wp2
  go_ret
  exact ⟨rfl, hb0.trans (hb2.mono hb0.size)⟩
end Go.Proofs.YtpkadgibfmjmcaaGreatDoor
