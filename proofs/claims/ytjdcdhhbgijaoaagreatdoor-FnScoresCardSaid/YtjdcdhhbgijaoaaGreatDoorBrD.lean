/- Contracts: the reference's boards turned over, small letters, strings reversed. For boards of at most 15 rows. · Contracts: the reference's small letters and reversed strings. For strings of at most 2^20 bytes. · Contracts: the program's reversed strings and small letters of ASCII strings. For strings of at most 2^20 bytes. · Contracts: the reference's letters around a square. For valid boards. -/
import Derived.Test.YtjdcdhhbgijaoaaGreatDoorBrA
import Derived.Test.YtjdcdhhbgijaoaaGreatDoorVar
import Derived.OwnWalk
import Derived.Laws.AppendOwn
import Derived.Deep.DeepMust
import Derived.Deep.RegionLaw
import Derived.StillTailTactics
import Derived.Test.YtjdcdhhbgijaoaaGreatDoorShq
namespace Go.Proofs.YtjdcdhhbgijaoaaGreatDoor
open Go.ChangeShapes Go.WideShapes Go.ChangeAt Go.RowKit Go.Sort

/-! ### Plain -/
theorem turnB_take {n : Nat} {L : List UInt8} {c r m : Nat} (hc : c < n) (hr : r < n) (hm : m = c * n + r) : (turnB n L).take (m + 1) = (turnB n L).take m ++ [L.getD (r * n + c) 0] := by
  have h1 : c * n + r < n * n := row_ltn hc hr
  have hlt : m < (turnB n L).length := by rw [turnB_len, hm]; exact h1
  rw [List.take_succ_eq_append_getElem hlt]
  congr 1
  have h2 : (turnB n L).getD m 0 = L.getD (r * n + c) 0 := by rw [hm]; exact turnB_get hc hr
  rw [List.getD_eq_getElem?_getD, List.getElem?_eq_getElem hlt] at h2
  simpa using h2
theorem getD_byt {s : ByteArray} {k : Nat} (h : k < s.size) : s.data.toList.getD k 0 = s[k] := by
  rw [List.getD_eq_getElem?_getD, List.getElem?_eq_getElem (by simpa using h)]
  rfl
theorem snoc_flat {α : Type} (f : α → List Value) (xs : List α) (x : α) : (xs ++ [x]).flatMap f = xs.flatMap f ++ f x := by simp
set_option maxRecDepth 100000 in
set_option maxHeartbeats 4000000 in
theorem l11Turn_any (n : Nat) (s : ByteArray) (w : World) (hn : n ≤ 15) (hz : s.size = n * n) :
    Calls Tryz.prog 245 #[.int .i64 n, .string s] w fun e w' => e = .returned (.string (mkB (turnB n s.data.toList))) ∧ Below w.heap.size w w' := by
  obtain ⟨i0, hi0, hi1, hi2, hi3⟩ := info_parts infoByte
  obtain ⟨w3, hw3⟩ : ∃ w3, w3 = w.alloc (.cells #[] 5) := ⟨_, rfl⟩
  have hb : Below w.heap.size w w3 := by rw [hw3]; exact (Below.refl _ _).alloc (Nat.le_refl _) _
  have HO : Hid (w3.ownsRow w.heap.size 5 1 (.slice (some ⟨w.heap.size, 0, none⟩) 0 0) 0 []) := by
    rw [hw3]
    exact Lib.hid (World.ownsRow_made (base := w.heap.size) (e := 5) (size := 1) w #[] 0 (by simp) (by unfold maxLen; omega) rfl)
  have HZ := Lib.hid hz
  have HLN := Lib.hid (turnB_len n s.data.toList)
  have HTK := Lib.hid (fun (c r m : Nat) (h1 : c < n) (h2 : r < n) (h3 : m = c * n + r) => turnB_take (L := s.data.toList) h1 h2 h3)
  have HW3 := Lib.hid hw3
  clear hz hw3
  go_enter Tryz.func245, Tryz.ntmps245
  go_wp2_with fail
  rw [← HW3.out]
  clear HW3
  go_loopw [5, 6] (fun ov iv wr => ∃ (c m g cap : Nat), c ≤ n ∧ iv = .int .i64 c ∧ ov = .slice (some ⟨g, 0, none⟩) m cap ∧ Hid (m = c * n) ∧ m ≤ 225 ∧ Hid (wr.ownsRow w.heap.size 5 1 (.slice (some ⟨g, 0, none⟩) m cap) m (((turnB n s.data.toList).take m).flatMap U8.enc)) ∧ Below w.heap.size w wr) (fun _ iv _ => n - (intOf iv).toNat)
  case atStart => exact ⟨0, 0, _, 0, Nat.zero_le _, rfl, rfl, Lib.hid (by simp), by omega, HO, hb⟩
  case round =>
    clear HO hb
    obtain ⟨c, m, g, cap, hc, rfl, rfl, HN, hm, HO, hb⟩ := hrel
    by_cases hlt : c < n
    · go_wp2_with fail
      obtain ⟨wo, rfl⟩ : ∃ wo : World, wo = wr := ⟨_, rfl⟩
      go_loopw [5, 7] (fun ov iv wr => ∃ (r m g cap : Nat), r ≤ n ∧ iv = .int .i64 r ∧ ov = .slice (some ⟨g, 0, none⟩) m cap ∧ Hid (m = c * n + r) ∧ m ≤ 225 ∧ Hid (wr.ownsRow w.heap.size 5 1 (.slice (some ⟨g, 0, none⟩) m cap) m (((turnB n s.data.toList).take m).flatMap U8.enc)) ∧ Below w.heap.size w wr) (fun _ iv _ => n - (intOf iv).toNat)
      case atStart => exact ⟨0, m, g, cap, Nat.zero_le _, rfl, rfl, Lib.hid (by rw [HN.out]; rfl), hm, HO, hb⟩
      case round =>
        clear HO hb hm HN
        obtain ⟨r, m, g2, cap2, hr, rfl, rfl, HM, hm, HO, hb⟩ := hrel
        by_cases hr2 : r < n
        · have HT := Lib.hid (HTK.out c r m hlt hr2 HM.out)
          have hlt2 := row_ltn hr2 hlt
          have hsm := sq_mono hn
          have hm2 : m < 225 := by
            have h1 := HM.out
            have h2 := row_ltn hlt hr2
            omega
          have HM2 : Hid (m + 1 = c * n + (r + 1)) := Lib.hid (by have := HM.out; omega)
          obtain ⟨q, hq⟩ : ∃ q, q = r * n := ⟨_, rfl⟩
          have hqi : (r : Int) * (n : Int) = (q : Int) := by rw [hq]; push_cast; rfl
          have hqs : q + c < s.size := by have := HZ.out; omega
          have HY : Hid (s.data.toList.getD (r * n + c) 0 = s[q + c]) := Lib.hid (by rw [← hq]; exact getD_byt hqs)
          rw [HY.out] at HT
          have hq3 : q ≤ 225 := by omega
          clear HM HY hlt2 hq hsm
          have hx : Below wr.heap.size wr (wr.alloc (.cells #[.int .u8 (s[q + c].toNat : Int)] 5)) := (Below.refl _ _).alloc (Nat.le_refl _) _
          have KN := Lib.hid (new_byte wr s[q + c] 5)
          replace HO := Lib.hid (own_below HO.out hx)
          have hz2 := hb.size
          replace hb := hb.trans (hx.mono hb.size)
          clear hx
          go_wp2_with (at_builtin; go_must (refine wpList_append_own _ rfl (.tmp 19) (.tmp 27) 22 rfl w.heap.size 5 i0 _ 1 1 Tryz.underlying22 hi0 hi1 hi2 hi3 rfl (by decide) _ m (((turnB n s.data.toList).take m).flatMap U8.enc) (by rfl) HO.out ⟨wr.heap.size, 0, none⟩ 1 1 (U8.enc s[q + c]) (by rfl) rfl KN.out (u8_one1 s[q + c]) ?c1 ?c2 ?c3 ?_))
          case c1 => unfold maxLen; omega
          case c2 => omega
          case c3 => (first | omega | (simp only [World.size_alloc]; omega))
          intro v' w7 hown hgr hnil
          obtain ⟨g7, cap7, rfl, _⟩ := own_some hown (fun e => by have h := hnil; rw [e] at h; simp at h)
          have hb7 := hb.grown hgr hb.size (fun q e => by have := (HO.out.lt q e).1; omega)
          have HO7 : Hid (w7.ownsRow w.heap.size 5 1 (.slice (some ⟨g7, 0, none⟩) (m + 1) cap7) (m + 1) (((turnB n s.data.toList).take (m + 1)).flatMap U8.enc)) := Lib.hid (by
            rw [HT.out, snoc_flat U8.enc]; exact hown)
          clear hown hgr hnil KN HO hb HT
          go_wp2
          go_roundw
          case rel => exact ⟨r + 1, m + 1, g7, cap7, by omega, by go_num, by go_num, HM2, by omega, HO7, hb7⟩
          case measure => simp [intOf]; omega
        · obtain rfl : r = n := by omega
          have HM2 : Hid (m = (c + 1) * r) := Lib.hid (by rw [Nat.succ_mul]; exact HM.out)
          clear HM
          go_wp2
          go_roundw
          case rel => exact ⟨c + 1, m, g2, cap2, by omega, by go_num, rfl, HM2, hm, HO, hb⟩
          case measure => simp [intOf]; omega
    · obtain rfl : c = n := by omega
      have HE : Hid ((turnB c s.data.toList).take m = turnB c s.data.toList) := Lib.hid (List.take_of_length_le (by rw [HLN.out, HN.out]; exact Nat.le_refl _))
      have hO := HO.out
      rw [HE.out] at hO
      have HNL : Hid (m = (turnB c s.data.toList).length) := Lib.hid (by rw [HN.out, HLN.out])
      generalize hP : turnB c s.data.toList = P at *
      have HP := Lib.hid hP
      clear hP HO HE HTK HLN
      have hcv := own_bytes hO HNL.out
      clear hO
      go_wp2
      go_ret
      exact ⟨by rw [HP.out]; rfl, hb⟩
theorem set_cell {w : World} {x k g o : Nat} {v u : Value} (hne : g ≠ x) (h : w.cell? ⟨g, o, none⟩ = some v) : (w.setCell ⟨x, k, none⟩ u).cell? ⟨g, o, none⟩ = some v := by
  rw [World.cell?_setCell_other _ _ _ _ (fun e => hne (by cases e; rfl)), h]
theorem set2_cell {w : World} {x g o : Nat} {v u0 u1 : Value} (hne : g ≠ x) (h : w.cell? ⟨g, o, none⟩ = some v) : ((w.setCell ⟨x, 0, none⟩ u0).setCell ⟨x, 1, none⟩ u1).cell? ⟨g, o, none⟩ = some v := set_cell hne (set_cell hne h)
theorem set3_cell {w : World} {x g o : Nat} {v u0 u1 u2 : Value} (hne : g ≠ x) (h : w.cell? ⟨g, o, none⟩ = some v) : (((w.setCell ⟨x, 0, none⟩ u0).setCell ⟨x, 1, none⟩ u1).setCell ⟨x, 2, none⟩ u2).cell? ⟨g, o, none⟩ = some v := set_cell hne (set2_cell hne h)
set_option maxRecDepth 100000 in
set_option maxHeartbeats 4000000 in
theorem l11Transpose_any (b : Brd) (n : Nat) (g o : Nat) (w : World) (hb0 : b.Good n) (hg : BAt w g o b) :
    Calls Tryz.prog 186 #[.pointer (some ⟨g, o, none⟩)] w fun e w' => e = .returned (.agg #[.int .i64 b.turn.size, .string b.turn.premium, .string b.turn.cells]) ∧ Below w.heap.size w w' := by
  have hlt := hg.lt
  obtain ⟨tn, htn⟩ : ∃ tn : ByteArray → ByteArray, ∀ s, tn s = mkB (turnB n s.data.toList) := ⟨_, fun _ => rfl⟩
  have hnn : b.size.toNat = n := by rw [hb0.size]; simp
  have HT : Hid (∀ s W, s.size = n * n → Calls Tryz.prog 245 #[.int .i64 n, .string s] W fun e w' => e = .returned (.string (tn s)) ∧ Below W.heap.size W w') := Lib.hid (fun s W hs => by
    rw [htn]
    exact l11Turn_any n s W hb0.hi hs)
  have HR : Hid (Ending.returned (.agg #[.int .i64 b.turn.size, .string b.turn.premium, .string b.turn.cells]) = .returned (.agg #[.int .i64 n, .string (tn b.premium), .string (tn b.cells)])) := Lib.hid (by
    rw [htn, htn]
    unfold Brd.turn
    rw [hnn, hb0.size])
  rw [HR.out]
  clear HR htn hnn
  have hbs := hb0.size
  have hp := Lib.hid hb0.prem
  have hc := Lib.hid hb0.cells
  have hx0 : Below w.heap.size w (w.alloc (.cells #[.int .i64 0, .string ⟨#[]⟩, .string ⟨#[]⟩] 25)) := (Below.refl _ _).alloc (Nat.le_refl _) _
  have V0 := Lib.hid (VarAt.new w 25 [.int .i64 0, .string ⟨#[]⟩, .string ⟨#[]⟩])
  have HG := Lib.hid (hg.kept hx0)
  clear hg hb0
  go_enter Tryz.func186, Tryz.ntmps186
  go_upto_region 1 with fail
  generalize w.alloc (.cells #[.int .i64 0, .string ⟨#[]⟩, .string ⟨#[]⟩] 25) = w1 at *
  have hg0 : w1.cell? ⟨g, o, none⟩ = some (.int .i64 n) := hbs ▸ HG.out.1
  have hk := hx0.trans ((Below.refl w1.heap.size w1).drew.mono hx0.size)
  have hk1 : Below w1.heap.size w1 w1.drew := (Below.refl _ _).drew
  have kv := Lib.hid (V0.out.kept hk1)
  have kg := Lib.hid (HG.out.kept hk1)
  have hk0 := Lib.hid (cell_kept hg0 hk1)
  clear V0 HG hk1 hx0 hg0
  go_region_held3 (fun w' => w'.cell? ⟨g, o, none⟩ = some (.int .i64 n) ∧ w'.cell? ⟨g, o + 1, none⟩ = some (.string b.premium) ∧ w'.cell? ⟨g, o + 2, none⟩ = some (.string b.cells))
    (first | exact ⟨hk0.out, kg.out.2.1, kg.out.2.2⟩ | exact ⟨set3_cell (by omega) hk0.out, set3_cell (by omega) kg.out.2.1, set3_cell (by omega) kg.out.2.2⟩)
    ((go_at_call 245; refine (HT.out _ _ (by first | exact hp.out | exact hc.out)).mono ?_; rintro e wq ⟨rfl, hdq⟩; replace kv := Lib.hid (kv.out.kept hdq); replace kg := Lib.hid (kg.out.kept hdq); replace hk0 := Lib.hid (cell_kept hk0.out hdq); replace hk := hk.trans (hdq.mono hk.size); clear hdq; (try clear q0 q1 q2 p0 p1 p2); have q0 := kv.out.cell (i := 0) rfl; have q1 := kv.out.cell (i := 1) rfl; have q2 := kv.out.cell (i := 2) rfl; have p0 := kv.out.free 0; have p1 := kv.out.free 1; have p2 := kv.out.free 2))
  all_goals
    obtain ⟨o0, k0⟩ := kv.out.set 0 (.int .i64 n)
    obtain ⟨o1, k1⟩ := o0.set 1 (.string (tn b.premium))
    obtain ⟨o2, k2⟩ := o1.set 2 (.string (tn b.cells))
    have GG := grownBy_trans (grownBy_trans k0 k1) k2
    have hb9 := hk.grown GG hk.size (fun q h => by cases h; exact Nat.le_refl _)
    have e0 := o2.cell (i := 0) (v := .int .i64 n) rfl
    have e1 := o2.cell (i := 1) (v := .string (tn b.premium)) rfl
    have e2 := o2.cell (i := 2) (v := .string (tn b.cells)) rfl
    clear o0 o1 o2 k0 k1 k2 GG
    go_wp2
    refine bodyPost_ret (v := .agg #[.int .i64 n, .string (tn b.premium), .string (tn b.cells)]) (by simp [results, Tryz.results186, go_sem, e0, e1, e2]) rfl ?_
    exact ⟨rfl, hb9⟩
end Go.Proofs.YtjdcdhhbgijaoaaGreatDoor

namespace Go.Proofs.YtjdcdhhbgijaoaaGreatDoor
open Go.ChangeShapes Go.WideShapes Go.ChangeAt Go.RowKit Go.Sort

/-! ### Plain -/
def lowK (L : List UInt8) (k : Nat) : List UInt8 := (L.take k).map lowC ++ L.drop k
theorem lowK_zero (L : List UInt8) : lowK L 0 = L := by simp [lowK]
theorem lowK_end {L : List UInt8} {k : Nat} (h : L.length ≤ k) : lowK L k = lowL L := by
  unfold lowK lowL
  rw [List.take_of_length_le h, List.drop_eq_nil_of_le h, List.append_nil]
theorem lowK_len (L : List UInt8) (k : Nat) : (lowK L k).length = L.length := by
  unfold lowK
  rw [List.length_append, List.length_map, ← List.length_append, List.take_append_drop]
theorem lowK_get {L : List UInt8} {k : Nat} (h : k < L.length) (h2 : k < (lowK L k).length) : (lowK L k)[k] = L[k] := by
  have e : (lowK L k)[k]? = some L[k] := by
    unfold lowK
    rw [List.getElem?_append_right (by simp; omega), List.getElem?_drop]
    have : k + (k - (List.map lowC (List.take k L)).length) = k := by simp; omega
    rw [this, List.getElem?_eq_getElem h]
  rw [List.getElem?_eq_getElem h2] at e
  simpa using e
theorem lowK_succ {L : List UInt8} {k : Nat} (h : k < L.length) : lowK L (k + 1) = (lowK L k).set k (lowC L[k]) := by
  unfold lowK
  rw [List.take_succ_eq_append_getElem h, List.map_append, List.set_append_right _ _ (by simp; omega), List.length_map, List.length_take, Nat.min_eq_left (by omega), Nat.sub_self, List.drop_eq_getElem_cons h, List.set_cons_zero]
  simp
theorem lowK_same {L : List UInt8} {k : Nat} (h : k < L.length) (hc : lowC L[k] = L[k]) : lowK L (k + 1) = lowK L k := by
  rw [lowK_succ h, hc]
  have h2 : k < (lowK L k).length := by rw [lowK_len]; exact h
  rw [← lowK_get h h2, List.set_getElem_self]
theorem lowC_cap {c : UInt8} (h : capB (c.toNat : Int) = true) : ((lowC c).toNat : Int) = (c.toNat : Int) + 32 := by
  unfold lowC
  rw [if_pos h]
  unfold capB at h
  simp only [Bool.and_eq_true, decide_eq_true_eq] at h
  rw [UInt8.toNat_add]
  show (((c.toNat + 32) % 256 : Nat) : Int) = _
  omega
theorem lowC_not {c : UInt8} (h : capB (c.toNat : Int) = false) : lowC c = c := by
  unfold lowC
  rw [h]; rfl
theorem cap_range {c : Int} (h : capB c = true) : 65 ≤ c ∧ c ≤ 90 := by
  unfold capB at h
  simpa only [Bool.and_eq_true, decide_eq_true_eq] using h
set_option maxRecDepth 100000 in
set_option maxHeartbeats 4000000 in
theorem l03Small_any (s : ByteArray) (w : World) (hs : s.size ≤ 1048576) :
    Calls Tryz.prog 201 #[.string s] w fun e w' => e = .returned (.string (mkB (lowL s.data.toList))) ∧ Below w.heap.size w w' := by
  have hl : s.data.toList.length = s.size := by simp
  have HL := Lib.hid hl
  obtain ⟨cp, w1, hcp, hcv, hr, hb⟩ := bytes_of s w
  have HR : Hid (RowB w1 w.heap.size (lowK s.data.toList 0)) := Lib.hid (by rw [lowK_zero]; exact hr)
  have HLN := Lib.hid (lowK_len s.data.toList)
  have HE := Lib.hid (fun k h => lowK_end (L := s.data.toList) (k := k) h)
  have HSC := Lib.hid (fun k (h : k < s.size) => lowK_succ (L := s.data.toList) (k := k) (by simpa using h))
  have HSM := Lib.hid (fun k (h : k < s.size) => lowK_same (L := s.data.toList) (k := k) (by simpa using h))
  have HGT := Lib.hid (fun k (h : k < s.size) => lowK_get (L := s.data.toList) (k := k) (by simpa using h))
  clear hr hl
  generalize lowL s.data.toList = R at *
  go_enter Tryz.func201, Tryz.ntmps201
  go_wp2_with fail
  clear hcv
  go_loopw [4] (fun i wr => ∃ k : Nat, k ≤ s.size ∧ i = .int .i64 k ∧ Hid (RowB wr w.heap.size (lowK s.data.toList k)) ∧ Below w.heap.size w wr) (fun i _ => s.size - (intOf i).toNat)
  case atStart => exact ⟨0, Nat.zero_le _, rfl, HR, hb⟩
  case round =>
    clear HR hb
    obtain ⟨k, hk, rfl, HR, hb⟩ := hrel
    by_cases hlt : k < s.size
    · have hlk : k < (lowK s.data.toList k).length := by rw [HLN.out, HL.out]; exact hlt
      have c0 := HR.out.cell (i := k) hlk
      have f0 := HR.out.free (i := k) hlk
      rw [HGT.out k hlt hlk, bytes_get s k hlt] at c0
      cases hcap : capB (s[k].toNat : Int) with
      | true =>
        have hv := lowC_cap hcap
        obtain ⟨hr1, hr2⟩ := cap_range hcap
        obtain ⟨o0, k0⟩ := HR.out.set k (lowC s[k])
        have HR2 : Hid (RowB (wr.setCell ⟨w.heap.size, k, none⟩ (.int .u8 ((s[k].toNat : Int) + 32))) w.heap.size (lowK s.data.toList (k + 1))) := Lib.hid (by
          rw [HSC.out k hlt, bytes_get s k hlt, ← hv]; exact o0)
        have hb2 : Below w.heap.size w (wr.setCell ⟨w.heap.size, k, none⟩ (.int .u8 ((s[k].toNat : Int) + 32))) := by
          rw [← hv]
          exact hb.grown k0 hb.size (fun q h => by cases h; exact Nat.le_refl _)
        clear o0 k0 hv hlk
        go_wp2_with fail
        refine (l03Capital_any _ _).mono ?_
        rintro e w' ⟨rfl, rfl⟩
        rw [hcap]
        clear hcap HR hb
        go_wp2
        go_roundw
        case rel => exact ⟨k + 1, by omega, by go_num, HR2, hb2⟩
        case measure => simp [intOf]; omega
      | false =>
        have HR2 : Hid (RowB wr w.heap.size (lowK s.data.toList (k + 1))) := Lib.hid (by rw [HSM.out k hlt (by rw [bytes_get s k hlt]; exact lowC_not hcap)]; exact HR.out)
        clear hlk
        go_wp2_with fail
        refine (l03Capital_any _ _).mono ?_
        rintro e w' ⟨rfl, rfl⟩
        rw [hcap]
        clear hcap HR
        go_wp2
        go_roundw
        case rel => exact ⟨k + 1, by omega, by go_num, HR2, hb⟩
        case measure => simp [intOf]; omega
    · obtain rfl : k = s.size := by omega
      have hcv := HR.out.str (n := s.size) (cap := cp) (by rw [HLN.out, HL.out])
      rw [HE.out _ (by rw [HL.out]; exact Nat.le_refl _)] at hcv
      go_wp2
      go_ret
      exact ⟨rfl, hb⟩
end Go.Proofs.YtjdcdhhbgijaoaaGreatDoor

namespace Go.Proofs.YtjdcdhhbgijaoaaGreatDoor
open Go.ChangeShapes Go.WideShapes Go.ChangeAt Go.RowKit Go.Sort

/-! ### Plain -/
theorem low_eq (c : UInt8) : Lib.lowerB c = lowC c := by
  unfold Lib.lowerB lowC
  have e : Lib.isUpperB c = capB (c.toNat : Int) := by
    unfold Lib.isUpperB capB
    rw [Bool.eq_iff_iff]
    simp only [Bool.and_eq_true, decide_eq_true_eq, UInt8.le_iff_toNat_le]
    have h1 : (65 : UInt8).toNat = 65 := rfl
    have h2 : (90 : UInt8).toNat = 90 := rfl
    rw [h1, h2]
    omega
  rw [e]
theorem lowA_eq (l : List UInt8) : Lib.toLowerA l = lowL l := by
  unfold Lib.toLowerA lowL
  exact List.map_congr_left (fun c _ => low_eq c)

theorem lower_ascii (s : ByteArray) (w : World) (hs : s.size ≤ 1048576) (ha : ∀ b ∈ s.data.toList, b.toNat < 128) :
    Calls Tryz.prog 132 #[.string s] w fun e w' => e = .returned (.string (mkB (lowL s.data.toList))) ∧ Below w.heap.size w w' := by
  have HS : Hid (∀ W, Calls Tryz.prog 213 #[.string s] W fun e w' => e = .returned (.string (mkB (lowL s.data.toList))) ∧ Below W.heap.size W w') := Lib.hid (fun W => by
    have := Tryz.strings_ToLower_ascii s W (by omega) (fun j b h => ha b (List.mem_of_getElem? h))
    rw [lowA_eq] at this
    exact this)
  clear ha
  go_enter Tryz.func132, Tryz.ntmps132
  go_wp2_with fail
  refine (HS.out _).mono ?_
  rintro e w' ⟨rfl, hd⟩
  go_wp2
  go_ret
  exact ⟨rfl, hd⟩
end Go.Proofs.YtjdcdhhbgijaoaaGreatDoor

namespace Go.Proofs.YtjdcdhhbgijaoaaGreatDoor
open Go.ChangeShapes Go.WideShapes Go.ChangeAt Go.RowKit Go.Sort

/-! ### Plain -/
theorem upL_full {F : Fl} {c r : Int} {k : Nat} (h : fullC (F r c) = true) : upL F c (k + 1) r = F r c :: upL F c k (r - 1) := by
  rw [upL, if_pos h]
theorem upL_stop {F : Fl} {c r : Int} {k : Nat} (h : fullC (F r c) = false) : upL F c k r = [] := by
  cases k with
  | zero => rfl
  | succ k => rw [upL, h]; rfl
theorem dnL_full {F : Fl} {c r : Int} {k : Nat} (h : fullC (F r c) = true) : dnL F c (k + 1) r = F r c :: dnL F c k (r + 1) := by
  rw [dnL, if_pos h]
theorem dnL_stop {F : Fl} {c r : Int} {k : Nat} (h : fullC (F r c) = false) : dnL F c k r = [] := by
  cases k with
  | zero => rfl
  | succ k => rw [dnL, h]; rfl
theorem Drew.bels {w w' : World} (h : Drew w w') : Below w.heap.size w w' := h.below _
end Go.Proofs.YtjdcdhhbgijaoaaGreatDoor
