/- Contract: the program's sequence of letters in a direction. For valid boards and a square with a letter. -/
import Derived.Test.YtpkadgibfmjmcaaGreatDoorPlbE
namespace Go.Proofs.YtpkadgibfmjmcaaGreatDoor
open Go.ChangeShapes Go.WideShapes Go.ChangeAt Go.RowKit Go.Sort

/-- the square at an offset in a direction -/
def dirSq (d : Bool) (r c m : Int) : Int × Int := if d then (r + m, c) else (r, c + m)
def lineF (b : Brd) (d : Bool) (r c : Int) : Fl := fun m _ => b.cell (dirSq d r c m).1 (dirSq d r c m).2
def seqU (b : Brd) (d : Bool) (r c : Int) : Nat := (upL (lineF b d r c) 0 16 (-1)).length
def seqD (b : Brd) (d : Bool) (r c : Int) : Nat := (dnL (lineF b d r c) 0 16 1).length
/-- the squares of the letters through a square, in a direction -/
def seqL (b : Brd) (d : Bool) (r c : Int) : List (Int × Int) := (List.range (seqU b d r c + 1 + seqD b d r c)).map fun j : Nat => dirSq d r c ((j : Int) - seqU b d r c)
theorem seqL_len (b : Brd) (d : Bool) (r c : Int) : (seqL b d r c).length = seqU b d r c + 1 + seqD b d r c := by simp [seqL]
theorem line_in {b : Brd} {n : Nat} (h : b.Good n) {d : Bool} {r c m : Int} (hi : b.inB r c = true) (hf : fullC (lineF b d r c m 0) = true) : -15 ≤ m ∧ m ≤ 15 := by
  have h1 := h.inB.1 hi
  have h2 := h.inB.1 (h.full_in hf)
  have h3 := h.hi
  unfold dirSq at h2
  cases d <;> simp only [if_true, if_false, Bool.false_eq_true] at h2 <;> omega
theorem line_mid {b : Brd} {d : Bool} {r c : Int} (h : fullC (b.cell r c) = true) : fullC (lineF b d r c 0 0) = true := by
  unfold lineF dirSq
  cases d
  · simpa using h
  · simpa using h
theorem seqU_le {b : Brd} {n : Nat} (h : b.Good n) {d : Bool} {r c : Int} (hi : b.inB r c = true) : seqU b d r c ≤ 15 := by
  by_cases h0 : 15 < seqU b d r c
  · have h1 := (upL_at (F := lineF b d r c) (c := 0) 16 (-1) 15 h0).2
    have := line_in h hi h1
    omega
  · omega
theorem seqD_le {b : Brd} {n : Nat} (h : b.Good n) {d : Bool} {r c : Int} (hi : b.inB r c = true) : seqD b d r c ≤ 15 := by
  by_cases h0 : 15 < seqD b d r c
  · have h1 := (dnL_at (F := lineF b d r c) (c := 0) 16 1 15 h0).2
    have := line_in h hi h1
    omega
  · omega
/-- the letters lie just on the squares of the sequence -/
theorem seq_lo {b : Brd} {d : Bool} {r c : Int} {j : Nat} (h : j < seqU b d r c) : fullC (lineF b d r c (-1 - j) 0) = true := (upL_at (F := lineF b d r c) (c := 0) 16 (-1) j h).2
theorem seq_hi {b : Brd} {d : Bool} {r c : Int} {j : Nat} (h : j < seqD b d r c) : fullC (lineF b d r c (1 + j) 0) = true := (dnL_at (F := lineF b d r c) (c := 0) 16 1 j h).2
theorem seq_before {b : Brd} {d : Bool} {r c : Int} (h : seqU b d r c ≤ 15) : fullC (lineF b d r c (-1 - seqU b d r c) 0) = false := upL_end (F := lineF b d r c) (c := 0) 16 (-1) (Nat.lt_succ_of_le h)
theorem seq_behind {b : Brd} {d : Bool} {r c : Int} (h : seqD b d r c ≤ 15) : fullC (lineF b d r c (1 + seqD b d r c) 0) = false := dnL_end (F := lineF b d r c) (c := 0) 16 1 (Nat.lt_succ_of_le h)
theorem take_range {α : Type} (f : Nat → α) {n k : Nat} (h : k < n) : ((List.range n).map f).take (k + 1) = ((List.range n).map f).take k ++ [f k] := by
  rw [List.take_succ_eq_append_getElem (by simpa using h)]
  simp
/-- squares in a row of the call's own -/
def SqsPost (w : World) (xs : List (Int × Int)) (e : Ending) (w' : World) : Prop :=
  ∃ g cap, e = .returned (.slice (some ⟨g, 0, none⟩) xs.length cap) ∧ w'.ownsRow w.heap.size 150 2 (.slice (some ⟨g, 0, none⟩) xs.length cap) xs.length (xs.flatMap Sq.enc) ∧ Below w.heap.size w w'

set_option maxRecDepth 100000 in
set_option maxHeartbeats 8000000 in
theorem seq_across (b : Brd) (n : Nat) (r c : Int) (w : World) (hb0 : b.Good n) (hi : b.inB r c = true) (hf0 : fullC (b.cell r c) = true) :
    Calls Tryz.prog 166 #[.agg #[.int .i64 b.size, .string b.premium, .string b.cells], .agg #[.int .i64 r, .int .i64 c], dirV false] w (SqsPost w (seqL b false r c)) := by
  obtain ⟨i0, hi0, hi1, hi2, hi3⟩ := info_parts infoSq
  have hn15 := hb0.hi
  obtain ⟨⟨hr0, hr1⟩, hc0, hc1⟩ := hb0.inB.1 hi
  have hu15 := seqU_le hb0 (d := false) hi
  have hd15 := seqD_le hb0 (d := false) hi
  have HLO := Lib.hid (fun j (h : j < seqU b false r c) => seq_lo h)
  have HHI := Lib.hid (fun j (h : j < seqD b false r c) => seq_hi h)
  have HBE := Lib.hid (seq_before hu15)
  have HBH := Lib.hid (seq_behind hd15)
  have hmid : fullC (lineF b false r c 0 0) = true := line_mid hf0
  obtain ⟨f, hf⟩ : ∃ f : Int → UInt8, ∀ m, f m = lineF b false r c m 0 := ⟨_, fun _ => rfl⟩
  obtain ⟨sr, hsr⟩ : ∃ sr : Int → Int, ∀ m, sr m = (dirSq false r c m).1 := ⟨_, fun _ => rfl⟩
  obtain ⟨sc, hsc⟩ : ∃ sc : Int → Int, ∀ m, sc m = (dirSq false r c m).2 := ⟨_, fun _ => rfl⟩
  have HAC : Hid (∀ m W, -20 ≤ m ∧ m ≤ 20 → Calls Tryz.prog 267 #[.agg #[], .int .i64 r, .int .i64 c, .int .i64 m] W fun e w' => e = .returned (.agg #[.int .i64 (sr m), .int .i64 (sc m)]) ∧ Below W.heap.size W w') := Lib.hid (fun m W h => by rw [hsr, hsc]; exact rat_any r c m W (by omega))
  have HON : Hid (∀ m bv W, fullC (f m) = bv → Calls Tryz.prog 165 #[.agg #[.int .i64 b.size, .string b.premium, .string b.cells], .agg #[.int .i64 (sr m), .int .i64 (sc m)]] W fun e w' => e = .returned (.bool bv) ∧ Below W.heap.size W w') := Lib.hid (fun m bv W e => by rw [← e, hf, hsr, hsc]; exact on_any b n _ _ W hb0)
  have HSL : Hid (seqL b false r c = (List.range (seqU b false r c + 1 + seqD b false r c)).map fun j : Nat => (sr ((j : Int) - seqU b false r c), sc ((j : Int) - seqU b false r c))) := Lib.hid (List.map_congr_left fun j _ => by rw [hsr, hsc])
  simp only [← hf] at HLO HHI HBE HBH hmid
  have HMID := Lib.hid hmid
  rw [HSL.out]
  clear hb0 hi hf0 hf hsr hsc hmid HSL
  generalize seqU b false r c = u at *
  generalize seqD b false r c = d at *
  generalize hSQ : (List.range (u + 1 + d)).map (fun j : Nat => (sr ((j : Int) - u), sc ((j : Int) - u))) = SQ at *
  have HTK : Hid (∀ k, k < u + 1 + d → SQ.take (k + 1) = SQ.take k ++ [(sr ((k : Int) - u), sc ((k : Int) - u))]) := Lib.hid (fun k h => by
    rw [← hSQ]
    exact take_range (fun j : Nat => (sr ((j : Int) - u), sc ((j : Int) - u))) h)
  have HSLN : Hid (SQ.length = u + 1 + d) := Lib.hid (by rw [← hSQ]; simp)
  clear hSQ
  obtain ⟨w2, hw2⟩ : ∃ w2, w2 = (w.alloc (.cells #[.int .i64 b.size, .string b.premium, .string b.cells] 36)).alloc (.cells #[.int .i64 r, .int .i64 c] 150) := ⟨_, rfl⟩
  have hb : Below w.heap.size w w2 := by rw [hw2]; exact ((Below.refl _ _).alloc (Nat.le_refl _) _).alloc (by simp) _
  have VB : Hid (VarAt w2 w.heap.size 36 [.int .i64 b.size, .string b.premium, .string b.cells]) := by
    rw [hw2]
    exact Lib.hid ((VarAt.new w 36 [.int .i64 b.size, .string b.premium, .string b.cells]).kept ((Below.refl _ _).alloc (Nat.le_refl _) _))
  have VS : Hid (VarAt w2 (w.heap.size + 1) 150 [.int .i64 r, .int .i64 c]) := by
    rw [hw2]
    have := VarAt.new (w.alloc (.cells #[.int .i64 b.size, .string b.premium, .string b.cells] 36)) 150 [.int .i64 r, .int .i64 c]
    simp only [World.size_alloc] at this
    exact Lib.hid this
  have HW2 := Lib.hid hw2
  clear hw2
  rw [show dirV false = .iface 220 (.agg #[]) from rfl]
  go_enter Tryz.func166, Tryz.ntmps166
  go_upto_region 1 with fail
  rw [← HW2.out]
  clear HW2
  go_wp2_with fail
  go_loopw [7] (fun iv wr => ∃ (j : Nat) (m : Int), j ≤ u ∧ m + j = 0 ∧ iv = .int .i64 m ∧ Hid (VarAt wr w.heap.size 36 [.int .i64 b.size, .string b.premium, .string b.cells]) ∧ Hid (VarAt wr (w.heap.size + 1) 150 [.int .i64 r, .int .i64 c]) ∧ Below w.heap.size w wr) (fun iv _ => (intOf iv + 17).toNat)
  case atStart => exact ⟨0, 0, Nat.zero_le _, rfl, rfl, VB, VS, hb⟩
  case round =>
    clear VB VS hb
    obtain ⟨j, m, hj, hmj, rfl, VB, VS, hb⟩ := hrel
    by_cases hju : j < u
    · have h1 := HLO.out j hju
      rw [show -1 - (j : Int) = m - 1 from by omega] at h1
      have HBV := Lib.hid h1
      clear h1
      have wr1 : IntKind.i64.wrap (m - 1) = m - 1 := IntWalk.i64_in _ (by omega)
      go_upto_region 2 with fail
      have hd : Below wr.heap.size wr wr.drew := (Below.refl _ _).drew
      replace hb := hb.trans (hd.mono hb.size)
      replace VB := Lib.hid (VB.out.kept hd)
      replace VS := Lib.hid (VS.out.kept hd)
      clear hd
      go_region_held3 (fun w' => w'.cell? ⟨w.heap.size, 0, none⟩ = some (.int .i64 b.size) ∧ w'.cell? ⟨w.heap.size, 1, none⟩ = some (.string b.premium) ∧ w'.cell? ⟨w.heap.size, 2, none⟩ = some (.string b.cells) ∧ w'.cell? ⟨w.heap.size + 1, 0, none⟩ = some (.int .i64 r) ∧ w'.cell? ⟨w.heap.size + 1, 1, none⟩ = some (.int .i64 c))
        (exact ⟨VB.out.cell (i := 0) rfl, VB.out.cell (i := 1) rfl, VB.out.cell (i := 2) rfl, VS.out.cell (i := 0) rfl, VS.out.cell (i := 1) rfl⟩)
        (((first | (go_at_call 267; refine (HAC.out (m - 1) _ (by omega)).mono ?_; rintro e wq ⟨rfl, hd⟩) | (go_at_call 165; refine (HON.out (m - 1) true _ HBV.out).mono ?_; rintro e wq ⟨rfl, hd⟩)); replace VB := Lib.hid (VB.out.kept hd); replace VS := Lib.hid (VS.out.kept hd); replace hb := hb.trans (hd.mono hb.size); clear hd))
      clear HBV wr1
      go_wp2
      go_roundw
      case rel => exact ⟨j + 1, m - 1, by omega, by omega, by go_num, VB, VS, hb⟩
      case measure => simp [intOf]; omega
    · obtain rfl : j = u := by omega
      have h1 := HBE.out
      rw [show -1 - (j : Int) = m - 1 from by omega] at h1
      have HBV := Lib.hid h1
      clear h1
      have wr1 : IntKind.i64.wrap (m - 1) = m - 1 := IntWalk.i64_in _ (by omega)
      go_upto_region 2 with fail
      have hd : Below wr.heap.size wr wr.drew := (Below.refl _ _).drew
      replace hb := hb.trans (hd.mono hb.size)
      replace VB := Lib.hid (VB.out.kept hd)
      replace VS := Lib.hid (VS.out.kept hd)
      clear hd
      go_region_held3 (fun w' => w'.cell? ⟨w.heap.size, 0, none⟩ = some (.int .i64 b.size) ∧ w'.cell? ⟨w.heap.size, 1, none⟩ = some (.string b.premium) ∧ w'.cell? ⟨w.heap.size, 2, none⟩ = some (.string b.cells) ∧ w'.cell? ⟨w.heap.size + 1, 0, none⟩ = some (.int .i64 r) ∧ w'.cell? ⟨w.heap.size + 1, 1, none⟩ = some (.int .i64 c))
        (exact ⟨VB.out.cell (i := 0) rfl, VB.out.cell (i := 1) rfl, VB.out.cell (i := 2) rfl, VS.out.cell (i := 0) rfl, VS.out.cell (i := 1) rfl⟩)
        (((first | (go_at_call 267; refine (HAC.out (m - 1) _ (by omega)).mono ?_; rintro e wq ⟨rfl, hd⟩) | (go_at_call 165; refine (HON.out (m - 1) false _ HBV.out).mono ?_; rintro e wq ⟨rfl, hd⟩)); replace VB := Lib.hid (VB.out.kept hd); replace VS := Lib.hid (VS.out.kept hd); replace hb := hb.trans (hd.mono hb.size); clear hd))
      clear HBV wr1
      generalize wq = w5 at *
      have HO : Hid ((w5.alloc (.cells #[] 150)).ownsRow (w.heap.size + 2) 150 2 (.slice (some ⟨w5.heap.size, 0, none⟩) 0 0) 0 ((SQ.take 0).flatMap Sq.enc)) := Lib.hid (World.ownsRow_made (base := w.heap.size + 2) (e := 150) (size := 2) w5 #[] 0 (by have := VS.out.lt; omega) (by unfold maxLen; omega) rfl)
      have hd : Below w5.heap.size w5 (w5.alloc (.cells #[] 150)) := (Below.refl _ _).alloc (Nat.le_refl _) _
      replace hb := hb.trans (hd.mono hb.size)
      replace VB := Lib.hid (VB.out.kept hd)
      replace VS := Lib.hid (VS.out.kept hd)
      clear hd
      go_wp2_with fail
      go_loopw [8, 9] (fun ov iv wr => ∃ (k g1 cap : Nat) (x : Int), k ≤ j + 1 + d ∧ x + j = k ∧ iv = .int .i64 x ∧ ov = .slice (some ⟨g1, 0, none⟩) k cap ∧ Hid (wr.ownsRow (w.heap.size + 2) 150 2 (.slice (some ⟨g1, 0, none⟩) k cap) k ((SQ.take k).flatMap Sq.enc)) ∧ Hid (VarAt wr w.heap.size 36 [.int .i64 b.size, .string b.premium, .string b.cells]) ∧ Hid (VarAt wr (w.heap.size + 1) 150 [.int .i64 r, .int .i64 c]) ∧ Below w.heap.size w wr) (fun _ iv _ => (17 - intOf iv).toNat)
      case atStart => exact ⟨0, _, 0, m, Nat.zero_le _, by omega, rfl, rfl, HO, VB, VS, hb⟩
      case round =>
        clear VB VS hb HO hmj
        obtain ⟨k, g1, cap, x, hk, hxk, rfl, rfl, HO, VB, VS, hb⟩ := hrel
        by_cases hkl : k < j + 1 + d
        · have h1 : fullC (f x) = true := by
            by_cases h2 : k < j
            · have h3 := HLO.out (j - 1 - k) (by omega)
              rwa [show -1 - ((j - 1 - k : Nat) : Int) = x from by omega] at h3
            · by_cases h4 : k = j
              · rw [show x = 0 from by omega]
                exact HMID.out
              · have h3 := HHI.out (k - j - 1) (by omega)
                rwa [show 1 + ((k - j - 1 : Nat) : Int) = x from by omega] at h3
          have HBV := Lib.hid h1
          clear h1
          go_upto_region 6 with fail
          have hd : Below wr.heap.size wr wr.drew := (Below.refl _ _).drew
          replace hb := hb.trans (hd.mono hb.size)
          replace HO := Lib.hid (own_below HO.out hd)
          replace VB := Lib.hid (VB.out.kept hd)
          replace VS := Lib.hid (VS.out.kept hd)
          clear hd
          go_region_held3 (fun w' => w'.cell? ⟨w.heap.size, 0, none⟩ = some (.int .i64 b.size) ∧ w'.cell? ⟨w.heap.size, 1, none⟩ = some (.string b.premium) ∧ w'.cell? ⟨w.heap.size, 2, none⟩ = some (.string b.cells) ∧ w'.cell? ⟨w.heap.size + 1, 0, none⟩ = some (.int .i64 r) ∧ w'.cell? ⟨w.heap.size + 1, 1, none⟩ = some (.int .i64 c))
            (exact ⟨VB.out.cell (i := 0) rfl, VB.out.cell (i := 1) rfl, VB.out.cell (i := 2) rfl, VS.out.cell (i := 0) rfl, VS.out.cell (i := 1) rfl⟩)
            (((first | (go_at_call 267; refine (HAC.out x _ (by omega)).mono ?_; rintro e wq ⟨rfl, hd⟩) | (go_at_call 165; refine (HON.out x true _ HBV.out).mono ?_; rintro e wq ⟨rfl, hd⟩)); replace HO := Lib.hid (own_below HO.out hd); replace VB := Lib.hid (VB.out.kept hd); replace VS := Lib.hid (VS.out.kept hd); replace hb := hb.trans (hd.mono hb.size); clear hd))
          generalize wq = w6 at *
          clear HBV
          have HT : Hid (SQ.take (k + 1) = SQ.take k ++ [(sr x, sc x)]) := Lib.hid (by rw [HTK.out k hkl, show (k : Int) - j = x from by omega])
          have s0 := VS.out.cell (i := 0) rfl
          have s1 := VS.out.cell (i := 1) rfl
          go_wp2_with fail
          clear s0 s1
          refine (HAC.out x _ (by omega)).mono ?_
          rintro e w7 ⟨rfl, hd⟩
          replace hb := hb.trans (hd.mono hb.size)
          replace HO := Lib.hid (own_below HO.out hd)
          replace VB := Lib.hid (VB.out.kept hd)
          replace VS := Lib.hid (VS.out.kept hd)
          clear hd
          have hd : Below w7.heap.size w7 (w7.alloc (.cells #[.int .i64 (sr x), .int .i64 (sc x)] 150)) := (Below.refl _ _).alloc (Nat.le_refl _) _
          have KN := Lib.hid (new_sq w7 (sr x, sc x) 150)
          have hz4 := VS.out.lt
          replace hb := hb.trans (hd.mono hb.size)
          replace HO := Lib.hid (own_below HO.out hd)
          replace VB := Lib.hid (VB.out.kept hd)
          replace VS := Lib.hid (VS.out.kept hd)
          clear hd
          go_wp2_with (at_builtin; go_must (refine wpList_append_lies _ rfl (.tmp 35) (.tmp 43) 144 rfl (w.heap.size + 2) 150 i0 _ 2 16 Tryz.underlying144 hi0 hi1 hi2 hi3 rfl (by decide) _ k ((SQ.take k).flatMap Sq.enc) (by rfl) HO.out ⟨w7.heap.size, 0, none⟩ 1 1 (Sq.enc (sr x, sc x)) (by rfl) rfl KN.out (sq_one (sr x, sc x)) (by decide) ?c1 ?c2 ?c3 _ rfl ?_))
          case c1 => unfold maxLen; omega
          case c2 => omega
          case c3 => (first | omega | (simp only [World.size_alloc]; omega))
          intro g7 cap7 w8 hown hgr hwh hlt7
          have hb8 := hb.grown hgr hb.size (fun q e => by have := (HO.out.lt q e).1; omega)
          have HO8 : Hid (w8.ownsRow (w.heap.size + 2) 150 2 (.slice (some ⟨g7, 0, none⟩) (k + 1) cap7) (k + 1) ((SQ.take (k + 1)).flatMap Sq.enc)) := Lib.hid (by rw [HT.out, snoc_flat Sq.enc]; exact hown)
          have VB8 := Lib.hid (VB.out.grown hgr (own_ne HO.out (by omega)))
          have VS8 := Lib.hid (VS.out.grown hgr (own_ne HO.out (by omega)))
          clear hown hgr hwh KN HO hb VB VS HT
          go_wp2
          go_roundw
          case rel => exact ⟨k + 1, g7, cap7, x + 1, by omega, by omega, by go_num, by go_num, HO8, VB8, VS8, hb8⟩
          case measure => simp [intOf]; omega
        · have h1 : fullC (f x) = false := by
            have h3 := HBH.out
            rwa [show 1 + (d : Int) = x from by omega] at h3
          have HBV := Lib.hid h1
          clear h1
          go_upto_region 6 with fail
          have hd : Below wr.heap.size wr wr.drew := (Below.refl _ _).drew
          replace hb := hb.trans (hd.mono hb.size)
          replace HO := Lib.hid (own_below HO.out hd)
          replace VB := Lib.hid (VB.out.kept hd)
          replace VS := Lib.hid (VS.out.kept hd)
          clear hd
          go_region_held3 (fun w' => w'.cell? ⟨w.heap.size, 0, none⟩ = some (.int .i64 b.size) ∧ w'.cell? ⟨w.heap.size, 1, none⟩ = some (.string b.premium) ∧ w'.cell? ⟨w.heap.size, 2, none⟩ = some (.string b.cells) ∧ w'.cell? ⟨w.heap.size + 1, 0, none⟩ = some (.int .i64 r) ∧ w'.cell? ⟨w.heap.size + 1, 1, none⟩ = some (.int .i64 c))
            (exact ⟨VB.out.cell (i := 0) rfl, VB.out.cell (i := 1) rfl, VB.out.cell (i := 2) rfl, VS.out.cell (i := 0) rfl, VS.out.cell (i := 1) rfl⟩)
            (((first | (go_at_call 267; refine (HAC.out x _ (by omega)).mono ?_; rintro e wq ⟨rfl, hd⟩) | (go_at_call 165; refine (HON.out x false _ HBV.out).mono ?_; rintro e wq ⟨rfl, hd⟩)); replace HO := Lib.hid (own_below HO.out hd); replace VB := Lib.hid (VB.out.kept hd); replace VS := Lib.hid (VS.out.kept hd); replace hb := hb.trans (hd.mono hb.size); clear hd))
          generalize wq = w6 at *
          clear HBV
          have hO := HO.out
          rw [List.take_of_length_le (by rw [HSLN.out]; omega)] at hO
          have HON2 := Lib.hid hO
          have HL : Hid (SQ.length = k) := Lib.hid (by rw [HSLN.out]; omega)
          clear hO HO
          go_wp2
          go_ret
          exact ⟨g1, cap, by rw [HL.out]; rfl, by rw [HL.out]; exact own_mono HON2.out (by omega), hb⟩
set_option maxRecDepth 100000 in
set_option maxHeartbeats 8000000 in
theorem seq_down (b : Brd) (n : Nat) (r c : Int) (w : World) (hb0 : b.Good n) (hi : b.inB r c = true) (hf0 : fullC (b.cell r c) = true) :
    Calls Tryz.prog 166 #[.agg #[.int .i64 b.size, .string b.premium, .string b.cells], .agg #[.int .i64 r, .int .i64 c], dirV true] w (SqsPost w (seqL b true r c)) := by
  obtain ⟨i0, hi0, hi1, hi2, hi3⟩ := info_parts infoSq
  have hn15 := hb0.hi
  obtain ⟨⟨hr0, hr1⟩, hc0, hc1⟩ := hb0.inB.1 hi
  have hu15 := seqU_le hb0 (d := true) hi
  have hd15 := seqD_le hb0 (d := true) hi
  have HLO := Lib.hid (fun j (h : j < seqU b true r c) => seq_lo h)
  have HHI := Lib.hid (fun j (h : j < seqD b true r c) => seq_hi h)
  have HBE := Lib.hid (seq_before hu15)
  have HBH := Lib.hid (seq_behind hd15)
  have hmid : fullC (lineF b true r c 0 0) = true := line_mid hf0
  obtain ⟨f, hf⟩ : ∃ f : Int → UInt8, ∀ m, f m = lineF b true r c m 0 := ⟨_, fun _ => rfl⟩
  obtain ⟨sr, hsr⟩ : ∃ sr : Int → Int, ∀ m, sr m = (dirSq true r c m).1 := ⟨_, fun _ => rfl⟩
  obtain ⟨sc, hsc⟩ : ∃ sc : Int → Int, ∀ m, sc m = (dirSq true r c m).2 := ⟨_, fun _ => rfl⟩
  have HAC : Hid (∀ m W, -20 ≤ m ∧ m ≤ 20 → Calls Tryz.prog 265 #[.agg #[], .int .i64 r, .int .i64 c, .int .i64 m] W fun e w' => e = .returned (.agg #[.int .i64 (sr m), .int .i64 (sc m)]) ∧ Below W.heap.size W w') := Lib.hid (fun m W h => by rw [hsr, hsc]; exact dat_any r c m W (by omega))
  have HON : Hid (∀ m bv W, fullC (f m) = bv → Calls Tryz.prog 165 #[.agg #[.int .i64 b.size, .string b.premium, .string b.cells], .agg #[.int .i64 (sr m), .int .i64 (sc m)]] W fun e w' => e = .returned (.bool bv) ∧ Below W.heap.size W w') := Lib.hid (fun m bv W e => by rw [← e, hf, hsr, hsc]; exact on_any b n _ _ W hb0)
  have HSL : Hid (seqL b true r c = (List.range (seqU b true r c + 1 + seqD b true r c)).map fun j : Nat => (sr ((j : Int) - seqU b true r c), sc ((j : Int) - seqU b true r c))) := Lib.hid (List.map_congr_left fun j _ => by rw [hsr, hsc])
  simp only [← hf] at HLO HHI HBE HBH hmid
  have HMID := Lib.hid hmid
  rw [HSL.out]
  clear hb0 hi hf0 hf hsr hsc hmid HSL
  generalize seqU b true r c = u at *
  generalize seqD b true r c = d at *
  generalize hSQ : (List.range (u + 1 + d)).map (fun j : Nat => (sr ((j : Int) - u), sc ((j : Int) - u))) = SQ at *
  have HTK : Hid (∀ k, k < u + 1 + d → SQ.take (k + 1) = SQ.take k ++ [(sr ((k : Int) - u), sc ((k : Int) - u))]) := Lib.hid (fun k h => by
    rw [← hSQ]
    exact take_range (fun j : Nat => (sr ((j : Int) - u), sc ((j : Int) - u))) h)
  have HSLN : Hid (SQ.length = u + 1 + d) := Lib.hid (by rw [← hSQ]; simp)
  clear hSQ
  obtain ⟨w2, hw2⟩ : ∃ w2, w2 = (w.alloc (.cells #[.int .i64 b.size, .string b.premium, .string b.cells] 36)).alloc (.cells #[.int .i64 r, .int .i64 c] 150) := ⟨_, rfl⟩
  have hb : Below w.heap.size w w2 := by rw [hw2]; exact ((Below.refl _ _).alloc (Nat.le_refl _) _).alloc (by simp) _
  have VB : Hid (VarAt w2 w.heap.size 36 [.int .i64 b.size, .string b.premium, .string b.cells]) := by
    rw [hw2]
    exact Lib.hid ((VarAt.new w 36 [.int .i64 b.size, .string b.premium, .string b.cells]).kept ((Below.refl _ _).alloc (Nat.le_refl _) _))
  have VS : Hid (VarAt w2 (w.heap.size + 1) 150 [.int .i64 r, .int .i64 c]) := by
    rw [hw2]
    have := VarAt.new (w.alloc (.cells #[.int .i64 b.size, .string b.premium, .string b.cells] 36)) 150 [.int .i64 r, .int .i64 c]
    simp only [World.size_alloc] at this
    exact Lib.hid this
  have HW2 := Lib.hid hw2
  clear hw2
  rw [show dirV true = .iface 219 (.agg #[]) from rfl]
  go_enter Tryz.func166, Tryz.ntmps166
  go_upto_region 1 with fail
  rw [← HW2.out]
  clear HW2
  go_wp2_with fail
  go_loopw [7] (fun iv wr => ∃ (j : Nat) (m : Int), j ≤ u ∧ m + j = 0 ∧ iv = .int .i64 m ∧ Hid (VarAt wr w.heap.size 36 [.int .i64 b.size, .string b.premium, .string b.cells]) ∧ Hid (VarAt wr (w.heap.size + 1) 150 [.int .i64 r, .int .i64 c]) ∧ Below w.heap.size w wr) (fun iv _ => (intOf iv + 17).toNat)
  case atStart => exact ⟨0, 0, Nat.zero_le _, rfl, rfl, VB, VS, hb⟩
  case round =>
    clear VB VS hb
    obtain ⟨j, m, hj, hmj, rfl, VB, VS, hb⟩ := hrel
    by_cases hju : j < u
    · have h1 := HLO.out j hju
      rw [show -1 - (j : Int) = m - 1 from by omega] at h1
      have HBV := Lib.hid h1
      clear h1
      have wr1 : IntKind.i64.wrap (m - 1) = m - 1 := IntWalk.i64_in _ (by omega)
      go_upto_region 2 with fail
      have hd : Below wr.heap.size wr wr.drew := (Below.refl _ _).drew
      replace hb := hb.trans (hd.mono hb.size)
      replace VB := Lib.hid (VB.out.kept hd)
      replace VS := Lib.hid (VS.out.kept hd)
      clear hd
      go_region_held3 (fun w' => w'.cell? ⟨w.heap.size, 0, none⟩ = some (.int .i64 b.size) ∧ w'.cell? ⟨w.heap.size, 1, none⟩ = some (.string b.premium) ∧ w'.cell? ⟨w.heap.size, 2, none⟩ = some (.string b.cells) ∧ w'.cell? ⟨w.heap.size + 1, 0, none⟩ = some (.int .i64 r) ∧ w'.cell? ⟨w.heap.size + 1, 1, none⟩ = some (.int .i64 c))
        (exact ⟨VB.out.cell (i := 0) rfl, VB.out.cell (i := 1) rfl, VB.out.cell (i := 2) rfl, VS.out.cell (i := 0) rfl, VS.out.cell (i := 1) rfl⟩)
        (((first | (go_at_call 265; refine (HAC.out (m - 1) _ (by omega)).mono ?_; rintro e wq ⟨rfl, hd⟩) | (go_at_call 165; refine (HON.out (m - 1) true _ HBV.out).mono ?_; rintro e wq ⟨rfl, hd⟩)); replace VB := Lib.hid (VB.out.kept hd); replace VS := Lib.hid (VS.out.kept hd); replace hb := hb.trans (hd.mono hb.size); clear hd))
      clear HBV wr1
      go_wp2
      go_roundw
      case rel => exact ⟨j + 1, m - 1, by omega, by omega, by go_num, VB, VS, hb⟩
      case measure => simp [intOf]; omega
    · obtain rfl : j = u := by omega
      have h1 := HBE.out
      rw [show -1 - (j : Int) = m - 1 from by omega] at h1
      have HBV := Lib.hid h1
      clear h1
      have wr1 : IntKind.i64.wrap (m - 1) = m - 1 := IntWalk.i64_in _ (by omega)
      go_upto_region 2 with fail
      have hd : Below wr.heap.size wr wr.drew := (Below.refl _ _).drew
      replace hb := hb.trans (hd.mono hb.size)
      replace VB := Lib.hid (VB.out.kept hd)
      replace VS := Lib.hid (VS.out.kept hd)
      clear hd
      go_region_held3 (fun w' => w'.cell? ⟨w.heap.size, 0, none⟩ = some (.int .i64 b.size) ∧ w'.cell? ⟨w.heap.size, 1, none⟩ = some (.string b.premium) ∧ w'.cell? ⟨w.heap.size, 2, none⟩ = some (.string b.cells) ∧ w'.cell? ⟨w.heap.size + 1, 0, none⟩ = some (.int .i64 r) ∧ w'.cell? ⟨w.heap.size + 1, 1, none⟩ = some (.int .i64 c))
        (exact ⟨VB.out.cell (i := 0) rfl, VB.out.cell (i := 1) rfl, VB.out.cell (i := 2) rfl, VS.out.cell (i := 0) rfl, VS.out.cell (i := 1) rfl⟩)
        (((first | (go_at_call 265; refine (HAC.out (m - 1) _ (by omega)).mono ?_; rintro e wq ⟨rfl, hd⟩) | (go_at_call 165; refine (HON.out (m - 1) false _ HBV.out).mono ?_; rintro e wq ⟨rfl, hd⟩)); replace VB := Lib.hid (VB.out.kept hd); replace VS := Lib.hid (VS.out.kept hd); replace hb := hb.trans (hd.mono hb.size); clear hd))
      clear HBV wr1
      generalize wq = w5 at *
      have HO : Hid ((w5.alloc (.cells #[] 150)).ownsRow (w.heap.size + 2) 150 2 (.slice (some ⟨w5.heap.size, 0, none⟩) 0 0) 0 ((SQ.take 0).flatMap Sq.enc)) := Lib.hid (World.ownsRow_made (base := w.heap.size + 2) (e := 150) (size := 2) w5 #[] 0 (by have := VS.out.lt; omega) (by unfold maxLen; omega) rfl)
      have hd : Below w5.heap.size w5 (w5.alloc (.cells #[] 150)) := (Below.refl _ _).alloc (Nat.le_refl _) _
      replace hb := hb.trans (hd.mono hb.size)
      replace VB := Lib.hid (VB.out.kept hd)
      replace VS := Lib.hid (VS.out.kept hd)
      clear hd
      go_wp2_with fail
      go_loopw [8, 9] (fun ov iv wr => ∃ (k g1 cap : Nat) (x : Int), k ≤ j + 1 + d ∧ x + j = k ∧ iv = .int .i64 x ∧ ov = .slice (some ⟨g1, 0, none⟩) k cap ∧ Hid (wr.ownsRow (w.heap.size + 2) 150 2 (.slice (some ⟨g1, 0, none⟩) k cap) k ((SQ.take k).flatMap Sq.enc)) ∧ Hid (VarAt wr w.heap.size 36 [.int .i64 b.size, .string b.premium, .string b.cells]) ∧ Hid (VarAt wr (w.heap.size + 1) 150 [.int .i64 r, .int .i64 c]) ∧ Below w.heap.size w wr) (fun _ iv _ => (17 - intOf iv).toNat)
      case atStart => exact ⟨0, _, 0, m, Nat.zero_le _, by omega, rfl, rfl, HO, VB, VS, hb⟩
      case round =>
        clear VB VS hb HO hmj
        obtain ⟨k, g1, cap, x, hk, hxk, rfl, rfl, HO, VB, VS, hb⟩ := hrel
        by_cases hkl : k < j + 1 + d
        · have h1 : fullC (f x) = true := by
            by_cases h2 : k < j
            · have h3 := HLO.out (j - 1 - k) (by omega)
              rwa [show -1 - ((j - 1 - k : Nat) : Int) = x from by omega] at h3
            · by_cases h4 : k = j
              · rw [show x = 0 from by omega]
                exact HMID.out
              · have h3 := HHI.out (k - j - 1) (by omega)
                rwa [show 1 + ((k - j - 1 : Nat) : Int) = x from by omega] at h3
          have HBV := Lib.hid h1
          clear h1
          go_upto_region 6 with fail
          have hd : Below wr.heap.size wr wr.drew := (Below.refl _ _).drew
          replace hb := hb.trans (hd.mono hb.size)
          replace HO := Lib.hid (own_below HO.out hd)
          replace VB := Lib.hid (VB.out.kept hd)
          replace VS := Lib.hid (VS.out.kept hd)
          clear hd
          go_region_held3 (fun w' => w'.cell? ⟨w.heap.size, 0, none⟩ = some (.int .i64 b.size) ∧ w'.cell? ⟨w.heap.size, 1, none⟩ = some (.string b.premium) ∧ w'.cell? ⟨w.heap.size, 2, none⟩ = some (.string b.cells) ∧ w'.cell? ⟨w.heap.size + 1, 0, none⟩ = some (.int .i64 r) ∧ w'.cell? ⟨w.heap.size + 1, 1, none⟩ = some (.int .i64 c))
            (exact ⟨VB.out.cell (i := 0) rfl, VB.out.cell (i := 1) rfl, VB.out.cell (i := 2) rfl, VS.out.cell (i := 0) rfl, VS.out.cell (i := 1) rfl⟩)
            (((first | (go_at_call 265; refine (HAC.out x _ (by omega)).mono ?_; rintro e wq ⟨rfl, hd⟩) | (go_at_call 165; refine (HON.out x true _ HBV.out).mono ?_; rintro e wq ⟨rfl, hd⟩)); replace HO := Lib.hid (own_below HO.out hd); replace VB := Lib.hid (VB.out.kept hd); replace VS := Lib.hid (VS.out.kept hd); replace hb := hb.trans (hd.mono hb.size); clear hd))
          generalize wq = w6 at *
          clear HBV
          have HT : Hid (SQ.take (k + 1) = SQ.take k ++ [(sr x, sc x)]) := Lib.hid (by rw [HTK.out k hkl, show (k : Int) - j = x from by omega])
          have s0 := VS.out.cell (i := 0) rfl
          have s1 := VS.out.cell (i := 1) rfl
          go_wp2_with fail
          clear s0 s1
          refine (HAC.out x _ (by omega)).mono ?_
          rintro e w7 ⟨rfl, hd⟩
          replace hb := hb.trans (hd.mono hb.size)
          replace HO := Lib.hid (own_below HO.out hd)
          replace VB := Lib.hid (VB.out.kept hd)
          replace VS := Lib.hid (VS.out.kept hd)
          clear hd
          have hd : Below w7.heap.size w7 (w7.alloc (.cells #[.int .i64 (sr x), .int .i64 (sc x)] 150)) := (Below.refl _ _).alloc (Nat.le_refl _) _
          have KN := Lib.hid (new_sq w7 (sr x, sc x) 150)
          have hz4 := VS.out.lt
          replace hb := hb.trans (hd.mono hb.size)
          replace HO := Lib.hid (own_below HO.out hd)
          replace VB := Lib.hid (VB.out.kept hd)
          replace VS := Lib.hid (VS.out.kept hd)
          clear hd
          go_wp2_with (at_builtin; go_must (refine wpList_append_lies _ rfl (.tmp 35) (.tmp 43) 144 rfl (w.heap.size + 2) 150 i0 _ 2 16 Tryz.underlying144 hi0 hi1 hi2 hi3 rfl (by decide) _ k ((SQ.take k).flatMap Sq.enc) (by rfl) HO.out ⟨w7.heap.size, 0, none⟩ 1 1 (Sq.enc (sr x, sc x)) (by rfl) rfl KN.out (sq_one (sr x, sc x)) (by decide) ?c1 ?c2 ?c3 _ rfl ?_))
          case c1 => unfold maxLen; omega
          case c2 => omega
          case c3 => (first | omega | (simp only [World.size_alloc]; omega))
          intro g7 cap7 w8 hown hgr hwh hlt7
          have hb8 := hb.grown hgr hb.size (fun q e => by have := (HO.out.lt q e).1; omega)
          have HO8 : Hid (w8.ownsRow (w.heap.size + 2) 150 2 (.slice (some ⟨g7, 0, none⟩) (k + 1) cap7) (k + 1) ((SQ.take (k + 1)).flatMap Sq.enc)) := Lib.hid (by rw [HT.out, snoc_flat Sq.enc]; exact hown)
          have VB8 := Lib.hid (VB.out.grown hgr (own_ne HO.out (by omega)))
          have VS8 := Lib.hid (VS.out.grown hgr (own_ne HO.out (by omega)))
          clear hown hgr hwh KN HO hb VB VS HT
          go_wp2
          go_roundw
          case rel => exact ⟨k + 1, g7, cap7, x + 1, by omega, by omega, by go_num, by go_num, HO8, VB8, VS8, hb8⟩
          case measure => simp [intOf]; omega
        · have h1 : fullC (f x) = false := by
            have h3 := HBH.out
            rwa [show 1 + (d : Int) = x from by omega] at h3
          have HBV := Lib.hid h1
          clear h1
          go_upto_region 6 with fail
          have hd : Below wr.heap.size wr wr.drew := (Below.refl _ _).drew
          replace hb := hb.trans (hd.mono hb.size)
          replace HO := Lib.hid (own_below HO.out hd)
          replace VB := Lib.hid (VB.out.kept hd)
          replace VS := Lib.hid (VS.out.kept hd)
          clear hd
          go_region_held3 (fun w' => w'.cell? ⟨w.heap.size, 0, none⟩ = some (.int .i64 b.size) ∧ w'.cell? ⟨w.heap.size, 1, none⟩ = some (.string b.premium) ∧ w'.cell? ⟨w.heap.size, 2, none⟩ = some (.string b.cells) ∧ w'.cell? ⟨w.heap.size + 1, 0, none⟩ = some (.int .i64 r) ∧ w'.cell? ⟨w.heap.size + 1, 1, none⟩ = some (.int .i64 c))
            (exact ⟨VB.out.cell (i := 0) rfl, VB.out.cell (i := 1) rfl, VB.out.cell (i := 2) rfl, VS.out.cell (i := 0) rfl, VS.out.cell (i := 1) rfl⟩)
            (((first | (go_at_call 265; refine (HAC.out x _ (by omega)).mono ?_; rintro e wq ⟨rfl, hd⟩) | (go_at_call 165; refine (HON.out x false _ HBV.out).mono ?_; rintro e wq ⟨rfl, hd⟩)); replace HO := Lib.hid (own_below HO.out hd); replace VB := Lib.hid (VB.out.kept hd); replace VS := Lib.hid (VS.out.kept hd); replace hb := hb.trans (hd.mono hb.size); clear hd))
          generalize wq = w6 at *
          clear HBV
          have hO := HO.out
          rw [List.take_of_length_le (by rw [HSLN.out]; omega)] at hO
          have HON2 := Lib.hid hO
          have HL : Hid (SQ.length = k) := Lib.hid (by rw [HSLN.out]; omega)
          clear hO HO
          go_wp2
          go_ret
          exact ⟨g1, cap, by rw [HL.out]; rfl, by rw [HL.out]; exact own_mono HON2.out (by omega), hb⟩
theorem sequence_any (b : Brd) (n : Nat) (d : Bool) (r c : Int) (w : World) (hb0 : b.Good n) (hi : b.inB r c = true) (hf0 : fullC (b.cell r c) = true) :
    Calls Tryz.prog 166 #[.agg #[.int .i64 b.size, .string b.premium, .string b.cells], .agg #[.int .i64 r, .int .i64 c], dirV d] w (SqsPost w (seqL b d r c)) := by
  cases d
  · exact seq_across b n r c w hb0 hi hf0
  · exact seq_down b n r c w hb0 hi hf0
end Go.Proofs.YtpkadgibfmjmcaaGreatDoor
