/- Contracts: the source of choices from which the reference draws its examples. What is draw · Plain: a tile set in a box whose rows lie elsewhere; a row grown or written, the source of · Contracts: the texts of the standard tile sets: the reference. -/
import Derived.Test.YtjdcdhhbgijaoaaGreatDoorLex
import Derived.Handy
import Derived.Laws.Closers25b
import Derived.Laws.Bits64b
import Derived.Test.YtjdcdhhbgijaoaaGreatDoorMkRz
import Derived.Test.YtjdcdhhbgijaoaaGreatDoorMkTz
import Derived.Test.YtjdcdhhbgijaoaaGreatDoorFrame
namespace Go.Proofs.YtjdcdhhbgijaoaaGreatDoor
open Go.ChangeShapes Go.WideShapes Go.ChangeAt Go.RowKit Go.Sort

def Byt.enc (x : Int) : List Value := [.int .u8 x]
theorem Byt.enc_len (x : Int) : (Byt.enc x).length = 1 := rfl
/-- the code that came in: it can be read, below block N -/
def CodeAt (w : World) (N : Nat) (ca : Option Addr) (bs : List Int) : Prop :=
  SliceAt w 1 Byt.enc ca bs ∧ (∀ x ∈ bs, 0 ≤ x ∧ x ≤ 255) ∧ bs.length ≤ 4096 ∧ (0 < bs.length → ∀ cb co, ca = some ⟨cb, co, none⟩ → cb < N)
/-- a source of choices at block b: its code lies below N and is not the source itself; its place is not past k -/
def SrcAt (w : World) (N b k : Nat) : Prop :=
  ∃ (ca : Option Addr) (cap : Nat) (bs : List Int) (i : Nat) (sd : Int), i ≤ k ∧ b < N ∧ CodeAt w N ca bs ∧ (0 < bs.length → ∀ cb co, ca = some ⟨cb, co, none⟩ → cb ≠ b) ∧
    w.ownsRow 0 173 3 (.slice (some ⟨b, 0, none⟩) 1 1) 1 [.slice ca bs.length cap, .int .i64 i, .int .u64 sd]
theorem CodeAt.grown {w w' : World} {N : Nat} {ca : Option Addr} {bs : List Int} (h : CodeAt w N ca bs) {row : Option Nat} (hg : w.grownBy w' row) (hne : 0 < bs.length → ∀ cb co, ca = some ⟨cb, co, none⟩ → some cb ≠ row) : CodeAt w' N ca bs := by
  obtain ⟨h1, h2, h3, h4⟩ := h
  refine ⟨?_, h2, h3, h4⟩
  rcases h1 with rfl | ⟨cb, co, rfl, hc⟩
  · exact .inl rfl
  · by_cases h0 : 0 < bs.length
    · exact .inr ⟨cb, co, rfl, fun i hi j v hv => hg.cell (hc i hi j v hv) (hne h0 cb co rfl)⟩
    · exact .inl (List.length_eq_zero_iff.1 (by omega))
theorem SrcAt.mono {w : World} {N b k N' k' : Nat} (h : SrcAt w N b k) (hN : N ≤ N') (hk : k ≤ k') : SrcAt w N' b k' := by
  obtain ⟨ca, cap, bs, i, sd, h1, h2, ⟨c1, c2, c3, c4⟩, h4, h5⟩ := h
  exact ⟨ca, cap, bs, i, sd, by omega, by omega, ⟨c1, c2, c3, fun h0 cb co e => by have := c4 h0 cb co e; omega⟩, h4, h5⟩
/-- A source stays where a row at or above N is written. -/
theorem SrcAt.grown {w w' : World} {N b k : Nat} (h : SrcAt w N b k) {row : Option Nat} (hg : w.grownBy w' row) (hr : ∀ g, row = some g → N ≤ g) : SrcAt w' N b k := by
  obtain ⟨ca, cap, bs, i, sd, h1, h2, h3, h4, h5⟩ := h
  have hne : ∀ q, q < N → some q ≠ row := fun q hq e => by have := hr q e.symm; omega
  refine ⟨ca, cap, bs, i, sd, h1, h2, h3.grown hg (fun h0 cb co e => hne cb (h3.2.2.2 h0 cb co e)), h4, h5.kept hg (.inr ?_)⟩
  simpa [Value.ownBlock] using hne b h2
theorem SrcAt.kept {w w' : World} {N b k : Nat} (h : SrcAt w N b k) (hb : Below w.heap.size w w') : SrcAt w' N b k := h.grown (row := none) (grown_of_below hb) (fun g e => by cases e)
theorem SrcAt.lt {w : World} {N b k : Nat} (h : SrcAt w N b k) : b < N := by obtain ⟨_, _, _, _, _, _, h2, _⟩ := h; exact h2
theorem SrcAt.size {w : World} {N b k : Nat} (h : SrcAt w N b k) : b < w.heap.size := by
  obtain ⟨_, _, _, _, _, _, _, _, _, h5⟩ := h
  exact (h5.lt b rfl).2
/-- what is drawn: a number of which P holds; the source goes on -/
def Drawn (P : Int → Prop) (w : World) (N b k : Nat) (e : Ending) (w' : World) : Prop := ∃ x : Int, P x ∧ e = .returned (.int .i64 x) ∧ SrcAt w' N b k ∧ w.grownBy w' (some b)
def BR (x : Int) : Prop := 0 ≤ x ∧ x ≤ 255

theorem low_byte {z : Nat} (hz : (z : Int) ≤ IntKind.u64.max) : BR (wrap64 (bits BinOp.and IntKind.u64 ((z : Int) / 1099511627776) 255)) := by
  have e : IntKind.u64.max = 18446744073709551615 := by decide
  rw [e] at hz
  have h := bits_and_u64_nat (z / 1099511627776) 255 (by omega) (by omega)
  have h2 : z / 1099511627776 &&& 255 ≤ 255 := Nat.and_le_right
  rw [show ((z : Int) / 1099511627776) = ((z / 1099511627776 : Nat) : Int) from by omega, show (255 : Int) = ((255 : Nat) : Int) from rfl, h]
  generalize z / 1099511627776 &&& 255 = y at *
  rw [IntWalk.wrap64_in _ (by omega)]
  exact ⟨by omega, by omega⟩
def Str.enc (s : ByteArray) : List Value := [.string s]
theorem l00From_any (ca : Option Addr) (cap : Nat) (bs : List Int) (w : World) (hc : CodeAt w w.heap.size ca bs) :
    Calls Tryz.prog 69 #[.slice ca bs.length cap] w fun e w' => e = .returned (.pointer (some ⟨w.heap.size, 0, none⟩)) ∧ Below w.heap.size w w' ∧ SrcAt w' (w.heap.size + 1) w.heap.size 0 ∧ w'.heap.size = w.heap.size + 1 := by
  have HC := Lib.hid hc; clear hc
  go_enter Tryz.func69, Tryz.ntmps69
  go_wp2
  go_ret
  have hb : Below w.heap.size w (w.alloc (.cells #[.slice ca bs.length cap, .int .i64 0, .int .u64 0] 173)) := (Below.refl _ _).alloc (Nat.le_refl _) _
  refine ⟨rfl, hb, ⟨ca, cap, bs, 0, 0, Nat.le_refl _, by omega, ?_, fun h0 cb co e => ?_, ?_⟩, by simp⟩
  · obtain ⟨c1, c2, c3, c4⟩ := HC.out
    exact ⟨c1.kept hb, c2, c3, fun h0 cb co e => by have := c4 h0 cb co e; omega⟩
  · have := HC.out.2.2.2 h0 cb co e
    omega
  · exact ⟨by simp, .inr ⟨w.heap.size, 1, #[.slice ca bs.length cap, .int .i64 0, .int .u64 0], rfl, Nat.zero_le _, heap_alloc_new w _, Nat.le_refl _, by unfold maxLen; omega, rfl, by simp⟩⟩
set_option maxHeartbeats 1000000 in
theorem next_any (N b k : Nat) (w : World) (hs : SrcAt w N b k) (hk : k < 4611686018427387904) :
    Calls Tryz.prog 199 #[.pointer (some ⟨b, 0, none⟩)] w (Drawn BR w N b (k + 1)) := by
  obtain ⟨ca, cap, bs, i, sd, hi, hbN, HC, hne, ho⟩ := hs
  have hl : bs.length ≤ 4096 := HC.2.2.1
  have q0 := ho.cellAt 0 (by decide)
  have q1 := ho.cellAt 1 (by decide)
  have q2 := ho.cellAt 2 (by decide)
  have f1 := ho.frozenAt 1
  have f2 := ho.frozenAt 2
  simp only [List.getElem?_cons_zero, List.getElem?_cons_succ] at q0 q1 q2
  have HCC := Lib.hid HC; clear HC
  have HO := Lib.hid ho; clear ho
  have HNE := Lib.hid hne; clear hne
  by_cases hlt : i < bs.length
  · obtain ⟨cb, co, rfl, hcs⟩ := HCC.out.1.open hlt
    have hx := hcs.at0 hlt rfl
    have hbb := HCC.out.2.1 _ (List.getElem_mem hlt)
    clear hcs
    simp only [Nat.mul_one] at hx
    go_enter Tryz.func199, Tryz.ntmps199
    go_wp2
    go_quiet (fail)
    have hd : Below w.heap.size w (w.drewN nq) := (Drew.drewN (Drew.refl _) nq).below _
    replace HO := Lib.hid (own_below HO.out hd)
    replace HCC := Lib.hid (HCC.out.grown (row := none) (grown_of_below hd) (fun _ _ _ _ => by simp))
    replace q0 := cell_kept q0 hd
    replace q1 := cell_kept q1 hd
    replace q2 := cell_kept q2 hd
    replace f1 := HO.out.frozenAt 1
    replace f2 := HO.out.frozenAt 2
    replace hx := cell_kept hx hd
    have G := Lib.hid (grown_of_below (row := some b) hd)
    generalize w.drewN nq = wa at *
    clear hd
    go_wp2
    go_quiet (fail)
    have hd : Below wa.heap.size wa (wa.drewN nq) := (Drew.drewN (Drew.refl _) nq).below _
    replace HO := Lib.hid (own_below HO.out hd)
    replace HCC := Lib.hid (HCC.out.grown (row := none) (grown_of_below hd) (fun _ _ _ _ => by simp))
    replace q0 := cell_kept q0 hd
    replace q1 := cell_kept q1 hd
    replace q2 := cell_kept q2 hd
    replace f1 := HO.out.frozenAt 1
    replace f2 := HO.out.frozenAt 2
    replace G := Lib.hid (grown_below G.out hd)
    generalize wa.drewN nq = wb at *
    clear hd hx
    go_wp2
    have hzr := wrap_within IntKind.u64 (IntKind.u64.wrap (IntKind.u64.wrap (sd * 6364136223846793005) + bs[i]) + 1442695040888963407)
    obtain ⟨z, hz⟩ : ∃ z : Nat, IntKind.u64.wrap (IntKind.u64.wrap (IntKind.u64.wrap (sd * 6364136223846793005) + bs[i]) + 1442695040888963407) = z := ⟨Int.toNat _, (Int.toNat_of_nonneg hzr.1).symm⟩
    rw [hz] at hzr ⊢
    have HZ := Lib.hid hzr
    clear hz hzr
    obtain ⟨o1, g1⟩ := HO.out.stored 1 (.int .i64 ((i : Int) + 1))
    obtain ⟨o2, g2⟩ := o1.stored 2 (.int .u64 z)
    have G2 := Lib.hid (grownBy_trans G.out (grownBy_trans g1 g2))
    have HC2 := Lib.hid (HCC.out.grown (grownBy_trans g1 g2) (fun h0 cb co e => by simpa [Value.ownBlock] using HNE.out h0 cb co e))
    have HO2 := Lib.hid o2
    clear o1 o2 g1 g2 HO HCC G q0 q1 q2 f1 f2
    have q0 := HO2.out.cellAt 0 (by decide)
    have q1 := HO2.out.cellAt 1 (by decide)
    have q2 := HO2.out.cellAt 2 (by decide)
    simp only [List.set_cons_succ, List.set_cons_zero, List.getElem?_cons_zero, List.getElem?_cons_succ] at q0 q1 q2
    generalize ((wb.setCell ⟨b, 1, none⟩ (.int .i64 ((i : Int) + 1))).setCell ⟨b, 2, none⟩ (.int .u64 (z : Int))) = wc at *
    go_quiet (fail)
    have hd : Below wc.heap.size wc (wc.drewN nq) := (Drew.drewN (Drew.refl _) nq).below _
    go_wp2
    go_ret
    exact ⟨_, hbb, rfl, ⟨_, _, _, i + 1, _, by omega, hbN, HC2.out.grown (row := none) (grown_of_below hd) (fun _ _ _ _ => by simp), HNE.out, own_below HO2.out hd⟩, grown_below G2.out hd⟩
  · go_enter Tryz.func199, Tryz.ntmps199
    go_wp2
    go_quiet (fail)
    have hd : Below w.heap.size w (w.drewN nq) := (Drew.drewN (Drew.refl _) nq).below _
    replace HO := Lib.hid (own_below HO.out hd)
    replace HCC := Lib.hid (HCC.out.grown (row := none) (grown_of_below hd) (fun _ _ _ _ => by simp))
    replace q0 := cell_kept q0 hd
    replace q1 := cell_kept q1 hd
    replace q2 := cell_kept q2 hd
    replace f1 := HO.out.frozenAt 1
    replace f2 := HO.out.frozenAt 2
    have G := Lib.hid (grown_of_below (row := some b) hd)
    generalize w.drewN nq = wb at *
    clear hd
    go_wp2
    have hzr := wrap_within IntKind.u64 (IntKind.u64.wrap (IntKind.u64.wrap (sd * 6364136223846793005)) + 1442695040888963407)
    obtain ⟨z, hz⟩ : ∃ z : Nat, IntKind.u64.wrap (IntKind.u64.wrap (IntKind.u64.wrap (sd * 6364136223846793005)) + 1442695040888963407) = z := ⟨Int.toNat _, (Int.toNat_of_nonneg hzr.1).symm⟩
    rw [hz] at hzr ⊢
    have HZ := Lib.hid hzr
    clear hz hzr
    obtain ⟨o1, g1⟩ := HO.out.stored 1 (.int .i64 ((i : Int) + 1))
    obtain ⟨o2, g2⟩ := o1.stored 2 (.int .u64 z)
    have G2 := Lib.hid (grownBy_trans G.out (grownBy_trans g1 g2))
    have HC2 := Lib.hid (HCC.out.grown (grownBy_trans g1 g2) (fun h0 cb co e => by simpa [Value.ownBlock] using HNE.out h0 cb co e))
    have HO2 := Lib.hid o2
    clear o1 o2 g1 g2 HO HCC G q0 q1 q2 f1 f2
    have q0 := HO2.out.cellAt 0 (by decide)
    have q1 := HO2.out.cellAt 1 (by decide)
    have q2 := HO2.out.cellAt 2 (by decide)
    simp only [List.set_cons_succ, List.set_cons_zero, List.getElem?_cons_zero, List.getElem?_cons_succ] at q0 q1 q2
    generalize ((wb.setCell ⟨b, 1, none⟩ (.int .i64 ((i : Int) + 1))).setCell ⟨b, 2, none⟩ (.int .u64 (z : Int))) = wc at *
    go_quiet (fail)
    have hd : Below wc.heap.size wc (wc.drewN nq) := (Drew.drewN (Drew.refl _) nq).below _
    replace q2 := cell_kept q2 hd
    have HC3 := Lib.hid (HC2.out.grown (row := none) (grown_of_below hd) (fun _ _ _ _ => by simp))
    have HO3 := Lib.hid (own_below HO2.out hd)
    have G3 := Lib.hid (grown_below G2.out hd)
    generalize wc.drewN nq = wd at *
    clear hd
    go_wp2
    go_ret
    exact ⟨_, low_byte HZ.out.2, rfl, ⟨_, _, _, i + 1, _, by omega, hbN, HC3.out, HNE.out, HO3.out⟩, G3.out⟩
/-- a number of n, from 0 -/
def PickP (n : Int) (x : Int) : Prop := 0 ≤ x ∧ (1 ≤ n → x < n) ∧ (n ≤ 1 → x = 0) ∧ x ≤ 65535
set_option maxHeartbeats 1000000 in
theorem pick_any (n : Int) (N b k : Nat) (w : World) (hs : SrcAt w N b k) (hk : k < 1099511627776) :
    Calls Tryz.prog 106 #[.pointer (some ⟨b, 0, none⟩), .int .i64 n] w (Drawn (PickP n) w N b (k + 2)) := by
  have HS := Lib.hid hs; clear hs
  by_cases h1 : n ≤ 1
  · go_enter Tryz.func106, Tryz.ntmps106
    go_wp2
    go_ret
    exact ⟨0, ⟨by omega, by omega, fun _ => rfl, by omega⟩, rfl, HS.out.mono (Nat.le_refl _) (by omega), World.grownBy_refl _ _⟩
  · by_cases h2 : n ≤ 200
    · go_enter Tryz.func106, Tryz.ntmps106
      go_wp2_with fail
      refine (next_any N b k w HS.out (by omega)).mono ?_
      rintro e w1 ⟨x, ⟨x0, x1⟩, rfl, s1, g1⟩
      have H1 := Lib.hid s1
      have G1 := Lib.hid g1
      clear s1 g1
      have m1 : x % n < n := Int.emod_lt_of_pos x (by omega)
      have m0 : 0 ≤ x % n := Int.emod_nonneg x (by omega)
      have M := Lib.hid m1
      clear m1
      go_wp2
      go_ret
      exact ⟨_, ⟨m0, fun _ => M.out, fun h => absurd h (by omega), by have := M.out; omega⟩, rfl, H1.out.mono (Nat.le_refl _) (by omega), G1.out⟩
    · go_enter Tryz.func106, Tryz.ntmps106
      go_wp2_with fail
      refine (next_any N b k w HS.out (by omega)).mono ?_
      rintro e w1 ⟨x, ⟨x0, x1⟩, rfl, s1, g1⟩
      have H1 := Lib.hid s1
      have G1 := Lib.hid g1
      clear s1 g1
      go_wp2_with fail
      refine (next_any N b (k + 1) w1 H1.out (by omega)).mono ?_
      rintro e w2 ⟨y, ⟨y0, y1⟩, rfl, s2, g2⟩
      have H2 := Lib.hid s2
      have G2 := Lib.hid (grownBy_trans G1.out g2)
      clear s2 g2
      have m1 : (x * 256 + y) % n < n := Int.emod_lt_of_pos _ (by omega)
      have m0 : 0 ≤ (x * 256 + y) % n := Int.emod_nonneg _ (by omega)
      have m2 : (x * 256 + y) % n ≤ x * 256 + y := by
        by_cases hq : x * 256 + y < n
        · rw [Int.emod_eq_of_lt (by omega) hq]
          exact Int.le_refl _
        · omega
      have M := Lib.hid (And.intro m1 m2)
      clear m1 m2
      go_wp2
      go_ret
      exact ⟨_, ⟨m0, fun _ => M.out.1, fun h => absurd h (by omega), by have := M.out.2; omega⟩, rfl, H2.out.mono (Nat.le_refl _) (by omega), G2.out⟩
/-- yes or no -/
def DrawnB (w : World) (N b k : Nat) (e : Ending) (w' : World) : Prop := ∃ y : Bool, e = .returned (.bool y) ∧ SrcAt w' N b k ∧ w.grownBy w' (some b)
theorem one_any (n : Int) (N b k : Nat) (w : World) (hs : SrcAt w N b k) (hk : k < 1099511627776) :
    Calls Tryz.prog 108 #[.pointer (some ⟨b, 0, none⟩), .int .i64 n] w (DrawnB w N b (k + 2)) := by
  have HS := Lib.hid hs; clear hs
  go_enter Tryz.func108, Tryz.ntmps108
  go_wp2_with fail
  refine (pick_any n N b k w HS.out hk).mono ?_
  rintro e w1 ⟨x, ⟨x0, _, _, _⟩, rfl, s1, g1⟩
  have H1 := Lib.hid s1
  have G1 := Lib.hid g1
  clear s1 g1
  go_wp2
  go_ret
  exact ⟨_, rfl, H1.out, G1.out⟩
theorem cells_new {α : Type} {enc : α → List Value} {sz : Nat} (he : ∀ x, (enc x).length = sz) (w : World) (xs : List α) (t : TypeId) : CellsAt (w.alloc (.cells (xs.flatMap enc).toArray t)) sz enc w.heap.size 0 xs := by
  intro i hi j v hv
  have hj : j < sz := by
    have := (List.getElem?_eq_some_iff.1 hv).1
    rwa [he] at this
  rw [Nat.zero_add]
  refine cell_new0 w _ t ?_
  rw [List.getElem?_toArray, flatMap_get he xs hi hj]
  exact hv
theorem among_any (xs : List Int) (g cap : Nat) (N b k : Nat) (w : World) (hs : SrcAt w N b k) (hk : k < 1099511627776) (hc : CellsAt w 1 I64.enc g 0 xs) (h0 : 0 < xs.length) (hl : xs.length ≤ 1048576) (hg : g ≠ b) :
    Calls Tryz.prog 196 #[.pointer (some ⟨b, 0, none⟩), .slice (some ⟨g, 0, none⟩) xs.length cap] w (Drawn (· ∈ xs) w N b (k + 2)) := by
  have HS := Lib.hid hs; clear hs
  have HC := Lib.hid hc; clear hc
  go_enter Tryz.func196, Tryz.ntmps196
  go_wp2_with fail
  refine (pick_any xs.length N b k w HS.out hk).mono ?_
  rintro e w1 ⟨x, ⟨x0, x1, _, _⟩, rfl, s1, g1⟩
  obtain ⟨i, rfl⟩ : ∃ i : Nat, x = i := ⟨x.toNat, (Int.toNat_of_nonneg x0).symm⟩
  have hi : i < xs.length := by have := x1 (by omega); omega
  have q := g1.cell (HC.out i hi 0 _ rfl) (by simpa using hg)
  simp only [Nat.zero_add, Nat.mul_one, Nat.add_zero] at q
  have H1 := Lib.hid s1
  have G1 := Lib.hid g1
  clear s1 g1 x0 x1
  go_wp2
  go_ret
  exact ⟨_, List.getElem_mem hi, rfl, H1.out, G1.out⟩
/-- one of some texts -/
def DrawnS (xs : List ByteArray) (w : World) (N b k : Nat) (e : Ending) (w' : World) : Prop := ∃ x ∈ xs, e = .returned (.string x) ∧ SrcAt w' N b k ∧ w.grownBy w' (some b)
theorem text_any (xs : List ByteArray) (g cap : Nat) (N b k : Nat) (w : World) (hs : SrcAt w N b k) (hk : k < 1099511627776) (hc : CellsAt w 1 Str.enc g 0 xs) (h0 : 0 < xs.length) (hl : xs.length ≤ 1048576) (hg : g ≠ b) :
    Calls Tryz.prog 145 #[.pointer (some ⟨b, 0, none⟩), .slice (some ⟨g, 0, none⟩) xs.length cap] w (DrawnS xs w N b (k + 2)) := by
  have HS := Lib.hid hs; clear hs
  have HC := Lib.hid hc; clear hc
  go_enter Tryz.func145, Tryz.ntmps145
  go_wp2_with fail
  refine (pick_any xs.length N b k w HS.out hk).mono ?_
  rintro e w1 ⟨x, ⟨x0, x1, _, _⟩, rfl, s1, g1⟩
  obtain ⟨i, rfl⟩ : ∃ i : Nat, x = i := ⟨x.toNat, (Int.toNat_of_nonneg x0).symm⟩
  have hi : i < xs.length := by have := x1 (by omega); omega
  have q := g1.cell (HC.out i hi 0 _ rfl) (by simpa using hg)
  simp only [Nat.zero_add, Nat.mul_one, Nat.add_zero] at q
  have H1 := Lib.hid s1
  have G1 := Lib.hid g1
  clear s1 g1 x0 x1
  go_wp2
  go_ret
  exact ⟨_, List.getElem_mem hi, rfl, H1.out, G1.out⟩
end Go.Proofs.YtjdcdhhbgijaoaaGreatDoor
namespace Go.Proofs.YtjdcdhhbgijaoaaGreatDoor
open Go.ChangeShapes Go.WideShapes Go.ChangeAt Go.RowKit Go.Sort

/-- nothing below g is written -/
structure Above (g : Nat) (w w' : World) : Prop where
  src : ∀ {N b k : Nat}, SrcAt w N b k → N ≤ g → SrcAt w' N b k
  grown : ∀ {w0 : World} {b : Nat}, w0.grownBy w (some b) → w0.heap.size ≤ g → w0.grownBy w' (some b)
  var : ∀ {r : Nat} {t : TypeId} {cs : List Value}, VarAt w r t cs → r < g → VarAt w' r t cs
theorem above_of {g : Nat} {w w' : World} {row : Option Nat} (hg : w.grownBy w' row) (hr : ∀ k, row = some k → g ≤ k) : Above g w w' := by
  refine ⟨fun h hN => h.grown hg (fun k e => Nat.le_trans hN (hr k e)), fun h hz => ?_, fun h hl => h.grown hg (fun e => by have := hr _ e.symm; omega)⟩
  cases row with
  | none => exact grown_below h (below_of_grown hg)
  | some k => exact grown_over h hg (Nat.le_trans hz (hr k rfl))
theorem Above.trans {g : Nat} {a b c : World} (h : Above g a b) (k : Above g b c) : Above g a c :=
  ⟨fun x y => k.src (h.src x y) y, fun x y => k.grown (h.grown x y) y, fun x y => k.var (h.var x y) y⟩
/-- a tile set in a box; its rows are at or above block B, the box is none of them -/
structure TBoy (w : World) (B g : Nat) (x : Tls) (q : TlA) : Prop where
  var : VarAt w g 44 (tlCells x q)
  own : x.Own q B w
  off : offA q.values.a q.counts.a
  offv : offA q.values.a (some ⟨g, 0, none⟩)
  offc : offA q.counts.a (some ⟨g, 0, none⟩)
  lo : B ≤ g
theorem TBoy.lt {w : World} {B g : Nat} {x : Tls} {q : TlA} (h : TBoy w B g x q) : g < w.heap.size := h.var.lt
theorem TBoy.kept {w w' : World} {B g : Nat} {x : Tls} {q : TlA} (h : TBoy w B g x q) (hb : Below w.heap.size w w') : TBoy w' B g x q := ⟨h.var.kept hb, h.own.kept hb, h.off, h.offv, h.offc, h.lo⟩
theorem TBoy.grown {w w' : World} {B g b : Nat} {x : Tls} {q : TlA} (h : TBoy w B g x q) (hg : w.grownBy w' (some b)) (hb : b < B) : TBoy w' B g x q := by
  have := h.lo
  exact ⟨h.var.grown hg (fun e => by cases e; omega), h.own.store hg hb, h.off, h.offv, h.offc, h.lo⟩
theorem TBoy.cell {w : World} {B g : Nat} {x : Tls} {q : TlA} (h : TBoy w B g x q) {i : Nat} {v : Value} (hv : (tlCells x q)[i]? = some v) : w.cell? ⟨g, i, none⟩ = some v := h.var.cell hv
theorem TBoy.free {w : World} {B g : Nat} {x : Tls} {q : TlA} (h : TBoy w B g x q) (i : Nat) : w.frozen? ⟨g, i, none⟩ = false := h.var.free i
theorem TBoy.put {w w' : World} {B g : Nat} {x y : Tls} {q q' : TlA} (h : TBoy w B g x q) (hg : w.grownBy w' (some g)) (hv : VarAt w' g 44 (tlCells y q')) (e1 : y.values = x.values) (e2 : y.counts = x.counts) (e3 : q' = q) : TBoy w' B g y q' ∧ Above B w w' := by
  subst e3
  have hlo := h.lo
  have hW := wrote_box hg (show B ≤ w.heap.size by have := h.lt; omega) hlo
  refine ⟨⟨hv, ⟨?_, ?_⟩, h.off, h.offv, h.offc, hlo⟩, above_of hg (fun k e => by cases e; exact hlo)⟩
  · rw [e1]
    exact hW.own (fun s hs => by rw [List.mem_singleton.1 hs]; exact h.offv.symm) h.own.1
  · rw [e2]
    exact hW.own (fun s hs => by rw [List.mem_singleton.1 hs]; exact h.offc.symm) h.own.2
theorem TBoy.setL {w : World} {B g : Nat} {x : Tls} {q : TlA} (h : TBoy w B g x q) (s : ByteArray) : TBoy (w.setCell ⟨g, 0, none⟩ (.string s)) B g { x with letters := s } q ∧ Above B w (w.setCell ⟨g, 0, none⟩ (.string s)) := by
  obtain ⟨o1, k1⟩ := h.var.set 0 (.string s)
  exact h.put k1 o1 rfl rfl rfl
theorem TBoy.setB {w : World} {B g : Nat} {x : Tls} {q : TlA} (h : TBoy w B g x q) (n : Int) : TBoy (w.setCell ⟨g, 3, none⟩ (.int .i64 n)) B g { x with blanks := n } q ∧ Above B w (w.setCell ⟨g, 3, none⟩ (.int .i64 n)) := by
  obtain ⟨o1, k1⟩ := h.var.set 3 (.int .i64 n)
  exact h.put k1 o1 rfl rfl rfl
theorem TBoy.addv {w w2 : World} {B g g7 cap7 : Nat} {x : Tls} {q : TlA} {v : Int} (h : TBoy w B g x q)
    (hown : w2.ownsRow B 2 1 (.slice (some ⟨g7, 0, none⟩) (x.values.length + 1) cap7) (x.values.length + 1) (x.values.flatMap I64.enc ++ I64.enc v))
    (hgr : w.grownBy w2 (Value.slice q.values.a x.values.length q.values.c).ownBlock) (hwh : (Value.slice q.values.a x.values.length q.values.c).ownBlock = some g7 ∨ g7 = w.heap.size) :
    TBoy (w2.setCell ⟨g, 1, none⟩ (.slice (some ⟨g7, 0, none⟩) (x.values.length + 1) cap7)) B g { x with values := x.values ++ [v] } ⟨⟨some ⟨g7, 0, none⟩, cap7⟩, q.counts⟩ ∧ Above B w (w2.setCell ⟨g, 1, none⟩ (.slice (some ⟨g7, 0, none⟩) (x.values.length + 1) cap7)) ∧ w2.cell? ⟨g, 1, none⟩ = some (.slice q.values.a x.values.length q.values.c) ∧ w2.frozen? ⟨g, 1, none⟩ = false := by
  have hlt := h.lt
  have hlo := h.lo
  have hW : Wrote B [q.values.a] w w2 := Wrote.of_grown hgr (by omega) (fun k hk => (own_lt h.own.1 k hk).1)
  have hV := h.var.wrote hW (fun s hs => by rw [List.mem_singleton.1 hs]; exact h.offv)
  obtain ⟨o1, k1⟩ := hV.set 1 (.slice (some ⟨g7, 0, none⟩) (x.values.length + 1) cap7)
  have hW2 := wrote_box k1 (show B ≤ w2.heap.size by have := hV.lt; omega) hlo
  have hl : (x.values ++ [v]).length = x.values.length + 1 := by simp
  have h7g : offA (some ⟨g7, 0, none⟩) (some ⟨g, 0, none⟩) := by
    intro k e1 e2
    obtain rfl : g7 = k := by simpa using e1
    rcases hwh with e | e
    · exact h.offv _ (ownBlock_map e) e2
    · obtain rfl : g = g7 := by simpa using e2
      omega
  have h7c : offA (some ⟨g7, 0, none⟩) q.counts.a := by
    intro k e1 e2
    obtain rfl : g7 = k := by simpa using e1
    rcases hwh with e | e
    · exact h.off _ (ownBlock_map e) e2
    · have := (own_lt h.own.2 _ e2).2
      omega
  refine ⟨⟨o1.as (by unfold tlCells; simp only [hl]; rfl), ⟨?_, ?_⟩, h7c, h7g, h.offc, hlo⟩, (above_of hgr (fun k e => (own_lt h.own.1 k (ownBlock_map e)).1)).trans (above_of k1 (fun k e => by cases e; exact hlo)), hV.cell rfl, hV.free 1⟩
  · have h2 := hW2.own (fun s hs => by rw [List.mem_singleton.1 hs]; exact h7g.symm) (own_as hown (flat_snoc I64.enc x.values v))
    simp only [hl]
    exact h2
  · exact hW2.own (fun s hs => by rw [List.mem_singleton.1 hs]; exact h.offc.symm) (hW.own (fun s hs => by rw [List.mem_singleton.1 hs]; exact h.off) h.own.2)
theorem TBoy.addc {w w2 : World} {B g g7 cap7 : Nat} {x : Tls} {q : TlA} {v : Int} (h : TBoy w B g x q)
    (hown : w2.ownsRow B 2 1 (.slice (some ⟨g7, 0, none⟩) (x.counts.length + 1) cap7) (x.counts.length + 1) (x.counts.flatMap I64.enc ++ I64.enc v))
    (hgr : w.grownBy w2 (Value.slice q.counts.a x.counts.length q.counts.c).ownBlock) (hwh : (Value.slice q.counts.a x.counts.length q.counts.c).ownBlock = some g7 ∨ g7 = w.heap.size) :
    TBoy (w2.setCell ⟨g, 2, none⟩ (.slice (some ⟨g7, 0, none⟩) (x.counts.length + 1) cap7)) B g { x with counts := x.counts ++ [v] } ⟨q.values, ⟨some ⟨g7, 0, none⟩, cap7⟩⟩ ∧ Above B w (w2.setCell ⟨g, 2, none⟩ (.slice (some ⟨g7, 0, none⟩) (x.counts.length + 1) cap7)) ∧ w2.cell? ⟨g, 2, none⟩ = some (.slice q.counts.a x.counts.length q.counts.c) ∧ w2.frozen? ⟨g, 2, none⟩ = false := by
  have hlt := h.lt
  have hlo := h.lo
  have hW : Wrote B [q.counts.a] w w2 := Wrote.of_grown hgr (by omega) (fun k hk => (own_lt h.own.2 k hk).1)
  have hV := h.var.wrote hW (fun s hs => by rw [List.mem_singleton.1 hs]; exact h.offc)
  obtain ⟨o1, k1⟩ := hV.set 2 (.slice (some ⟨g7, 0, none⟩) (x.counts.length + 1) cap7)
  have hW2 := wrote_box k1 (show B ≤ w2.heap.size by have := hV.lt; omega) hlo
  have hl : (x.counts ++ [v]).length = x.counts.length + 1 := by simp
  have h7g : offA (some ⟨g7, 0, none⟩) (some ⟨g, 0, none⟩) := by
    intro k e1 e2
    obtain rfl : g7 = k := by simpa using e1
    rcases hwh with e | e
    · exact h.offc _ (ownBlock_map e) e2
    · obtain rfl : g = g7 := by simpa using e2
      omega
  have h7v : offA q.values.a (some ⟨g7, 0, none⟩) := by
    intro k e2 e1
    obtain rfl : g7 = k := by simpa using e1
    rcases hwh with e | e
    · exact h.off _ e2 (ownBlock_map e)
    · have := (own_lt h.own.1 _ e2).2
      omega
  refine ⟨⟨o1.as (by unfold tlCells; simp only [hl]; rfl), ⟨?_, ?_⟩, h7v, h.offv, h7g, hlo⟩, (above_of hgr (fun k e => (own_lt h.own.2 k (ownBlock_map e)).1)).trans (above_of k1 (fun k e => by cases e; exact hlo)), hV.cell rfl, hV.free 2⟩
  · exact hW2.own (fun s hs => by rw [List.mem_singleton.1 hs]; exact h.offv.symm) (hW.own (fun s hs => by rw [List.mem_singleton.1 hs]; exact h.off.symm) h.own.1)
  · have h2 := hW2.own (fun s hs => by rw [List.mem_singleton.1 hs]; exact h7g.symm) (own_as hown (flat_snoc I64.enc x.counts v))
    simp only [hl]
    exact h2
theorem own_block {w : World} {base c : Nat} {a : Option Addr} {ms : List Int} (ho : w.ownsRow base 2 1 (.slice a ms.length c) ms.length (ms.flatMap I64.enc)) (hne : 0 < ms.length) : ∃ gb, a = some ⟨gb, 0, none⟩ ∧ base ≤ gb ∧ gb < w.heap.size := by
  obtain ⟨gb, h1, h2, h3, _⟩ := IZ.block (.inr ho) hne
  exact ⟨gb, h1, h2, h3⟩
theorem TBoy.putv {w : World} {B g gb : Nat} {x : Tls} {q : TlA} (h : TBoy w B g x q) (ha : q.values.a = some ⟨gb, 0, none⟩) (k : Nat) (v : Int) (hne : 0 < x.values.length) : TBoy (w.setCell ⟨gb, k, none⟩ (.int .i64 v)) B g { x with values := x.values.set k v } q ∧ Above B w (w.setCell ⟨gb, k, none⟩ (.int .i64 v)) := by
  have hlo := h.lo
  have hlt := h.lt
  have ho := h.own.1
  rw [ha] at ho
  obtain ⟨h1, h2, h3⟩ := IZ.setAt ho k v (by omega)
  have hgb := (own_lt ho gb rfl).1
  have hov := h.offv
  rw [ha] at hov
  have hof := h.off
  rw [ha] at hof
  have h4 := h1.resolve_left (by intro e; have := congrArg List.length e; rw [List.length_set, List.length_nil] at this; omega)
  refine ⟨⟨(h.var.wrote h2 (fun s hs => by rw [List.mem_singleton.1 hs]; exact hov)).as (by unfold tlCells; simp only [List.length_set]), ⟨?_, ?_⟩, h.off, h.offv, h.offc, hlo⟩, above_of h3 (fun k e => by cases e; exact hgb)⟩
  · show World.ownsRow _ _ _ _ (.slice q.values.a _ _) _ _
    rw [ha]
    exact h4
  · exact h2.own (fun s hs => by rw [List.mem_singleton.1 hs]; exact hof) h.own.2
theorem TBoy.putc {w : World} {B g gb : Nat} {x : Tls} {q : TlA} (h : TBoy w B g x q) (ha : q.counts.a = some ⟨gb, 0, none⟩) (k : Nat) (v : Int) (hne : 0 < x.counts.length) : TBoy (w.setCell ⟨gb, k, none⟩ (.int .i64 v)) B g { x with counts := x.counts.set k v } q ∧ Above B w (w.setCell ⟨gb, k, none⟩ (.int .i64 v)) := by
  have hlo := h.lo
  have hlt := h.lt
  have ho := h.own.2
  rw [ha] at ho
  obtain ⟨h1, h2, h3⟩ := IZ.setAt ho k v (by omega)
  have hgb := (own_lt ho gb rfl).1
  have hov := h.offc
  rw [ha] at hov
  have hof := h.off
  rw [ha] at hof
  have h4 := h1.resolve_left (by intro e; have := congrArg List.length e; rw [List.length_set, List.length_nil] at this; omega)
  refine ⟨⟨(h.var.wrote h2 (fun s hs => by rw [List.mem_singleton.1 hs]; exact hov)).as (by unfold tlCells; simp only [List.length_set]), ⟨?_, ?_⟩, h.off, h.offv, h.offc, hlo⟩, above_of h3 (fun k e => by cases e; exact hgb)⟩
  · exact h2.own (fun s hs => by rw [List.mem_singleton.1 hs]; exact hof.symm) h.own.1
  · show World.ownsRow _ _ _ _ (.slice q.counts.a _ _) _ _
    rw [ha]
    exact h4
theorem TBoy.new (w : World) {w0 : World} {B : Nat} {x : Tls} {q : TlA} (h : x.Own q w0.heap.size w) (ho : offA q.values.a q.counts.a) (hB : B ≤ w.heap.size) (h0 : B ≤ w0.heap.size) : TBoy (w.alloc (.cells #[.string x.letters, .slice q.values.a x.values.length q.values.c, .slice q.counts.a x.counts.length q.counts.c, .int .i64 x.blanks] 44)) B w.heap.size x q := by
  refine ⟨VarAt.new w _ (tlCells x q), Tls.Own.mono (Tls.Own.kept h ((Below.refl _ _).alloc (Nat.le_refl _) _)) h0, ho, fun k e1 e2 => ?_, fun k e1 e2 => ?_, hB⟩
  · obtain rfl : w.heap.size = k := by simpa using e2
    have := (own_lt h.1 _ e1).2
    omega
  · obtain rfl : w.heap.size = k := by simpa using e2
    have := (own_lt h.2 _ e1).2
    omega
theorem TBoy.zero (w : World) {B : Nat} (z : Int) (hB : B ≤ w.heap.size) : TBoy (w.alloc (.cells #[.string ⟨#[]⟩, .slice none 0 0, .slice none 0 0, .int .i64 z] 44)) B w.heap.size ⟨⟨#[]⟩, [], [], z⟩ ⟨⟨none, 0⟩, ⟨none, 0⟩⟩ :=
  ⟨VarAt.new w _ [.string ⟨#[]⟩, .slice none 0 0, .slice none 0 0, .int .i64 z], ⟨World.ownsRow_nil _ _ _ _, World.ownsRow_nil _ _ _ _⟩, offA_none _, offA_none _, offA_none _, hB⟩
/-- a tile set is drawn; the source goes on -/
def TlDrawn (lo M : Nat) (w : World) (N b k : Nat) (e : Ending) (w' : World) : Prop :=
  ∃ (x : Tls) (q : TlA), e = .returned (.agg #[.string x.letters, .slice q.values.a x.values.length q.values.c, .slice q.counts.a x.counts.length q.counts.c, .int .i64 x.blanks]) ∧ x.letters.size ≤ M ∧ x.values.length ≤ M ∧ x.counts.length ≤ M ∧ lo ≤ x.values.length ∧ lo ≤ x.counts.length ∧ x.Own q w.heap.size w' ∧ offA q.values.a q.counts.a ∧ SrcAt w' N b k ∧ w.grownBy w' (some b)
end Go.Proofs.YtjdcdhhbgijaoaaGreatDoor
namespace Go.Proofs.YtjdcdhhbgijaoaaGreatDoor
open Go.ChangeShapes Go.WideShapes Go.ChangeAt Go.RowKit Go.Sort

def smallN : ByteArray := ⟨#[115, 109, 97, 108, 108]⟩
def englishN : ByteArray := ⟨#[101, 110, 103, 108, 105, 115, 104]⟩
def standX (s : ByteArray) : ByteArray := if s.data.toList = englishN.data.toList then englishX else if s.data.toList = smallN.data.toList then smallX else ⟨#[]⟩
set_option maxRecDepth 100000 in
theorem l02Standard_any (s : ByteArray) (w : World) : Calls Tryz.prog 250 #[.string s] w fun e w' => e = .returned (.string (standX s)) ∧ w = w' := by
  by_cases h1 : s.data.toList = englishN.data.toList
  · have HS : Hid (standX s = englishX) := Lib.hid (if_pos h1)
    have q1 : s.toList = [101, 110, 103, 108, 105, 115, 104] := by rw [ByteArray.toList_eq]; exact h1
    clear h1
    rw [HS.out]
    go_enter Tryz.func250, Tryz.ntmps250
    go_wp2
    go_ret
    exact ⟨rfl, rfl⟩
  · have q1 : (s.toList == [101, 110, 103, 108, 105, 115, 104]) = false := by rw [ByteArray.toList_eq]; exact beq_eq_false_iff_ne.2 h1
    by_cases h2 : s.data.toList = smallN.data.toList
    · have HS : Hid (standX s = smallX) := Lib.hid ((if_neg h1).trans (if_pos h2))
      have q2 : s.toList = [115, 109, 97, 108, 108] := by rw [ByteArray.toList_eq]; exact h2
      clear h1 h2
      rw [HS.out]
      go_enter Tryz.func250, Tryz.ntmps250
      go_wp2
      go_ret
      exact ⟨rfl, rfl⟩
    · have HS : Hid (standX s = ⟨#[]⟩) := Lib.hid ((if_neg h1).trans (if_neg h2))
      have q2 : (s.toList == [115, 109, 97, 108, 108]) = false := by rw [ByteArray.toList_eq]; exact beq_eq_false_iff_ne.2 h2
      clear h1 h2
      rw [HS.out]
      go_enter Tryz.func250, Tryz.ntmps250
      go_wp2
      go_ret
      exact ⟨rfl, rfl⟩
end Go.Proofs.YtjdcdhhbgijaoaaGreatDoor
