/- Plain lemmas: plays on the transposed board: all that is said of a play is said of the tur · Contracts: the value of letters: the program and the reference (for seats without games).  · Plain lemmas: sums over a board after a play; the score of a play on the transposed board, · Plain lemmas: the tiles of a board after a play, the squares that it fills. No condition. -/
import Derived.Test.YtjdcdhhbgijaoaaGreatDoorGmM
import Derived.Test.YtjdcdhhbgijaoaaGreatDoorPlbF
import Derived.Test.YtjdcdhhbgijaoaaGreatDoorPlbH
import Derived.Test.YtjdcdhhbgijaoaaGreatDoorTiC
import Derived.Test.YtjdcdhhbgijaoaaGreatDoorBrD
import Derived.Test.YtjdcdhhbgijaoaaGreatDoorScE
import Derived.Test.YtjdcdhhbgijaoaaGreatDoorScL
namespace Go.Proofs.YtjdcdhhbgijaoaaGreatDoor
open Go.ChangeShapes Go.WideShapes Go.ChangeAt Go.RowKit Go.Sort

theorem turnB_turnB {n : Nat} {l : List UInt8} (hl : l.length = n * n) : turnB n (turnB n l) = l := by
  refine List.ext_getElem (by rw [turnB_len, hl]) fun k h1 h2 => ?_
  rw [turnB_len] at h1
  have hn : 0 < n := by
    cases n with
    | zero => simp at h1
    | succ n => omega
  have a1 : k % n < n := Nat.mod_lt _ hn
  have a2 : k / n < n := Nat.div_lt_of_lt_mul h1
  have e1 : (turnB n (turnB n l))[k]'(by rw [turnB_len]; exact h1) = (turnB n l).getD (k % n * n + k / n) 0 := by
    simp only [turnB, List.getElem_map, List.getElem_range]
  rw [e1, turnB_get a1 a2]
  have e2 : k / n * n + k % n = k := by rw [Nat.mul_comm]; exact Nat.div_add_mod k n
  rw [e2, List.getD_eq_getElem?_getD, List.getElem?_eq_getElem h2]
  rfl
theorem Brd.Good.turn_turn {b : Brd} {n : Nat} (h : b.Good n) : b.turn.turn = b := by
  have e : b.size.toNat = n := by rw [h.size]; simp
  have hp : b.premium.data.toList.length = n * n := by simpa using h.prem
  have hc : b.cells.data.toList.length = n * n := by simpa using h.cells
  unfold Brd.turn
  simp only [mkB_data, e]
  rw [turnB_turnB hp, turnB_turnB hc, mkB_of, mkB_of]
theorem Ply.turn_turn (p : Ply) : p.turn.turn = p := by
  obtain ⟨a, b, c, d⟩ := p
  cases c <;> rfl
theorem Ply.turn_r (p : Ply) : p.turn.r = p.r := by
  obtain ⟨a, b, c, d⟩ := p
  cases c <;> rfl
theorem Ply.turn_c (p : Ply) : p.turn.c = p.c := by
  obtain ⟨a, b, c, d⟩ := p
  cases c <;> rfl
theorem Brd.Good.turn_view {b : Brd} {n : Nat} (h : b.Good n) (p : Ply) : b.turn.view p.turn = b.view p := by
  obtain ⟨r, c, d, w⟩ := p
  cases d with
  | false =>
    show (b.turn.flat true).cell = (b.flat false).cell
    unfold Brd.flat
    rw [if_pos rfl, if_neg (by decide), h.turn_turn]
  | true => rfl
theorem Brd.Good.turn_ok {b : Brd} {n : Nat} (h : b.Good n) : b.turn.ok = b.ok := by rw [h.turn.ok, h.ok]
theorem Brd.Good.turn_fits {b : Brd} {n : Nat} (h : b.Good n) (p : Ply) : b.turn.fits p.turn = b.fits p := by
  unfold Brd.fits
  rw [h.turn_view, p.turn_r, p.turn_c]
  rfl
theorem Brd.Good.turn_play {b : Brd} {n : Nat} (h : b.Good n) (p : Ply) : b.turn.okPlay p.turn = b.okPlay p := by
  unfold Brd.okPlay
  rw [h.turn_ok, h.turn_fits]
  rfl
theorem Brd.Good.turn_fresh {b : Brd} {n : Nat} (h : b.Good n) (p : Ply) : b.turn.fresh p.turn = b.fresh p := by
  unfold Brd.fresh
  rw [h.turn_view, p.turn_r, p.turn_c]
  rfl
theorem PGood.turn {b : Brd} {p : Ply} {n : Nat} (h : PGood b p n) : PGood b.turn p.turn n := by
  obtain ⟨m, hm⟩ := okPlay_good (b := b.turn) (p := p.turn) (by rw [h.good.turn_play]; exact h.ok)
  have e : (m : Int) = n := by rw [← hm.good.size, ← h.good.turn.size]
  have : m = n := by omega
  subst this
  exact hm
end Go.Proofs.YtjdcdhhbgijaoaaGreatDoor
namespace Go.Proofs.YtjdcdhhbgijaoaaGreatDoor
open Go.ChangeShapes Go.WideShapes Go.ChangeAt Go.RowKit Go.Sort

/-- the value of the first k bytes -/
def Tls.sumK (x : Tls) (s : ByteArray) : Nat → Int
  | 0 => 0
  | k + 1 => x.sumK s k + x.val (s.data.toList.getD k 0)
def Tls.sum (x : Tls) (s : ByteArray) : Int := x.sumK s s.size
theorem Tls.Good.sum_range {x : Tls} (h : x.Good) (s : ByteArray) : ∀ k : Nat, 0 ≤ x.sumK s k ∧ x.sumK s k ≤ 20 * k
  | 0 => by simp [Tls.sumK]
  | k + 1 => by
    have h1 := h.sum_range s k
    have h2 := h.val_range (s.data.toList.getD k 0)
    unfold Tls.sumK
    omega
theorem Tls.sumK_succ {x : Tls} {s : ByteArray} {k : Nat} (h : k < s.size) : x.sumK s (k + 1) = x.sumK s k + x.val s[k] := by
  show x.sumK s k + x.val (s.data.toList.getD k 0) = _
  have hl : k < s.data.toList.length := by simpa using h
  rw [List.getD_eq_getElem?_getD, List.getElem?_eq_getElem hl]
  rfl
set_option maxRecDepth 100000 in
set_option maxHeartbeats 4000000 in
theorem lettersValue_any (x : Tls) (q : TlA) (s : ByteArray) (w : World) (ha : x.At q w) (hx : x.Good) (hs : s.size ≤ 1048576) :
    Calls Tryz.prog 103 #[.agg #[.string x.letters, .slice q.values.a x.values.length q.values.c, .slice q.counts.a x.counts.length q.counts.c, .int .i64 x.blanks], .string s] w fun e w' => e = .returned (.int .i64 (x.sum s)) ∧ Below w.heap.size w w' := by
  have HV : Hid (∀ (c : UInt8) W, x.At q W → Calls Tryz.prog 185 #[.agg #[.string x.letters, .slice q.values.a x.values.length q.values.c, .slice q.counts.a x.counts.length q.counts.c, .int .i64 x.blanks], .int .u8 (c.toNat : Int)] W fun e w' => e = .returned (.int .i64 (x.val c)) ∧ Below W.heap.size W w') := Lib.hid (fun c W h => valueOf_any x q c W h hx)
  have HR : Hid (∀ k, 0 ≤ x.sumK s k ∧ x.sumK s k ≤ 20 * k) := Lib.hid (hx.sum_range s)
  have HRV : Hid (∀ c, 0 ≤ x.val c ∧ x.val c ≤ 20) := Lib.hid hx.val_range
  have HSU : Hid (∀ k (h : k < s.size), x.sumK s (k + 1) = x.sumK s k + x.val s[k]) := Lib.hid (fun k h => Tls.sumK_succ h)
  have HS : Hid (x.sum s = x.sumK s s.size) := Lib.hid rfl
  have HZ : Hid (x.sumK s 0 = 0) := Lib.hid rfl
  have hb : Below w.heap.size w (w.alloc (.cells #[.string x.letters, .slice q.values.a x.values.length q.values.c, .slice q.counts.a x.counts.length q.counts.c, .int .i64 x.blanks] 44)) := (Below.refl _ _).alloc (Nat.le_refl _) _
  have HT := Lib.hid (TAt.new w x q 44 ha)
  clear ha hx
  go_enter Tryz.func103, Tryz.ntmps103
  go_upto_region 1 with fail
  generalize w.alloc (.cells #[.string x.letters, .slice q.values.a x.values.length q.values.c, .slice q.counts.a x.counts.length q.counts.c, .int .i64 x.blanks] 44) = w1 at *
  go_wp2
  go_loopw [5, 6] (fun sv iv wr => ∃ k : Nat, k ≤ s.size ∧ iv = .int .i64 k ∧ sv = .int .i64 (x.sumK s k) ∧ Hid (TAt wr w.heap.size x q) ∧ Below w.heap.size w wr) (fun _ iv _ => s.size - (intOf iv).toNat)
  case atStart => exact ⟨0, Nat.zero_le _, rfl, by rw [HZ.out], HT, hb⟩
  case round =>
    clear HT hb
    obtain ⟨k, hk, rfl, rfl, HT, hb⟩ := hrel
    by_cases hlt : k < s.size
    · have h1 := HR.out k
      have h2 := HRV.out s[k]
      have HK := Lib.hid (HSU.out k hlt)
      have hk0 : (0 : Int) ≤ (k : Int) := by omega
      have hk3 : (k : Int) < (s.size : Int) := by omega
      obtain ⟨c0, c1, c2, c3⟩ := HT.out.1
      have a0 := cell_regrown c0
      have a1 := cell_regrown c1
      have a2 := cell_regrown c2
      have a3 := cell_regrown c3
      clear c0 c1 c2 c3
      go_upto_region 5 with fail
      have hvv : Hid (x.val s[k] = x.val s[k]) := Lib.hid rfl
      refine wp_region_quiet_below (by kernel_rfl) (by kernel_rfl) ?_
      repeat (go_big_quiet_step ((first | (go_at_call 185; exact Calls.regrown_of (HV.out _ _ (HT.out.2.kept (below_regrown _ _ _)))))))
      refine wpQuiet_nil ?_
      intro wx hw'
      obtain ⟨⟨dq, oq⟩, hw''⟩ := hw'
      have hd := below_regrown wr dq oq
      rw [← hw''] at hd
      clear hw'' a0 a1 a2 a3
      replace hb := hb.trans (hd.mono hb.size)
      replace HT := Lib.hid (HT.out.kept hd)
      clear hd
      generalize x.val s[k] = v at *
      generalize x.sumK s k = t at *
      go_wp2
      go_roundw
      case rel => exact ⟨k + 1, hlt, by go_num, by rw [HK.out], HT, hb⟩
      case measure => simp [intOf]; omega
    · obtain rfl : k = s.size := by omega
      go_wp2
      go_ret
      exact ⟨by rw [HS.out]; rfl, hb⟩
end Go.Proofs.YtjdcdhhbgijaoaaGreatDoor
namespace Go.Proofs.YtjdcdhhbgijaoaaGreatDoor
open Go.ChangeShapes Go.WideShapes Go.ChangeAt Go.RowKit Go.Sort

/-! ### Sums over squares -/
theorem Brd.Good.turn_pview {b : Brd} {n : Nat} (h : b.Good n) (p : Ply) : b.turn.pview p.turn = b.pview p := by
  obtain ⟨r, c, d, w⟩ := p
  cases d with
  | false =>
    show (b.turn.flat true).prm = (b.flat false).prm
    unfold Brd.flat
    rw [if_pos rfl, if_neg (by decide), h.turn_turn]
  | true => rfl
theorem Brd.Good.turn_parts {b : Brd} {n : Nat} (h : b.Good n) (p : Ply) (x : Tls) : b.turn.parts p.turn x = b.parts p x := by
  unfold Brd.parts
  rw [h.turn_view, h.turn_pview, p.turn_r, p.turn_c, h.turn_fresh]
  rfl
theorem Brd.Good.turn_score {b : Brd} {n : Nat} (h : b.Good n) (p : Ply) (x : Tls) : b.turn.score p.turn x = b.score p x := by
  unfold Brd.score
  rw [h.turn_parts, h.turn_fresh]
theorem words_parts (b : Brd) (p : Ply) (x : Tls) : (b.words p).length = (b.parts p x).length := by
  unfold Brd.words Brd.formed Brd.parts partsA acrossL scoring
  rw [List.length_map, List.length_cons, List.length_cons, List.length_map, List.filter_map, List.length_map]
  rfl

/-! ### A board without premiums -/
def Brd.bare (b : Brd) : Brd := ⟨b.size, mkB (List.replicate (b.size * b.size).toNat 46), b.cells⟩
theorem Brd.Good.bare {b : Brd} {n : Nat} (h : b.Good n) : b.bare.Good n := by
  have e : (b.size * b.size).toNat = n * n := by rw [h.size, ← Int.natCast_mul]; rfl
  refine ⟨h.size, h.lo, h.hi, ?_, h.cells, ?_, h.okC⟩
  · unfold Brd.bare
    simp only [mkB_size, List.length_replicate, e]
  · unfold Brd.bare allP
    simp only [mkB_data, List.all_eq_true]
    intro c hc
    rw [(List.mem_replicate.1 hc).2]
    rfl
theorem bare_view (b : Brd) (p : Ply) : b.bare.view p = b.view p := by unfold Brd.view Brd.flat; cases p.down <;> rfl
theorem bare_fresh (b : Brd) (p : Ply) : b.bare.fresh p = b.fresh p := by unfold Brd.fresh; rw [bare_view]
theorem Brd.Good.bare_play {b : Brd} {n : Nat} (h : b.Good n) (p : Ply) : b.bare.okPlay p = b.okPlay p := by
  unfold Brd.okPlay Brd.fits
  rw [h.bare.ok, h.ok, bare_view]
  rfl
theorem Brd.Good.bare_prm {b : Brd} {n : Nat} (h : b.Good n) {R C : Int} (hi : b.inB R C = true) : b.bare.prm R C = 46 := by
  have hi2 := h.inB.1 hi
  obtain ⟨r, rfl⟩ := Int.eq_ofNat_of_zero_le hi2.1.1
  obtain ⟨c, rfl⟩ := Int.eq_ofNat_of_zero_le hi2.2.1
  have hl : r * n + c < b.bare.premium.size := by rw [h.bare.prem]; exact row_ltn (by omega) (by omega)
  rw [h.bare.prm_in rfl hl, ← getD_byt hl]
  unfold Brd.bare
  simp only [mkB_data]
  have hl2 : r * n + c < (List.replicate (b.size * b.size).toNat (46 : UInt8)).length := by
    have e : (b.size * b.size).toNat = n * n := by rw [h.size, ← Int.natCast_mul]; rfl
    rw [List.length_replicate, e]
    exact row_ltn (by omega) (by omega)
  rw [u8_at hl2, List.getElem_replicate]
theorem PGood.bare_pview {b : Brd} {p : Ply} {n : Nat} (h : PGood b p n) {i : Nat} (hi : i < p.word.size) : b.bare.pview p p.r (p.c + i) = 46 := by
  have h1 := h.r0
  have h2 := h.r1
  have h3 := h.c0
  have h4 := h.c1
  have hin : ∀ c : Brd, c.Good n → c.inB p.r (p.c + i) = true := fun c hc => hc.inB.2 ⟨⟨h1, h2⟩, by omega, by omega⟩
  have hin2 : ∀ c : Brd, c.Good n → c.inB (p.c + i) p.r = true := fun c hc => hc.inB.2 ⟨⟨by omega, by omega⟩, h1, h2⟩
  unfold Brd.pview Brd.flat
  cases p.down
  · exact h.good.bare_prm (hin _ h.good)
  · show b.bare.turn.prm p.r (p.c + i) = 46
    rw [h.good.bare.turn_prm (hin _ h.good.bare)]
    exact h.good.bare_prm (hin2 _ h.good)
theorem sumTo_val (x : Tls) (s : ByteArray) : ∀ k : Nat, sumTo (fun i => x.val (s.data.toList.getD i 0)) k = x.sumK s k
  | 0 => rfl
  | k + 1 => by rw [sumTo_succ, sumTo_val x s k]; rfl
theorem fold_one : ∀ (l : List Int) (a : Int), (∀ v ∈ l, v = 1) → l.foldl (fun a c => a * c) a = a
  | [], _, _ => rfl
  | v :: l, a, h => by
    rw [List.foldl_cons, h v List.mem_cons_self, Int.mul_one]
    exact fold_one l a fun u hu => h u (List.mem_cons_of_mem _ hu)
/-- without premiums the main word has the value of its letters -/
theorem PGood.bare_parts {b : Brd} {p : Ply} {n : Nat} (h : PGood b p n) (x : Tls) : (b.bare.parts p x).length = (b.parts p x).length ∧ (b.bare.parts p x).getD 0 0 = x.sum p.word := by
  constructor
  · rw [← words_parts, ← words_parts]
    unfold Brd.words Brd.formed
    rw [bare_view, bare_fresh]
  · unfold Brd.parts
    rw [List.getD_cons_zero]
    unfold mainA
    have e1 : facA (b.bare.pview p) p.r p.c (b.bare.fresh p) = 1 := by
      unfold facA
      refine fold_one _ _ fun v hv => ?_
      obtain ⟨i, hi, rfl⟩ := List.mem_map.1 hv
      rw [bare_fresh] at hi
      rw [h.bare_pview (freshL_lt hi).1]
      rfl
    have e2 : sumTo (letA x (b.bare.view p) (b.bare.pview p) p.r p.c p.word.data.toList) p.word.size = sumTo (fun i => x.val (p.word.data.toList.getD i 0)) p.word.size := by
      refine sumTo_congr fun i hi => ?_
      unfold letA
      rw [h.bare_pview hi]
      split <;> rfl
    rw [e1, e2, Int.mul_one, sumTo_val]
    rfl
/-- the main word's part, by the letters' scores and the factor -/
theorem main_part (b : Brd) (p : Ply) (x : Tls) : (b.parts p x).getD 0 0 = (lettersA x (b.view p) (b.pview p) p.r p.c p.word.data.toList p.word.size).sum * facA (b.pview p) p.r p.c (b.fresh p) := rfl

/-! ### The value of what is on a board -/
end Go.Proofs.YtjdcdhhbgijaoaaGreatDoor
namespace Go.Proofs.YtjdcdhhbgijaoaaGreatDoor
open Go.ChangeShapes Go.WideShapes Go.ChangeAt Go.RowKit Go.Sort

/-- the pile of what is on a board -/
def Brd.pile (b : Brd) : List UInt8 := srtL ((lettersL b.cells.data.toList).map tlC)
def Brd.many (b : Brd) : Nat := (lettersL b.cells.data.toList).length
end Go.Proofs.YtjdcdhhbgijaoaaGreatDoor
