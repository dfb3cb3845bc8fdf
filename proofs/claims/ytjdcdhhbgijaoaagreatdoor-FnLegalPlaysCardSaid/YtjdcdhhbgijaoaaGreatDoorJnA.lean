/- Plain lemmas: plays on the transposed board: all that is said of a play is said of the tur · Plain lemmas: boards on which all letters are joined; a play that touches what is there le · Plain lemmas: what a walk from square to square leaves behind; how many squares it finds.  -/
import Derived.Test.YtjdcdhhbgijaoaaGreatDoorLgF
import Derived.Test.YtjdcdhhbgijaoaaGreatDoorPlbH
import Derived.Test.YtjdcdhhbgijaoaaGreatDoorToA
namespace Go.Proofs.YtjdcdhhbgijaoaaGreatDoor
open Go.ChangeShapes Go.WideShapes Go.ChangeAt Go.RowKit Go.Sort

theorem turnB_turnB {n : Nat} {l : List UInt8} (hl : l.length = n * n) : turnB n (turnB n l) = l := by
  refine List.ext_getElem (by rw [turnB_len, hl]) fun k h1 h2 => ?_
  rw [turnB_len] at h1
  have hn : 0 < n := by
    cases n with
    | zero => simp at h1
    | succ n => omega
  have a1 : k % n < n := Nat.mod_lt _ hn
  have a2 : k / n < n := Nat.div_lt_of_lt_mul h1
  have e1 : (turnB n (turnB n l))[k]'(by rw [turnB_len]; exact h1) = (turnB n l).getD (k % n * n + k / n) 0 := by
    simp only [turnB, List.getElem_map, List.getElem_range]
  rw [e1, turnB_get a1 a2]
  have e2 : k / n * n + k % n = k := by rw [Nat.mul_comm]; exact Nat.div_add_mod k n
  rw [e2, List.getD_eq_getElem?_getD, List.getElem?_eq_getElem h2]
  rfl
theorem Brd.Good.turn_turn {b : Brd} {n : Nat} (h : b.Good n) : b.turn.turn = b := by
  have e : b.size.toNat = n := by rw [h.size]; simp
  have hp : b.premium.data.toList.length = n * n := by simpa using h.prem
  have hc : b.cells.data.toList.length = n * n := by simpa using h.cells
  unfold Brd.turn
  simp only [mkB_data, e]
  rw [turnB_turnB hp, turnB_turnB hc, mkB_of, mkB_of]
theorem Ply.turn_turn (p : Ply) : p.turn.turn = p := by
  obtain ⟨a, b, c, d⟩ := p
  cases c <;> rfl
theorem Ply.turn_r (p : Ply) : p.turn.r = p.r := by
  obtain ⟨a, b, c, d⟩ := p
  cases c <;> rfl
theorem Ply.turn_c (p : Ply) : p.turn.c = p.c := by
  obtain ⟨a, b, c, d⟩ := p
  cases c <;> rfl
theorem Brd.Good.turn_view {b : Brd} {n : Nat} (h : b.Good n) (p : Ply) : b.turn.view p.turn = b.view p := by
  obtain ⟨r, c, d, w⟩ := p
  cases d with
  | false =>
    show (b.turn.flat true).cell = (b.flat false).cell
    unfold Brd.flat
    rw [if_pos rfl, if_neg (by decide), h.turn_turn]
  | true => rfl
theorem Brd.Good.turn_ok {b : Brd} {n : Nat} (h : b.Good n) : b.turn.ok = b.ok := by rw [h.turn.ok, h.ok]
theorem Brd.Good.turn_fits {b : Brd} {n : Nat} (h : b.Good n) (p : Ply) : b.turn.fits p.turn = b.fits p := by
  unfold Brd.fits
  rw [h.turn_view, p.turn_r, p.turn_c]
  rfl
theorem Brd.Good.turn_play {b : Brd} {n : Nat} (h : b.Good n) (p : Ply) : b.turn.okPlay p.turn = b.okPlay p := by
  unfold Brd.okPlay
  rw [h.turn_ok, h.turn_fits]
  rfl
theorem PGood.turn {b : Brd} {p : Ply} {n : Nat} (h : PGood b p n) : PGood b.turn p.turn n := by
  obtain ⟨m, hm⟩ := okPlay_good (b := b.turn) (p := p.turn) (by rw [h.good.turn_play]; exact h.ok)
  have e : (m : Int) = n := by rw [← hm.good.size, ← h.good.turn.size]
  have : m = n := by omega
  subst this
  exact hm
end Go.Proofs.YtjdcdhhbgijaoaaGreatDoor
namespace Go.Proofs.YtjdcdhhbgijaoaaGreatDoor
open Go.ChangeShapes Go.WideShapes Go.ChangeAt Go.RowKit Go.Sort

/-- squares side by side -/
def beside (s t : Int × Int) : Prop := t = (s.1 - 1, s.2) ∨ t = (s.1 + 1, s.2) ∨ t = (s.1, s.2 - 1) ∨ t = (s.1, s.2 + 1)
theorem beside.symm {s t : Int × Int} (h : beside s t) : beside t s := by
  obtain ⟨a, b⟩ := s
  rcases h with rfl | rfl | rfl | rfl
  · exact .inr (.inl (Prod.ext (by simp) rfl))
  · exact .inl (Prod.ext (by simp) rfl)
  · exact .inr (.inr (.inr (Prod.ext rfl (by simp))))
  · exact .inr (.inr (.inl (Prod.ext rfl (by simp))))
set_option inductive.autoPromoteIndices false in
/-- squares with letters that are connected by such squares -/
inductive Conn (F : Fl) : Int × Int → Int × Int → Prop
  | refl (s : Int × Int) : fullC (F s.1 s.2) = true → Conn F s s
  | step (s t u : Int × Int) : Conn F s t → beside t u → fullC (F u.1 u.2) = true → Conn F s u
theorem Conn.front {F : Fl} {s t : Int × Int} (h : Conn F s t) : fullC (F s.1 s.2) = true := by
  induction h with
  | refl s h => exact h
  | step s t u _ _ _ ih => exact ih
theorem Conn.back {F : Fl} {s t : Int × Int} (h : Conn F s t) : fullC (F t.1 t.2) = true := by
  cases h with
  | refl s h => exact h
  | step s t u _ _ h => exact h
theorem Conn.trans {F : Fl} {s t u : Int × Int} (h : Conn F s t) (k : Conn F t u) : Conn F s u := by
  induction k with
  | refl s _ => exact h
  | step a b c _ hb hf ih => exact .step _ _ _ (ih h) hb hf
theorem Conn.symm {F : Fl} {s t : Int × Int} (h : Conn F s t) : Conn F t s := by
  induction h with
  | refl s h => exact .refl s h
  | step s t u hst hb hf ih => exact (Conn.step u u t (.refl u hf) hb.symm hst.back).trans ih
theorem Conn.mono {F G : Fl} (hFG : ∀ r c, fullC (F r c) = true → fullC (G r c) = true) {s t : Int × Int} (h : Conn F s t) : Conn G s t := by
  induction h with
  | refl s h => exact .refl s (hFG _ _ h)
  | step s t u _ hb hf ih => exact .step _ _ _ ih hb (hFG _ _ hf)
/-- all letters are joined -/
def joinedF (F : Fl) : Prop := ∀ s t : Int × Int, fullC (F s.1 s.2) = true → fullC (F t.1 t.2) = true → Conn F s t
theorem conn_turn {F : Fl} {s t : Int × Int} (h : Conn F s t) : Conn (fun r c => F c r) (s.2, s.1) (t.2, t.1) := by
  induction h with
  | refl s h => exact .refl _ h
  | step s t u _ hb hf ih =>
    refine .step _ _ _ ih ?_ hf
    rcases hb with rfl | rfl | rfl | rfl
    · exact .inr (.inr (.inl rfl))
    · exact .inr (.inr (.inr rfl))
    · exact .inl rfl
    · exact .inr (.inl rfl)
theorem joined_turn {F : Fl} (h : joinedF F) : joinedF fun r c => F c r := fun s t hs ht => conn_turn (h (s.2, s.1) (t.2, t.1) hs ht)
theorem joined_view {b : Brd} {n : Nat} (h : b.Good n) (p : Ply) : joinedF (b.view p) ↔ joinedF b.cell := by
  rw [h.view]
  cases p.down with
  | false => exact Iff.rfl
  | true => exact ⟨fun k => joined_turn k, fun k => joined_turn k⟩
theorem let_full {c : UInt8} (h : letB c.toNat = true) : fullC c = true := by
  unfold fullC
  have h1 : c ≠ 0 := fun e => by subst e; exact absurd h (by decide)
  have h2 : c ≠ 46 := fun e => by subst e; exact absurd h (by decide)
  simp [h1, h2]
theorem PGood.word_full {b : Brd} {p : Ply} {n : Nat} (h : PGood b p n) {k : Nat} (hk : k < p.word.size) : fullC ((b.made p).view p p.r (p.c + k)) = true := by
  rw [h.made_in hk, u8_byte hk]
  exact let_full ((List.all_eq_true.1 h.letters) _ (by rw [← bytes_get p.word k hk]; exact List.getElem_mem _))
/-- what stood on the board stands there still -/
theorem PGood.made_more {b : Brd} {p : Ply} {n : Nat} (h : PGood b p n) (R C : Int) (hf : fullC (b.view p R C) = true) : fullC ((b.made p).view p R C) = true := by
  by_cases ho : R ≠ p.r ∨ C < p.c ∨ p.c + p.word.size ≤ C
  · rw [h.made_out ho]; exact hf
  · obtain ⟨k, hk⟩ : ∃ k : Nat, C = p.c + k := ⟨(C - p.c).toNat, by omega⟩
    have hR : R = p.r := by omega
    rw [hR, hk]
    exact h.word_full (by omega)
/-- the letters of the main word are connected -/
theorem PGood.word_conn {b : Brd} {p : Ply} {n : Nat} (h : PGood b p n) : ∀ k : Nat, k < p.word.size → Conn ((b.made p).view p) (p.r, p.c) (p.r, p.c + k)
  | 0, hk => by
    have := h.word_full hk
    rw [show p.c + ((0 : Nat) : Int) = p.c by omega] at this ⊢
    exact .refl _ this
  | k + 1, hk => by
    refine .step _ _ _ (h.word_conn k (by omega)) (.inr (.inr (.inr ?_))) (h.word_full hk)
    show (p.r, p.c + ((k + 1 : Nat) : Int)) = (p.r, p.c + k + 1)
    rw [show p.c + ((k + 1 : Nat) : Int) = p.c + k + 1 by omega]
theorem PGood.at_word {b : Brd} {p : Ply} {n : Nat} (h : PGood b p n) {R C : Int} (hf : fullC ((b.made p).view p R C) = true) : Conn ((b.made p).view p) (p.r, p.c) (R, C) ∨ fullC (b.view p R C) = true := by
  by_cases ho : R ≠ p.r ∨ C < p.c ∨ p.c + p.word.size ≤ C
  · rw [h.made_out ho] at hf; exact .inr hf
  · obtain ⟨k, hk⟩ : ∃ k : Nat, C = p.c + k := ⟨(C - p.c).toNat, by omega⟩
    have hR : R = p.r := by omega
    rw [hR, hk]
    exact .inl (h.word_conn k (by omega))
theorem blank_none {b : Brd} {n : Nat} (h : b.Good n) (hb : b.blank = true) (R C : Int) : fullC (b.cell R C) = false := by
  cases hi : b.inB R C with
  | false => rw [Brd.cell_out hi]; rfl
  | true =>
    obtain ⟨i, j, q, rfl, rfl, hq, _, hl, _, _, _, hc⟩ := h.place hi
    have hm : b.cells[q + j] ∈ b.cells.data.toList := by
      have e : b.cells[q + j] = b.cells.data.toList[q + j]'(by simpa using hl) := rfl
      rw [e]
      exact List.getElem_mem _
    rw [hc hl, blank_all hb _ hm]
    rfl
/-- a play that touches what is there joins it -/
theorem PGood.old_conn {b : Brd} {p : Ply} {n : Nat} (h : PGood b p n) (hb : b.blank = false) (ht : b.touch p = true) : ∃ R C : Int, fullC (b.view p R C) = true ∧ Conn ((b.made p).view p) (p.r, p.c) (R, C) := by
  rw [touch_full hb, Bool.or_eq_true, decide_eq_true_eq, decide_eq_true_eq] at ht
  have hg := h.good.flat p.down
  have h1 := h.r0
  have h2 := h.r1
  have h3 := h.c0
  have h4 := h.c1
  rcases ht with ht | ht
  · -- a letter of the word stood there
    have hex : ∃ k : Nat, k < p.word.size ∧ (b.view p p.r (p.c + k) == 46) = false := by
      refine Decidable.byContradiction fun hno => ?_
      have hall : ∀ k : Nat, k < p.word.size → (b.view p p.r (p.c + k) == 46) = true := fun k hk => by
        cases e : b.view p p.r (p.c + k) == 46 with
        | true => rfl
        | false => exact absurd ⟨k, hk, e⟩ hno
      have : b.fresh p = List.range p.word.size := by
        unfold Brd.fresh freshL
        exact List.filter_eq_self.2 fun k hk => hall k (List.mem_range.1 hk)
      rw [this, List.length_range] at ht
      omega
    obtain ⟨k, hk, hne⟩ := hex
    refine ⟨p.r, p.c + k, ?_, h.word_conn k hk⟩
    have hin : (b.flat p.down).inB p.r (p.c + k) = true := hg.inB.2 ⟨⟨h1, h2⟩, by omega, by omega⟩
    show fullC ((b.flat p.down).cell p.r (p.c + k)) = true
    rw [hg.full_eq hin]
    have hne2 : ((b.flat p.down).cell p.r (p.c + k) == 46) = false := hne
    simp only [bne, hne2, Bool.not_false]
  · -- a word across is formed
    unfold Brd.words Brd.formed at ht
    rw [List.length_map, List.length_cons] at ht
    obtain ⟨w, hw⟩ := List.exists_mem_of_length_pos (show 0 < (acrossL (b.view p) p.r p.c p.word.data.toList (b.fresh p)).length by omega)
    unfold acrossL at hw
    obtain ⟨hw1, hw2⟩ := List.mem_filter.1 hw
    obtain ⟨k, hk, rfl⟩ := List.mem_map.1 hw1
    have hw2 := of_decide_eq_true hw2
    have hkl := (freshL_lt hk).1
    unfold crossW at hw2
    rw [List.length_append, List.length_reverse, List.length_cons] at hw2
    by_cases hu : 0 < (upL (b.view p) (p.c + k) 16 (p.r - 1)).length
    · have := (upL_at (F := b.view p) (c := p.c + k) 16 (p.r - 1) 0 hu).2
      rw [show p.r - 1 - ((0 : Nat) : Int) = p.r - 1 by omega] at this
      exact ⟨p.r - 1, p.c + k, this, .step _ _ _ (h.word_conn k hkl) (.inl rfl) (h.made_more _ _ this)⟩
    · have hd : 0 < (dnL (b.view p) (p.c + k) 16 (p.r + 1)).length := by omega
      have := (dnL_at (F := b.view p) (c := p.c + k) 16 (p.r + 1) 0 hd).2
      rw [show p.r + 1 + ((0 : Nat) : Int) = p.r + 1 by omega] at this
      exact ⟨p.r + 1, p.c + k, this, .step _ _ _ (h.word_conn k hkl) (.inr (.inl rfl)) (h.made_more _ _ this)⟩
/-- the letters are joined after a play that touches, if they were before -/
theorem PGood.joined_made {b : Brd} {p : Ply} {n : Nat} (h : PGood b p n) (ht : b.touch p = true) (hj : joinedF b.cell) : joinedF (b.made p).cell := by
  rw [← joined_view h.made_good p]
  have hj2 : joinedF (b.view p) := (joined_view h.good p).2 hj
  have hm := fun r c => h.made_more r c
  have key : ∀ s : Int × Int, fullC ((b.made p).view p s.1 s.2) = true → Conn ((b.made p).view p) (p.r, p.c) s := fun s hs => by
    rcases h.at_word hs with hc | hc
    · exact hc
    · cases hb : b.blank with
      | true =>
        have := blank_none h.good hb
        rw [h.good.view] at hc
        cases hd : p.down <;> rw [hd] at hc
        · rw [if_neg (by decide), this] at hc; cases hc
        · rw [if_pos rfl, this] at hc; cases hc
      | false =>
        obtain ⟨R, C, hf, hcn⟩ := h.old_conn hb ht
        exact hcn.trans ((hj2 (R, C) s hf hc).mono hm)
  exact fun s t hs htt => (key s hs).symm.trans (key t htt)
end Go.Proofs.YtjdcdhhbgijaoaaGreatDoor
namespace Go.Proofs.YtjdcdhhbgijaoaaGreatDoor
open Go.ChangeShapes Go.WideShapes Go.ChangeAt Go.RowKit Go.Sort

/-- squares S are seen; a walk from v leaves S' -/
structure Vis (F : Fl) (v : Int × Int) (S S' : List (Int × Int)) : Prop where
  sub : ∀ s ∈ S, s ∈ S'
  len : S.length ≤ S'.length
  nodup : S'.Nodup
  full : ∀ s ∈ S', fullC (F s.1 s.2) = true
  front : fullC (F v.1 v.2) = true → v ∈ S'
  closed : ∀ s ∈ S', s ∉ S → ∀ t, beside s t → fullC (F t.1 t.2) = true → t ∈ S'
  conn : ∀ s ∈ S', s ∉ S → Conn F v s
theorem Vis.none {F : Fl} {v : Int × Int} {S : List (Int × Int)} (hn : S.Nodup) (hf : ∀ s ∈ S, fullC (F s.1 s.2) = true) (h : fullC (F v.1 v.2) = false ∨ v ∈ S) : Vis F v S S :=
  ⟨fun _ k => k, Nat.le_refl _, hn, hf, fun k => h.elim (fun e => by rw [e] at k; cases k) id, fun s k1 k2 => absurd k1 k2, fun s k1 k2 => absurd k1 k2⟩
theorem Vis.four {F : Fl} {v : Int × Int} {S S1 S2 S3 S4 : List (Int × Int)} (hv : fullC (F v.1 v.2) = true) (h1 : Vis F (v.1 - 1, v.2) (v :: S) S1) (h2 : Vis F (v.1 + 1, v.2) S1 S2) (h3 : Vis F (v.1, v.2 - 1) S2 S3) (h4 : Vis F (v.1, v.2 + 1) S3 S4) : Vis F v S S4 := by
  have s1 : ∀ s ∈ S1, s ∈ S4 := fun s k => h4.sub s (h3.sub s (h2.sub s k))
  have s2 : ∀ s ∈ S2, s ∈ S4 := fun s k => h4.sub s (h3.sub s k)
  have step : ∀ u s : Int × Int, beside v u → Conn F u s → Conn F v s := fun u s hb hc => Conn.trans (.step v v u (.refl v hv) hb hc.front) hc
  refine ⟨fun s k => s1 s (h1.sub s (List.mem_cons_of_mem _ k)), ?_, h4.nodup, h4.full, fun _ => s1 v (h1.sub v (List.mem_cons_self)), ?_, ?_⟩
  · have a1 := h1.len
    have a2 := h2.len
    have a3 := h3.len
    have a4 := h4.len
    rw [List.length_cons] at a1
    omega
  · intro s k1 k2 t hb ht
    by_cases hs : s = v
    · subst hs
      rcases hb with rfl | rfl | rfl | rfl
      · exact s1 _ (h1.front ht)
      · exact s2 _ (h2.front ht)
      · exact h4.sub _ (h3.front ht)
      · exact h4.front ht
    · have k0 : s ∉ v :: S := fun k => (List.mem_cons.1 k).elim hs k2
      by_cases m1 : s ∈ S1
      · exact s1 _ (h1.closed s m1 k0 t hb ht)
      · by_cases m2 : s ∈ S2
        · exact s2 _ (h2.closed s m2 m1 t hb ht)
        · by_cases m3 : s ∈ S3
          · exact h4.sub _ (h3.closed s m3 m2 t hb ht)
          · exact h4.closed s k1 m3 t hb ht
  · intro s k1 k2
    by_cases hs : s = v
    · subst hs
      exact .refl _ hv
    · have k0 : s ∉ v :: S := fun k => (List.mem_cons.1 k).elim hs k2
      by_cases m1 : s ∈ S1
      · exact step _ _ (.inl rfl) (h1.conn s m1 k0)
      · by_cases m2 : s ∈ S2
        · exact step _ _ (.inr (.inl rfl)) (h2.conn s m2 m1)
        · by_cases m3 : s ∈ S3
          · exact step _ _ (.inr (.inr (.inl rfl))) (h3.conn s m3 m2)
          · exact step _ _ (.inr (.inr (.inr rfl))) (h4.conn s k1 m3)
/-! ### Counting -/
theorem nodup_le {α : Type} [DecidableEq α] : ∀ {S Q : List α}, S.Nodup → (∀ s ∈ S, s ∈ Q) → S.length ≤ Q.length
  | [], Q, _, _ => Nat.zero_le _
  | x :: S, Q, hn, h => by
    obtain ⟨hx, hn⟩ := List.nodup_cons.1 hn
    have hq : x ∈ Q := h x (List.mem_cons_self)
    have := nodup_le (Q := Q.erase x) hn (fun s hs => (List.mem_erase_of_ne (fun e : s = x => hx (by rw [← e]; exact hs))).2 (h s (List.mem_cons_of_mem _ hs)))
    rw [List.length_erase_of_mem hq] at this
    have := List.length_pos_of_mem hq
    rw [List.length_cons]
    omega
theorem nodup_all {α : Type} [DecidableEq α] {S Q : List α} (hn : S.Nodup) (h : ∀ s ∈ S, s ∈ Q) (hl : Q.length ≤ S.length) : ∀ q ∈ Q, q ∈ S := by
  intro q hq
  by_cases hs : q ∈ S
  · exact hs
  · have := nodup_le (S := q :: S) (Q := Q) (List.nodup_cons.2 ⟨hs, hn⟩) (fun s k => (List.mem_cons.1 k).elim (fun e => e ▸ hq) (h s))
    rw [List.length_cons] at this
    omega
/-- the squares with letters -/
def Brd.fulls (b : Brd) (n : Nat) : List (Int × Int) := ((List.range (n * n)).filter fun k => b.cells.data.toList.getD k 0 != 46).map fun k => (((k / n : Nat) : Int), ((k % n : Nat) : Int))
theorem filter_get (l : List UInt8) (p : UInt8 → Bool) : ((List.range l.length).filter fun k => p (l.getD k 0)).length = (l.filter p).length := by
  have e : l = (List.range l.length).map fun k => l.getD k 0 := by
    refine List.ext_getElem (by simp) fun i h1 h2 => ?_
    rw [List.getElem_map, List.getElem_range, List.getD_eq_getElem?_getD, List.getElem?_eq_getElem h1]
    rfl
  conv => rhs; rw [e]
  rw [List.filter_map, List.length_map]
  rfl
theorem Brd.Good.fulls_len {b : Brd} {n : Nat} (h : b.Good n) : (b.fulls n).length = (lettersL b.cells.data.toList).length := by
  have hz : b.cells.data.toList.length = n * n := by
    have := h.cells
    have e : b.cells.data.toList.length = b.cells.size := Array.length_toList
    omega
  unfold Brd.fulls lettersL
  rw [List.length_map, ← hz]
  exact filter_get _ (fun x => x != 46)
theorem Brd.Good.fulls_mem {b : Brd} {n : Nat} (h : b.Good n) {s : Int × Int} : s ∈ b.fulls n ↔ fullC (b.cell s.1 s.2) = true := by
  have h5 := h.lo
  have hcs : b.cells.size = n * n := h.cells
  have hat : ∀ r c : Nat, r < n → c < n → b.cell r c = b.cells.data.toList.getD (r * n + c) 0 := fun r c hr hc => by
    have hl : r * n + c < b.cells.size := by
      rw [hcs]
      have : r * n + n ≤ n * n := by rw [← Nat.succ_mul]; exact Nat.mul_le_mul_right _ hr
      omega
    rw [h.cell_in hr hc rfl hl, List.getD_eq_getElem?_getD, List.getElem?_eq_getElem (by simpa using hl)]
    rfl
  have hin : ∀ r c : Nat, r < n → c < n → b.inB r c = true := fun r c hr hc => by
    unfold Brd.inB
    have := h.size
    rw [Bool.and_eq_true, within_iff, within_iff]
    omega
  unfold Brd.fulls
  rw [List.mem_map]
  constructor
  · rintro ⟨k, hk, rfl⟩
    rw [List.mem_filter, List.mem_range] at hk
    have hr : k / n < n := Nat.div_lt_of_lt_mul hk.1
    have hc : k % n < n := Nat.mod_lt _ (by omega)
    show fullC (b.cell ((k / n : Nat) : Int) ((k % n : Nat) : Int)) = true
    rw [h.full_eq (hin _ _ hr hc), hat _ _ hr hc, Nat.mul_comm, Nat.div_add_mod]
    exact hk.2
  · intro hf
    obtain ⟨r, c⟩ := s
    have hi := h.full_in hf
    unfold Brd.inB at hi
    have hs := h.size
    rw [Bool.and_eq_true, within_iff, within_iff] at hi
    simp only at hi
    obtain ⟨r', rfl⟩ : ∃ r' : Nat, r = r' := ⟨r.toNat, by omega⟩
    obtain ⟨c', rfl⟩ : ∃ c' : Nat, c = c' := ⟨c.toNat, by omega⟩
    have hr : r' < n := by omega
    have hc : c' < n := by omega
    have e1 : (r' * n + c') / n = r' := by rw [Nat.mul_comm, Nat.mul_add_div (by omega), Nat.div_eq_of_lt hc, Nat.add_zero]
    have e2 : (r' * n + c') % n = c' := by rw [Nat.mul_comm, Nat.mul_add_mod, Nat.mod_eq_of_lt hc]
    refine ⟨r' * n + c', ?_, by rw [e1, e2]⟩
    rw [List.mem_filter, List.mem_range]
    refine ⟨?_, ?_⟩
    · have : r' * n + n ≤ n * n := by rw [← Nat.succ_mul]; exact Nat.mul_le_mul_right _ hr
      omega
    · have := h.full_eq (hin r' c' hr hc)
      rw [hat _ _ hr hc] at this
      rw [← this, ← hat _ _ hr hc]
      exact hf
theorem Brd.Good.fulls_nodup {b : Brd} {n : Nat} (h : b.Good n) : (b.fulls n).Nodup := by
  have h5 := h.lo
  unfold Brd.fulls
  refine List.Pairwise.map _ (R := fun a c : Nat => a ≠ c) (fun a c hne e => hne ?_) (List.Pairwise.filter _ List.nodup_range)
  have e1 := congrArg Prod.fst e
  have e2 := congrArg Prod.snd e
  simp only at e1 e2
  have f1 : a / n = c / n := by omega
  have f2 : a % n = c % n := by omega
  rw [← Nat.div_add_mod a n, ← Nat.div_add_mod c n, f1, f2]
/-- all letters are found from one of them just if they are joined -/
theorem Brd.Good.joined_count {b : Brd} {n : Nat} (h : b.Good n) {v : Int × Int} (hv : fullC (b.cell v.1 v.2) = true) {S : List (Int × Int)} (hV : Vis b.cell v [] S) : S.length = (lettersL b.cells.data.toList).length ↔ joinedF b.cell := by
  rw [← h.fulls_len]
  have hsub : ∀ s ∈ S, s ∈ b.fulls n := fun s hs => h.fulls_mem.2 (hV.full s hs)
  constructor
  · intro hl s t hs ht
    have h1 := nodup_all hV.nodup hsub (by omega)
    have c1 := hV.conn s (h1 s (h.fulls_mem.2 hs)) (by simp)
    have c2 := hV.conn t (h1 t (h.fulls_mem.2 ht)) (by simp)
    exact c1.symm.trans c2
  · intro hj
    refine Nat.le_antisymm (nodup_le hV.nodup hsub) (nodup_le h.fulls_nodup fun q hq => ?_)
    have hc := hj v q hv (h.fulls_mem.1 hq)
    clear hq
    induction hc with
    | refl s _ => exact hV.front hv
    | step s t u _ hb hu ih => exact hV.closed t (ih hv hV) (by simp) u hb hu

/-! ### The table of what is seen: 15 rows of 15 -/
def sqI (s : Int × Int) : Nat := (s.1 * 15 + s.2).toNat
def seenC (S : List (Int × Int)) : List Value := (List.range 225).map fun i => .bool (S.any fun s => sqI s == i)
def sqOk (s : Int × Int) : Prop := (0 ≤ s.1 ∧ s.1 < 15) ∧ 0 ≤ s.2 ∧ s.2 < 15
theorem sqI_lt {s : Int × Int} (h : sqOk s) : sqI s < 225 := by unfold sqI; obtain ⟨⟨a, b⟩, c, d⟩ := h; omega
theorem sqI_inj {s t : Int × Int} (h : sqOk s) (k : sqOk t) (e : sqI s = sqI t) : s = t := by
  obtain ⟨a, b⟩ := s
  obtain ⟨c, d⟩ := t
  obtain ⟨⟨h1, h2⟩, h3, h4⟩ := h
  obtain ⟨⟨k1, k2⟩, k3, k4⟩ := k
  unfold sqI at e
  simp only at *
  have e1 : a = c := by omega
  have e2 : b = d := by omega
  rw [e1, e2]
theorem seen_any {S : List (Int × Int)} (hS : ∀ s ∈ S, sqOk s) {v : Int × Int} (hv : sqOk v) : (S.any fun s => sqI s == sqI v) = decide (v ∈ S) := by
  rw [Bool.eq_iff_iff, List.any_eq_true, decide_eq_true_eq]
  constructor
  · rintro ⟨s, hs, e⟩
    rw [beq_iff_eq] at e
    exact sqI_inj (hS s hs) hv e ▸ hs
  · exact fun k => ⟨v, k, by rw [beq_iff_eq]⟩
theorem seenC_get {S : List (Int × Int)} (hS : ∀ s ∈ S, sqOk s) {v : Int × Int} (hv : sqOk v) : (seenC S)[sqI v]? = some (.bool (decide (v ∈ S))) := by
  unfold seenC
  rw [List.getElem?_map, List.getElem?_range (sqI_lt hv)]
  simp only [Option.map_some, seen_any hS hv]
theorem seenC_set (S : List (Int × Int)) (v : Int × Int) : (seenC S).set (sqI v) (.bool true) = seenC (v :: S) := by
  unfold seenC
  refine List.ext_getElem (by simp) fun i h1 h2 => ?_
  rw [List.getElem_set]
  simp only [List.getElem_map, List.getElem_range, List.any_cons]
  by_cases e : sqI v = i
  · rw [if_pos e]
    simp [e]
  · rw [if_neg e]
    simp [e]
theorem full_sq {b : Brd} {n : Nat} (h : b.Good n) {v : Int × Int} (hv : fullC (b.cell v.1 v.2) = true) : sqOk v := by
  have hi := h.full_in hv
  have hs := h.size
  have h15 := h.hi
  unfold Brd.inB at hi
  rw [Bool.and_eq_true, within_iff, within_iff] at hi
  unfold sqOk
  omega
end Go.Proofs.YtjdcdhhbgijaoaaGreatDoor
