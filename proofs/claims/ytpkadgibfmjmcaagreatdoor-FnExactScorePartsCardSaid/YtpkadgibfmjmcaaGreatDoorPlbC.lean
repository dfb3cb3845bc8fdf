/- Contracts: the program's new squares of a play. For valid plays on valid boards. -/
import Derived.Test.YtpkadgibfmjmcaaGreatDoorPlbB
import Derived.Test.YtpkadgibfmjmcaaGreatDoorItr
namespace Go.Proofs.YtpkadgibfmjmcaaGreatDoor
open Go.ChangeShapes Go.WideShapes Go.ChangeAt Go.RowKit Go.Sort

def Sq.enc (s : Int × Int) : List Value := [.int .i64 s.1, .int .i64 s.2]
theorem Sq.enc_len (s : Int × Int) : (Sq.enc s).length = 2 := rfl
theorem sq_one (s : Int × Int) : ∀ u ∈ Sq.enc s, u.oneCell' = true := by
  intro u hu
  simp only [Sq.enc, List.mem_cons, List.not_mem_nil, or_false] at hu
  rcases hu with rfl | rfl <;> rfl
theorem new_sq (w : World) (s : Int × Int) (t : TypeId) : ∀ j u, (Sq.enc s)[j]? = some u → (w.alloc (.cells #[.int .i64 s.1, .int .i64 s.2] t)).cell? ((⟨w.heap.size, 0, none⟩ : Addr).add j) = some u := by
  intro j u hu
  rw [Go.Addr.add_lit, Nat.zero_add]
  match j, hu with
  | 0, hu => simp only [Sq.enc, List.getElem?_cons_zero, Option.some.injEq] at hu; subst hu; exact cell_new0 w _ t rfl
  | 1, hu => simp only [Sq.enc, List.getElem?_cons_succ, List.getElem?_cons_zero, Option.some.injEq] at hu; subst hu; exact cell_new0 w _ t rfl
  | j + 2, hu => simp [Sq.enc] at hu
theorem infoSq : (Tryz.prog.info? 150).map (fun i => (i.zero, i.size, i.bytes)) = some (some (.agg #[.int .i64 0, .int .i64 0]), 2, 16) := by kernel_rfl
theorem infoInt : (Tryz.prog.info? 3).map (fun i => (i.zero, i.size, i.bytes)) = some (some (.int .i64 0), 1, 8) := by kernel_rfl
def sqOf (p : Ply) (i : Nat) : Int × Int := (p.sr i, p.sc i)
/-- on a valid play's squares: a letter, or free -/
theorem PGood.full {b : Brd} {p : Ply} {n : Nat} (h : PGood b p n) {k : Nat} (hk : k < p.word.size) : fullC (b.view p p.r (p.c + k)) = (b.view p p.r (p.c + k) != 46) := by
  refine (h.good.flat p.down).full_eq ?_
  rw [(h.good.flat p.down).inB]
  have h1 := h.r0
  have h2 := h.r1
  have h3 := h.c0
  have h4 := h.c1
  omega
theorem PGood.rows {b : Brd} {p : Ply} {n : Nat} (h : PGood b p n) : (-100 ≤ p.row ∧ p.row ≤ 100) ∧ (-100 ≤ p.col ∧ p.col ≤ 100) := by
  have h0 := h.good.hi
  have h1 := h.r0
  have h2 := h.r1
  have h3 := h.c0
  have h4 := h.c1
  unfold Ply.r at h1 h2
  unfold Ply.c at h3 h4
  cases hd : p.down <;> rw [hd] at h1 h2 h3 h4 <;> simp only [if_true, if_false, Bool.false_eq_true] at h1 h2 h3 h4 <;> omega
theorem PGood.ascii {b : Brd} {p : Ply} {n : Nat} (h : PGood b p n) : ∀ k (hk : k < p.word.size), (p.word[k]).toNat < 128 := fun k hk => by
  have := List.all_eq_true.1 h.letters p.word[k] (by rw [← bytes_get p.word k hk]; exact List.getElem_mem _)
  exact let_ascii this
/-- the squares that a play fills, and their places in the word -/
def NewPost (p : Ply) (fr : List Nat) (w : World) (e : Ending) (w' : World) : Prop :=
  ∃ g1 c1 g2 c2, e = .returned (.tuple #[.slice (some ⟨g1, 0, none⟩) fr.length c1, .slice (some ⟨g2, 0, none⟩) fr.length c2]) ∧ g1 ≠ g2 ∧
    w'.ownsRow w.heap.size 150 2 (.slice (some ⟨g1, 0, none⟩) fr.length c1) fr.length ((fr.map (sqOf p)).flatMap Sq.enc) ∧
    w'.ownsRow w.heap.size 3 1 (.slice (some ⟨g2, 0, none⟩) fr.length c2) fr.length (fr.flatMap N64.enc) ∧ Below w.heap.size w w'
set_option maxRecDepth 100000 in
set_option maxHeartbeats 4000000 in
theorem newSquares_any (b : Brd) (p : Ply) (n : Nat) (w : World) (hp : PGood b p n) :
    Calls Tryz.prog 134 #[.agg #[.int .i64 b.size, .string b.premium, .string b.cells], .agg #[.int .i64 p.row, .int .i64 p.col, .bool p.down, .string p.word]] w (NewPost p (b.fresh p) w) := by
  obtain ⟨i0, hi0, hi1, hi2, hi3⟩ := info_parts infoSq
  obtain ⟨j0, hj0, hj1, hj2, hj3⟩ := info_parts infoInt
  have hn15 := hp.good.hi
  have hs12 := hp.twelve
  obtain ⟨w2, hw2⟩ : ∃ w2, w2 = (((w.alloc (.cells #[.int .i64 b.size, .string b.premium, .string b.cells] 36)).alloc (.cells #[.int .i64 p.row, .int .i64 p.col, .bool p.down, .string p.word] 38)).alloc (.cells #[] 150)).alloc (.cells #[] 3) := ⟨_, rfl⟩
  have hw2s : w.heap.size + 4 ≤ w2.heap.size := by rw [hw2]; simp
  have hb : Below w.heap.size w w2 := by rw [hw2]; exact ((((Below.refl _ _).alloc (Nat.le_refl _) _).alloc (by simp) _).alloc (by simp; omega) _).alloc (by simp; omega) _
  have VB : Hid (VarAt w2 w.heap.size 36 [.int .i64 b.size, .string b.premium, .string b.cells]) := by
    rw [hw2]
    exact Lib.hid ((((VarAt.new w 36 [.int .i64 b.size, .string b.premium, .string b.cells]).kept ((Below.refl _ _).alloc (Nat.le_refl _) _)).kept ((Below.refl _ _).alloc (Nat.le_refl _) _)).kept ((Below.refl _ _).alloc (Nat.le_refl _) _))
  have VP : Hid (VarAt w2 (w.heap.size + 1) 38 [.int .i64 p.row, .int .i64 p.col, .bool p.down, .string p.word]) := by
    rw [hw2]
    have := ((VarAt.new (w.alloc (.cells #[.int .i64 b.size, .string b.premium, .string b.cells] 36)) 38 [.int .i64 p.row, .int .i64 p.col, .bool p.down, .string p.word]).kept ((Below.refl _ _).alloc (Nat.le_refl _) (.cells #[] 150))).kept ((Below.refl _ _).alloc (Nat.le_refl _) (.cells #[] 3))
    simp only [World.size_alloc] at this
    exact Lib.hid this
  have HO : Hid (w2.ownsRow (w.heap.size + 2) 150 2 (.slice (some ⟨w.heap.size + 1 + 1, 0, none⟩) 0 0) 0 []) := by
    rw [hw2]
    have := World.ownsRow_made (base := w.heap.size + 2) (e := 150) (size := 2) ((w.alloc (.cells #[.int .i64 b.size, .string b.premium, .string b.cells] 36)).alloc (.cells #[.int .i64 p.row, .int .i64 p.col, .bool p.down, .string p.word] 38)) #[] 0 (by simp) (by unfold maxLen; omega) rfl
    simp only [World.size_alloc] at this
    exact Lib.hid (own_below this ((Below.refl _ _).alloc (Nat.le_refl _) _))
  have HX : Hid (w2.ownsRow (w.heap.size + 2) 3 1 (.slice (some ⟨w.heap.size + 1 + 1 + 1, 0, none⟩) 0 0) 0 []) := by
    rw [hw2]
    have := World.ownsRow_made (base := w.heap.size + 2) (e := 3) (size := 1) (((w.alloc (.cells #[.int .i64 b.size, .string b.premium, .string b.cells] 36)).alloc (.cells #[.int .i64 p.row, .int .i64 p.col, .bool p.down, .string p.word] 38)).alloc (.cells #[] 150)) #[] 0 (by simp) (by unfold maxLen; omega) rfl
    simp only [World.size_alloc] at this
    exact Lib.hid this
  have HSQ : Hid (∀ (k : Int) W, -100 ≤ k ∧ k ≤ 100 → Calls Tryz.prog 164 #[.agg #[.int .i64 p.row, .int .i64 p.col, .bool p.down, .string p.word], .int .i64 k] W fun e w' => e = .returned (.agg #[.int .i64 (p.sr k), .int .i64 (p.sc k)]) ∧ Below W.heap.size W w') := Lib.hid (fun k W hk => square_any p k W hk hp.rows.1 hp.rows.2)
  have HON : Hid (∀ (k : Nat) W, k < p.word.size → Calls Tryz.prog 165 #[.agg #[.int .i64 b.size, .string b.premium, .string b.cells], .agg #[.int .i64 (p.sr k), .int .i64 (p.sc k)]] W fun e w' => e = .returned (.bool (b.view p p.r (p.c + k) != 46)) ∧ Below W.heap.size W w') := Lib.hid (fun k W hk => by
    rw [← hp.full hk, ← hp.good.sq]
    exact on_any b n _ _ W hp.good)
  have HAS := Lib.hid hp.ascii
  have HFS := Lib.hid (freshL_succ (b.view p) p.r p.c)
  have HFL := Lib.hid (freshL_len (b.view p) p.r p.c)
  have HFE : Hid (b.fresh p = freshL (b.view p) p.r p.c p.word.size) := Lib.hid rfl
  rw [HFE.out]
  have HW2 := Lib.hid hw2
  clear hw2 hp HFE
  generalize b.view p = F at *
  go_enter Tryz.func134, Tryz.ntmps134
  go_upto_region 2 with fail
  rw [← HW2.out]
  clear HW2
  have c3 := VP.out.cell (i := 3) rfl
  have hit := iter_below w2 p.word
  have HI := Lib.hid (IterAt.new w2 p.word)
  have hitl := HI.out.lt
  go_wp2_with fail
  clear c3
  replace HO := Lib.hid (own_below HO.out hit)
  replace HX := Lib.hid (own_below HX.out hit)
  replace VB := Lib.hid (VB.out.kept hit)
  replace VP := Lib.hid (VP.out.kept hit)
  replace hb := hb.trans (hit.mono hb.size)
  clear hit
  generalize w2.iter p.word 0 = w5 at *
  obtain ⟨it, hit⟩ : ∃ it, it = w2.heap.size := ⟨_, rfl⟩
  rw [← hit] at HI hitl ⊢
  have hitg : w.heap.size + 4 ≤ it := by omega
  clear hit hw2s
  go_loopw [6, 7] (fun ov xv wr => ∃ (k m g1 c1 g2 c2 : Nat), k ≤ p.word.size ∧ (freshL F p.r p.c k).length = m ∧ ov = .slice (some ⟨g1, 0, none⟩) m c1 ∧ xv = .slice (some ⟨g2, 0, none⟩) m c2 ∧ g1 ≠ g2 ∧ g1 ≠ it ∧ g2 ≠ it ∧ it < wr.heap.size ∧ Hid (wr.ownsRow (w.heap.size + 2) 150 2 (.slice (some ⟨g1, 0, none⟩) m c1) m (((freshL F p.r p.c k).map (sqOf p)).flatMap Sq.enc)) ∧ Hid (wr.ownsRow (w.heap.size + 2) 3 1 (.slice (some ⟨g2, 0, none⟩) m c2) m ((freshL F p.r p.c k).flatMap N64.enc)) ∧ Hid (IterAt wr it p.word k) ∧ Hid (VarAt wr w.heap.size 36 [.int .i64 b.size, .string b.premium, .string b.cells]) ∧ Hid (VarAt wr (w.heap.size + 1) 38 [.int .i64 p.row, .int .i64 p.col, .bool p.down, .string p.word]) ∧ Below w.heap.size w wr) (fun _ _ wr => p.word.size - wr.iterPos it)
  case atStart => exact ⟨0, 0, _, 0, _, 0, Nat.zero_le _, rfl, rfl, rfl, by omega, by omega, by omega, hitl, HO, HX, HI, VB, VP, hb⟩
  case round =>
    clear HO HX HI VB VP hb hitl
    obtain ⟨k, m, g1, c1, g2, c2, hk, hml, rfl, rfl, hn12, hn1, hn2, hitl, HO, HX, HI, VB, VP, hb⟩ := hrel
    have hz2 := VP.out.lt
    by_cases hlt : k < p.word.size
    · obtain ⟨w1, hnx, hi2, hg2⟩ := next_at (P := Tryz.prog) HI.out hlt (HAS.out k hlt)
      have HPO := Lib.hid HI.out.pos
      have HML := Lib.hid hml
      have hm12 : m ≤ 12 := by
        have := HFL.out k
        omega
      replace HI := Lib.hid hi2
      replace VB := Lib.hid (VB.out.grown hg2 (by simp; omega))
      replace VP := Lib.hid (VP.out.grown hg2 (by simp; omega))
      replace HO := Lib.hid (HO.out.kept hg2 (.inr (by simp [Value.ownBlock]; omega)))
      replace HX := Lib.hid (HX.out.kept hg2 (.inr (by simp [Value.ownBlock]; omega)))
      have hitn := Nat.lt_of_lt_of_le hitl hg2.size
      clear hitl
      have hitl := hitn
      have hz3 := hg2.size
      replace hb := hb.grown hg2 hb.size (fun q h => by cases h; omega)
      clear hi2 hg2 hitn hml
      have b0 := VP.out.cell (i := 0) rfl
      have b1 := VP.out.cell (i := 1) rfl
      have b2 := VP.out.cell (i := 2) rfl
      have b3 := VP.out.cell (i := 3) rfl
      go_wp2_with fail
      clear hnx b0 b1 b2 b3
      refine (HSQ.out k _ (by omega)).mono ?_
      rintro e w6 ⟨rfl, hd⟩
      replace HO := Lib.hid (own_below HO.out hd)
      replace HX := Lib.hid (own_below HX.out hd)
      replace VB := Lib.hid (VB.out.kept hd)
      replace VP := Lib.hid (VP.out.kept hd)
      replace HI := Lib.hid (HI.out.kept hd)
      have hitn := Nat.lt_of_lt_of_le hitl hd.size
      clear hitl
      have hitl := hitn
      clear hitn
      replace hb := hb.trans (hd.mono hb.size)
      clear hd
      have VS := Lib.hid (VarAt.new w6 150 [.int .i64 (p.sr k), .int .i64 (p.sc k)])
      have hd : Below w6.heap.size w6 (w6.alloc (.cells #[.int .i64 (p.sr k), .int .i64 (p.sc k)] 150)) := (Below.refl _ _).alloc (Nat.le_refl _) _
      replace HO := Lib.hid (own_below HO.out hd)
      replace HX := Lib.hid (own_below HX.out hd)
      replace VB := Lib.hid (VB.out.kept hd)
      replace VP := Lib.hid (VP.out.kept hd)
      replace HI := Lib.hid (HI.out.kept hd)
      have hitn := Nat.lt_of_lt_of_le hitl hd.size
      clear hitl
      have hitl := hitn
      clear hitn
      replace hb := hb.trans (hd.mono hb.size)
      clear hd
      have b0 := VB.out.cell (i := 0) rfl
      have b1 := VB.out.cell (i := 1) rfl
      have b2 := VB.out.cell (i := 2) rfl
      have s0 := VS.out.cell (i := 0) rfl
      have s1 := VS.out.cell (i := 1) rfl
      go_wp2_with fail
      clear b0 b1 b2 s0 s1
      refine (HON.out k _ hlt).mono ?_
      rintro e w7 ⟨rfl, hd⟩
      replace VS := Lib.hid (VS.out.kept hd)
      replace HO := Lib.hid (own_below HO.out hd)
      replace HX := Lib.hid (own_below HX.out hd)
      replace VB := Lib.hid (VB.out.kept hd)
      replace VP := Lib.hid (VP.out.kept hd)
      replace HI := Lib.hid (HI.out.kept hd)
      have hitn := Nat.lt_of_lt_of_le hitl hd.size
      clear hitl
      have hitl := hitn
      clear hitn
      replace hb := hb.trans (hd.mono hb.size)
      clear hd
      cases e1 : (F p.r (p.c + k) != 46) with
      | false =>
        have HFE : Hid (freshL F p.r p.c (k + 1) = freshL F p.r p.c k ++ [k]) := Lib.hid (by
          rw [HFS.out, show (F p.r (p.c + k) == 46) = true from by simpa using e1]; rfl)
        have HMS : Hid ((freshL F p.r p.c (k + 1)).map (sqOf p) = (freshL F p.r p.c k).map (sqOf p) ++ [(p.sr k, p.sc k)]) := Lib.hid (by rw [HFE.out, List.map_append]; rfl)
        clear e1
        have s0 := VS.out.cell (i := 0) rfl
        have s1 := VS.out.cell (i := 1) rfl
        have hd : Below w7.heap.size w7 (w7.alloc (.cells #[.int .i64 (p.sr k), .int .i64 (p.sc k)] 150)) := (Below.refl _ _).alloc (Nat.le_refl _) _
        have KN := Lib.hid (new_sq w7 (p.sr k, p.sc k) 150)
        have hz4 := VP.out.lt
        have hitl7 := hitl
        replace HO := Lib.hid (own_below HO.out hd)
        replace HX := Lib.hid (own_below HX.out hd)
        replace VB := Lib.hid (VB.out.kept hd)
        replace VP := Lib.hid (VP.out.kept hd)
        replace HI := Lib.hid (HI.out.kept hd)
        have hitn := Nat.lt_of_lt_of_le hitl hd.size
        clear hitl
        have hitl := hitn
        clear hitn
        replace hb := hb.trans (hd.mono hb.size)
        clear hd
        go_wp2_with (at_builtin; go_must (refine wpList_append_lies _ rfl (.tmp 25) (.tmp 27) 144 rfl (w.heap.size + 2) 150 i0 _ 2 16 Tryz.underlying144 hi0 hi1 hi2 hi3 rfl (by decide) _ m (((freshL F p.r p.c k).map (sqOf p)).flatMap Sq.enc) (by rfl) HO.out ⟨w7.heap.size, 0, none⟩ 1 1 (Sq.enc (p.sr k, p.sc k)) (by rfl) rfl KN.out (sq_one (p.sr k, p.sc k)) (by decide) ?c1 ?c2 ?c3 _ rfl ?_))
        case c1 => unfold maxLen; omega
        case c2 => omega
        case c3 => (first | omega | (simp only [World.size_alloc]; omega))
        intro g7 cap7 w8 hown hgr hwh hlt7
        have hw7s : w7.heap.size ≤ w8.heap.size := Nat.le_trans (by simp) hgr.size
        have hx2 := (HX.out.lt g2 rfl).2
        have hne72 : g7 ≠ g2 ∧ g7 ≠ it := by
          rcases hwh with h | h
          · simp [Value.ownBlock] at h; omega
          · (first | omega | (simp only [World.size_alloc] at hx2 hitl; omega))
        have HO7 : Hid (w8.ownsRow (w.heap.size + 2) 150 2 (.slice (some ⟨g7, 0, none⟩) (m + 1) cap7) (m + 1) (((freshL F p.r p.c (k + 1)).map (sqOf p)).flatMap Sq.enc)) := Lib.hid (by
          rw [HMS.out, snoc_flat Sq.enc]; exact hown)
        have hb8 := hb.grown hgr hb.size (fun q e => by have := (HO.out.lt q e).1; omega)
        have hit8 : it < w8.heap.size := Nat.lt_of_lt_of_le hitl hgr.size
        have hz8 : w.heap.size + 2 ≤ w8.heap.size := Nat.le_trans (by (first | omega | (simp only [World.size_alloc]; omega))) hgr.size
        replace HX := Lib.hid (HX.out.kept hgr (.inr (by simp [Value.ownBlock]; omega)))
        replace VB := Lib.hid (VB.out.grown hgr (own_ne HO.out (by omega)))
        replace VP := Lib.hid (VP.out.grown hgr (own_ne HO.out (by omega)))
        replace HI := Lib.hid (HI.out.grown hgr (by simp [Value.ownBlock]; omega))
        clear hown hgr hwh KN HO hb HMS hitl hitl7 hx2 s0 s1 VS
        have hb := hb8
        have hitl := hit8
        clear hb8 hit8
        have HO := HO7
        clear HO7
        have hd : Below w8.heap.size w8 (w8.alloc (.cells #[.int .i64 (k : Int)] 3)) := (Below.refl _ _).alloc (Nat.le_refl _) _
        have KN := Lib.hid (new_n64 w8 k 3)
        replace HO := Lib.hid (own_below HO.out hd)
        replace HX := Lib.hid (own_below HX.out hd)
        replace VB := Lib.hid (VB.out.kept hd)
        replace VP := Lib.hid (VP.out.kept hd)
        replace HI := Lib.hid (HI.out.kept hd)
        have hitn := Nat.lt_of_lt_of_le hitl hd.size
        clear hitl
        have hitl := hitn
        clear hitn
        replace hb := hb.trans (hd.mono hb.size)
        clear hd
        have hg7l := (HO.out.lt g7 rfl).2
        go_wp2_with (at_builtin; go_must (refine wpList_append_lies _ rfl (.tmp 29) (.tmp 31) 161 rfl (w.heap.size + 2) 3 j0 _ 1 8 Tryz.underlying161 hj0 hj1 hj2 hj3 rfl (by decide) _ m ((freshL F p.r p.c k).flatMap N64.enc) (by rfl) HX.out ⟨w8.heap.size, 0, none⟩ 1 1 (N64.enc k) (by rfl) rfl KN.out (n64_one k) (by decide) ?c4 ?c5 ?c6 _ rfl ?_))
        case c4 => unfold maxLen; omega
        case c5 => omega
        case c6 => (first | omega | (simp only [World.size_alloc]; omega))
        intro g9 cap9 w9 hown hgr hwh hlt9
        have hne79 : g7 ≠ g9 ∧ g9 ≠ it := by
          rcases hwh with h | h
          · simp [Value.ownBlock] at h; omega
          · (first | omega | (simp only [World.size_alloc] at hg7l hitl; omega))
        have HX9 : Hid (w9.ownsRow (w.heap.size + 2) 3 1 (.slice (some ⟨g9, 0, none⟩) (m + 1) cap9) (m + 1) ((freshL F p.r p.c (k + 1)).flatMap N64.enc)) := Lib.hid (by
          rw [HFE.out, snoc_flat N64.enc]; exact hown)
        have hb9 := hb.grown hgr hb.size (fun q e => by have := (HX.out.lt q e).1; omega)
        have hit9 : it < w9.heap.size := Nat.lt_of_lt_of_le hitl hgr.size
        have HO9 := Lib.hid (HO.out.kept hgr (.inr (by simp [Value.ownBlock]; omega)))
        have VB9 := Lib.hid (VB.out.grown hgr (own_ne HX.out (by omega)))
        have VP9 := Lib.hid (VP.out.grown hgr (own_ne HX.out (by omega)))
        have HI9 := Lib.hid (HI.out.grown hgr (by simp [Value.ownBlock]; omega))
        have HM9 : Hid ((freshL F p.r p.c (k + 1)).length = m + 1) := Lib.hid (by rw [HFE.out, List.length_append, HML.out]; rfl)
        clear hown hgr hwh KN HO HX hb VB VP HI
        go_wp2
        go_roundw
        case rel => exact ⟨k + 1, m + 1, g7, cap7, g9, cap9, by omega, HM9.out, rfl, rfl, hne79.1, hne72.2, hne79.2, hit9, HO9, HX9, HI9, VB9, VP9, hb9⟩
        case measure => rw [HPO.out, HI9.out.pos]; omega
      | true =>
        have HFE : Hid (freshL F p.r p.c (k + 1) = freshL F p.r p.c k) := Lib.hid (by
          rw [HFS.out, show (F p.r (p.c + k) == 46) = false from by simpa using e1]; simp)
        have HO9 : Hid (w7.ownsRow (w.heap.size + 2) 150 2 (.slice (some ⟨g1, 0, none⟩) m c1) m (((freshL F p.r p.c (k + 1)).map (sqOf p)).flatMap Sq.enc)) := Lib.hid (by rw [HFE.out]; exact HO.out)
        have HX9 : Hid (w7.ownsRow (w.heap.size + 2) 3 1 (.slice (some ⟨g2, 0, none⟩) m c2) m ((freshL F p.r p.c (k + 1)).flatMap N64.enc)) := Lib.hid (by rw [HFE.out]; exact HX.out)
        have HM9 : Hid ((freshL F p.r p.c (k + 1)).length = m) := Lib.hid (by rw [HFE.out, HML.out])
        clear e1 HO HX VS
        go_wp2
        go_roundw
        case rel => exact ⟨k + 1, m, g1, c1, g2, c2, by omega, HM9.out, rfl, rfl, hn12, hn1, hn2, hitl, HO9, HX9, HI, VB, VP, hb⟩
        case measure => rw [HPO.out, HI.out.pos]; omega
    · have hnx := next_end (P := Tryz.prog) HI.out hlt
      obtain rfl : k = p.word.size := by omega
      have HML := Lib.hid hml
      clear hml
      go_wp2
      go_ret2
      exact ⟨g1, c1, g2, c2, by rw [HML.out]; rfl, hn12, by rw [HML.out]; exact own_mono HO.out (by omega), by rw [HML.out]; exact own_mono HX.out (by omega), hb⟩
end Go.Proofs.YtpkadgibfmjmcaaGreatDoor
