/- The tables of FnPlayOrder from its cell 'laid': Env and CEnv; the door's world with unicode's table meets them. -/
import Derived.Test.YtjdcdhhbgijaoaaGreatDoorDoor
import Derived.Test.YtjdcdhhbgijaoaaGreatDoorDoD
import Derived.Test.YtjdcdhhbgijaoaaGreatDoorRows
import Derived.Test.YtjdcdhhbgijaoaaGreatDoorCEnv
import Derived.Lib.LaidTab
namespace Go.Proofs.YtjdcdhhbgijaoaaGreatDoor
open Go.ChangeShapes Go.WideShapes Go.ChangeAt Go.RowKit Go.Sort Go.Joins Go.Deep Go.Lib

theorem gPow : Tryz.prog.globalNamed "internal/strconv.uint64pow10" = some 2 := by kernel_rfl
theorem tPow : (Tryz.prog.globals[2]?).map (·.type) = some 283 := by kernel_rfl
theorem gErrS : Tryz.prog.globalNamed "strconv.ErrSyntax" = some 5 := by kernel_rfl
theorem gErrR : Tryz.prog.globalNamed "strconv.ErrRange" = some 6 := by kernel_rfl
theorem tErrS : (Tryz.prog.globals[5]?).map (·.type) = some 241 := by kernel_rfl
theorem tErrR : (Tryz.prog.globals[6]?).map (·.type) = some 241 := by kernel_rfl
theorem starErr : "*" ++ "errors.errorString" = "*errors.errorString" := by decide
theorem rowErr (u : TypeId) (h : Tryz.prog.typeName? 3 u = some "*errors.errorString") : u = 314 :=
  typeName_ptr_named (nm := "errors.errorString") (by rw [starErr]; kernel_rfl) (by kernel_rfl) (by decide) u (by rw [starErr]; exact h)
/-- the first six of whatever list -/
theorem env_of_met {W : World} (r : List (String × DataW Unit)) (hsh : W.ShapedOpen Tryz.prog) (h : laidMet Tryz.prog (("math/bits.deBruijn32tab", Rows.laid_math_bits_deBruijn32tab) :: ("math/bits.deBruijn64tab", Rows.laid_math_bits_deBruijn64tab) :: ("internal/strconv.uint64pow10", Rows.laid_internal_strconv_uint64pow10) :: ("unicode/utf8.acceptRanges", Rows.laid_unicode_utf8_acceptRanges) :: ("strconv.ErrRange", Rows.laid_strconv_ErrRange) :: ("strconv.ErrSyntax", Rows.laid_strconv_ErrSyntax) :: r) W) : Env W := by
  have h1 := laidMet.tail (laidMet.tail h)
  have h2 : laidMet Tryz.prog (("internal/strconv.uint64pow10", Lib.tabData .u64 Lib.pow10Tab) :: ("unicode/utf8.acceptRanges", Rows.laid_unicode_utf8_acceptRanges) :: ("strconv.ErrRange", Rows.laid_strconv_ErrRange) :: ("strconv.ErrSyntax", Rows.laid_strconv_ErrSyntax) :: r) W := h1
  have h3 := laidMet.tail (laidMet.tail h1)
  have h4 := laidMet.tail h3
  refine ⟨Lib.tabIs_of_head gPow tPow Tryz.underlying283 Tryz.underlying171 (by kernel_rfl) (by kernel_rfl) h2, Tryz.laysM146.s1_3 W hsh, ?_, ?_⟩
  · obtain ⟨a, _, hv, _⟩ := laid_sentinel h4 gErrS tErrS Tryz.underlying241 rowErr Tryz.underlying314 Tryz.underlying316 rfl rfl Tryz.underlying9 (by kernel_rfl) (by kernel_rfl)
    exact ⟨_, _, hv⟩
  · obtain ⟨a, _, hv, _⟩ := laid_sentinel h3 gErrR tErrR Tryz.underlying241 rowErr Tryz.underlying314 Tryz.underlying316 rfl rfl Tryz.underlying9 (by kernel_rfl) (by kernel_rfl)
    exact ⟨_, _, hv⟩
theorem laidVars_swap {P : Program} {w : World} {b c : String × DataW Unit} : ∀ (l : List (String × DataW Unit)) (ps : List MemPlace), DataW.LaidVars P w (l ++ [b, c]) ps → ∃ ps', DataW.LaidVars P w (l ++ [c, b]) ps' ∧ ps.Perm ps'
  | [], ps, h => by
    obtain ⟨n1, d1⟩ := b
    obtain ⟨n2, d2⟩ := c
    obtain ⟨g1, t1, cs1, f1, p1, q1, b1, b2, b3, b4, hl2, rfl⟩ := h
    obtain ⟨g2, t2, cs2, f2, p2, q2, c1, c2, c3, c4, hl3, rfl⟩ := hl2
    obtain rfl : q2 = [] := hl3
    exact ⟨_, ⟨g2, t2, cs2, f2, p2, _, c1, c2, c3, c4, ⟨g1, t1, cs1, f1, p1, [], b1, b2, b3, b4, rfl, rfl⟩, rfl⟩, by rw [List.append_nil, List.append_nil]; exact List.perm_append_comm⟩
  | a :: l, ps, h => by
    obtain ⟨n0, d0⟩ := a
    obtain ⟨g0, t0, cs0, f0, p0, q0, a1, a2, a3, a4, hl1, rfl⟩ := h
    obtain ⟨q', h1, h2⟩ := laidVars_swap l q0 hl1
    exact ⟨_, ⟨g0, t0, cs0, f0, p0, q', a1, a2, a3, a4, h1, rfl⟩, List.Perm.append_left _ h2⟩
theorem laid_swapN {P : Program} {w : World} {b c : String × DataW Unit} (l : List (String × DataW Unit)) (h : laidMet P (l ++ [b, c]) w) : laidMet P (l ++ [c, b]) w := by
  obtain ⟨ps, hl, hn, hc⟩ := h
  obtain ⟨ps', h1, h2⟩ := laidVars_swap l ps hl
  exact ⟨ps', h1, h2.nodup_iff.1 hn, fun b off hm => hc b off (h2.mem_iff.2 hm)⟩
def eight : List (String × DataW Unit) := [("math/bits.deBruijn32tab", Rows.laid_math_bits_deBruijn32tab), ("math/bits.deBruijn64tab", Rows.laid_math_bits_deBruijn64tab), ("internal/strconv.uint64pow10", Rows.laid_internal_strconv_uint64pow10), ("unicode/utf8.acceptRanges", Rows.laid_unicode_utf8_acceptRanges), ("strconv.ErrRange", Rows.laid_strconv_ErrRange), ("strconv.ErrSyntax", Rows.laid_strconv_ErrSyntax), ("unicode.CaseRanges", Rows.laid_unicode_CaseRanges), ("unicode/utf8.first", Rows.laid_unicode_utf8_first)]
set_option maxRecDepth 1000000 in
theorem door_eight_met (os : Os) (args : Array Value) : laidMet Tryz.prog eight ((doorCase os).forCall (fun _ _ => 0) ⟨#[], args, []⟩).memory := by
  have := laidMet_with_case (ρ := Tryz.lays159_ren) n274 (Tryz.lays159).t206 caseExtra (w := ((doorCase os).forCall (fun _ _ => 0) ⟨#[], args, []⟩).memory)
    (l := [("math/bits.deBruijn32tab", Rows.laid_math_bits_deBruijn32tab), ("math/bits.deBruijn64tab", Rows.laid_math_bits_deBruijn64tab), ("internal/strconv.uint64pow10", Rows.laid_internal_strconv_uint64pow10), ("unicode/utf8.acceptRanges", Rows.laid_unicode_utf8_acceptRanges), ("strconv.ErrRange", Rows.laid_strconv_ErrRange), ("strconv.ErrSyntax", Rows.laid_strconv_ErrSyntax), ("unicode/utf8.first", Rows.laid_unicode_utf8_first)])
    10 (by kernel_rfl) (by kernel_rfl) (by kernel_rfl) (doorFirst default).heap.size (Tryz.lays159_ren.t 208) (of_decide_eq_true (by kernel_rfl)) (by kernel_rfl) (by kernel_rfl) (by kernel_rfl)
  unfold eight
  rw [show Rows.laid_unicode_CaseRanges = Lib.caseData from case_eq]
  exact laid_swapN [("math/bits.deBruijn32tab", Rows.laid_math_bits_deBruijn32tab), ("math/bits.deBruijn64tab", Rows.laid_math_bits_deBruijn64tab), ("internal/strconv.uint64pow10", Rows.laid_internal_strconv_uint64pow10), ("unicode/utf8.acceptRanges", Rows.laid_unicode_utf8_acceptRanges), ("strconv.ErrRange", Rows.laid_strconv_ErrRange), ("strconv.ErrSyntax", Rows.laid_strconv_ErrSyntax)] this
theorem eight_PlayOrder {W : World} (h : laidMetH Tryz.prog Rows.fnPlayOrderRow.laid W) : laidMet Tryz.prog eight W := by
  rw [MakeChecks.laidMetH_plain _ _ _ (by kernel_rfl)] at h
  exact h
theorem env_PlayOrder {W : World} (hsh : W.ShapedOpen Tryz.prog) (h : laidMetH Tryz.prog Rows.fnPlayOrderRow.laid W) : Env W :=
  env_of_met [("unicode.CaseRanges", Rows.laid_unicode_CaseRanges), ("unicode/utf8.first", Rows.laid_unicode_utf8_first)] hsh (eight_PlayOrder h)
theorem cenv_PlayOrder {W : World} (h : laidMetH Tryz.prog Rows.fnPlayOrderRow.laid W) : CEnv W :=
  cenv_of_met (eight_PlayOrder h) (by unfold eight; exact List.mem_cons_of_mem _ (List.mem_cons_of_mem _ (List.mem_cons_of_mem _ (List.mem_cons_self)))) (by unfold eight; exact List.mem_cons_of_mem _ (List.mem_cons_of_mem _ (List.mem_cons_of_mem _ (List.mem_cons_of_mem _ (List.mem_cons_of_mem _ (List.mem_cons_of_mem _ (List.mem_cons_self))))))) (by unfold eight; exact List.mem_cons_of_mem _ (List.mem_cons_of_mem _ (List.mem_cons_of_mem _ (List.mem_cons_of_mem _ (List.mem_cons_of_mem _ (List.mem_cons_of_mem _ (List.mem_cons_of_mem _ (List.mem_cons_self))))))))
theorem door_PlayOrder_met (os : Os) (args : Array Value) : laidMetH Tryz.prog Rows.fnPlayOrderRow.laid ((doorCase os).forCall (fun _ _ => 0) ⟨#[], args, []⟩).memory :=
  laidMetH_of_parts3 (fuel := 8) (door_eight_met os args) (by kernel_rfl) (by kernel_rfl)
end Go.Proofs.YtjdcdhhbgijaoaaGreatDoor
