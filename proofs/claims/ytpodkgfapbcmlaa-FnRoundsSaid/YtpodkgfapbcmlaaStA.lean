/- Contracts of the small functions of a table: points of a result, which line stands ahead, a score added, the program's less. · Contract: the line of one member (reference). -/
import Derived.Test.YtpodkgfapbcmlaaStP
import Derived.Test.YtpodkgfapbcmlaaBox
import Derived.StillTailTactics
import Derived.IntWalk
namespace Go.Proofs.Ytpodkgfapbcmlaa
open Go.ChangeShapes Go.WideShapes Go.ChangeAt Go.RowKit Go.Sort

theorem l26Points_any (x y : Int) (w : World) : Calls Try.prog 144 #[.int .i64 x, .int .i64 y] w fun e w' => e = .returned (.int .i64 (linePts x y)) ∧ w = w' := by
  go_enter Try.func144, Try.ntmps144
  go_wp2
  all_goals
    go_ret
    exact ⟨ret_int (by unfold linePts; simp_all; try omega), rfl⟩
/-- a contract that leaves the world alone, as the walk of still operations wants it -/
theorem still_of {P : Program} {f : FuncId} {args : Array Value} {w : World} {r : Ending} (h : Calls P f args w fun e w' => e = r ∧ w = w') : Calls P f args w fun e w' => e = r ∧ w' = w := h.mono fun _ _ ⟨h1, h2⟩ => ⟨h1, h2.symm⟩
/-- a line lies in memory -/
def StdAt (w : World) (b o : Nat) (s : Std) : Prop :=
  w.cell? ⟨b, o, none⟩ = some (.string s.name) ∧ w.cell? ⟨b, o + 1, none⟩ = some (.int .i64 s.points) ∧ w.cell? ⟨b, o + 2, none⟩ = some (.int .i64 s.spread) ∧ w.cell? ⟨b, o + 3, none⟩ = some (.int .i64 s.games)
theorem stdAt_of {w : World} {b o : Nat} {xs : List Std} (h : CellsAt w 4 Std.enc b o xs) {k : Nat} (hk : k < xs.length) : StdAt w b (o + k * 4) xs[k] :=
  ⟨h.at0 hk rfl, h k hk 1 _ rfl, h k hk 2 _ rfl, h k hk 3 _ rfl⟩
theorem StdAt.kept {w w' : World} {b o : Nat} {s : Std} (h : StdAt w b o s) (hb : Below w.heap.size w w') : StdAt w' b o s :=
  ⟨cell_kept h.1 hb, cell_kept h.2.1 hb, cell_kept h.2.2.1 hb, cell_kept h.2.2.2 hb⟩
set_option maxHeartbeats 1000000 in
theorem l26Before_any (x y : Std) (b o c p : Nat) (w : World) (hx : StdAt w b o x) (hy : StdAt w c p y) :
    Calls Try.prog 124 #[.pointer (some ⟨b, o, none⟩), .pointer (some ⟨c, p, none⟩)] w fun e w' => e = .returned (.bool (stdBefore x y)) ∧ Drew w w' := by
  obtain ⟨x0, x1, x2, x3⟩ := hx
  obtain ⟨y0, y1, y2, y3⟩ := hy
  clear x3 y3
  cases h1 : ((x.points : Int) != y.points) with
  | true =>
    have HR : Hid (stdBefore x y = decide (y.points < x.points)) := Lib.hid (by unfold stdBefore; rw [if_pos (by simpa using h1)])
    go_enter Try.func124, Try.ntmps124
    go_wp2
    go_quiet (fail)
    go_wp2
    go_quiet (fail)
    go_wp2
    go_ret
    exact ⟨ret_bool HR.out.symm, ((Drew.refl _).drewN _).drewN _⟩
  | false =>
    cases h2 : ((x.spread : Int) != y.spread) with
    | true =>
      have HR : Hid (stdBefore x y = decide (y.spread < x.spread)) := Lib.hid (by unfold stdBefore; rw [if_neg (by simpa using h1), if_pos (by simpa using h2)])
      go_enter Try.func124, Try.ntmps124
      go_wp2
      go_quiet (fail)
      go_wp2
      go_quiet (fail)
      go_wp2
      go_quiet (fail)
      go_wp2
      go_ret
      exact ⟨ret_bool HR.out.symm, (((Drew.refl _).drewN _).drewN _).drewN _⟩
    | false =>
      have HR : Hid (stdBefore x y = Op.bytesLess x.name.toList y.name.toList) := Lib.hid (by unfold stdBefore; rw [if_neg (by simpa using h1), if_neg (by simpa using h2)])
      go_enter Try.func124, Try.ntmps124
      go_wp2
      go_quiet (fail)
      go_wp2
      go_quiet (fail)
      go_wp2
      go_quiet (fail)
      go_wp2
      go_ret
      exact ⟨ret_bool HR.out.symm, (((Drew.refl _).drewN _).drewN _).drewN _⟩

theorem std_set {L : List Std} {i : Nat} (hi : i < L.length) (j : Nat) (hj : j < 4) (v : Value) (y : Std) (hy : Std.enc y = (Std.enc L[i]).set j v) : (L.flatMap Std.enc).set (i * 4 + j) v = (L.set i y).flatMap Std.enc :=
  flatMap_set Std.enc_len L hi hj v y hy
set_option maxRecDepth 100000 in
set_option maxHeartbeats 2000000 in
theorem score_any (L : List Std) (i n blk cap base : Nat) (x y : Int) (w : World) (hi : i < L.length) (hn : n = L.length) (ho : w.ownsRow base 74 4 (.slice (some ⟨blk, 0, none⟩) n cap) n (L.flatMap Std.enc))
    (hx0 : -2000 ≤ x) (hx1 : x ≤ 2000) (hy0 : -2000 ≤ y) (hy1 : y ≤ 2000) (hp0 : 0 ≤ L[i].points) (hp1 : L[i].points ≤ 1000000) (hs0 : -100000000 ≤ L[i].spread) (hs1 : L[i].spread ≤ 100000000) (hg0 : 0 ≤ L[i].games) (hg1 : L[i].games ≤ 1000000) :
    Calls Try.prog 121 #[.pointer (some ⟨blk, i * 4, none⟩), .int .i64 x, .int .i64 y] w fun e w' => e = .returned (.tuple #[]) ∧
      w'.ownsRow base 74 4 (.slice (some ⟨blk, 0, none⟩) n cap) n ((L.set i (scored L[i] x y)).flatMap Std.enc) ∧ w.grownBy w' (some blk) := by
  have hd : Below w.heap.size w w.drew := (Below.refl _ _).drew
  have hg := grown_of_below (row := some blk) hd
  have ho0 := own_below ho hd
  have hsg := signI_cases (x - y)
  have b1 : -1 ≤ signI (x - y) ∧ signI (x - y) ≤ 1 := by omega
  obtain ⟨b10, b11⟩ := b1
  clear hsg
  have p1 := own_cells Std.enc_len ho0 hn hi (j := 1) (v := .int .i64 L[i].points) rfl
  have f1 := ho0.frozenAt (i * 4 + 1)
  obtain ⟨ho1, hg1⟩ := ho0.stored (i * 4 + 1) (.int .i64 (L[i].points + (1 + signI (x - y))))
  rw [std_set hi 1 (by decide) _ ⟨L[i].name, L[i].points + (1 + signI (x - y)), L[i].spread, L[i].games⟩ rfl] at ho1
  have hi1 : i < (L.set i ⟨L[i].name, L[i].points + (1 + signI (x - y)), L[i].spread, L[i].games⟩).length := by simpa using hi
  have e1 : (L.set i ⟨L[i].name, L[i].points + (1 + signI (x - y)), L[i].spread, L[i].games⟩)[i] = ⟨L[i].name, L[i].points + (1 + signI (x - y)), L[i].spread, L[i].games⟩ := List.getElem_set_self _
  have p2 := own_cells Std.enc_len ho1 (by simpa using hn) hi1 (j := 2) (v := .int .i64 L[i].spread) (by rw [e1]; rfl)
  have f2 := ho1.frozenAt (i * 4 + 2)
  obtain ⟨ho2, hg2⟩ := ho1.stored (i * 4 + 2) (.int .i64 (L[i].spread + (x - y)))
  rw [std_set hi1 2 (by decide) _ ⟨L[i].name, L[i].points + (1 + signI (x - y)), L[i].spread + (x - y), L[i].games⟩ (by rw [e1]; rfl), List.set_set] at ho2
  have hi2 : i < (L.set i ⟨L[i].name, L[i].points + (1 + signI (x - y)), L[i].spread + (x - y), L[i].games⟩).length := by simpa using hi
  have e2 : (L.set i ⟨L[i].name, L[i].points + (1 + signI (x - y)), L[i].spread + (x - y), L[i].games⟩)[i] = ⟨L[i].name, L[i].points + (1 + signI (x - y)), L[i].spread + (x - y), L[i].games⟩ := List.getElem_set_self _
  have p3 := own_cells Std.enc_len ho2 (by simpa using hn) hi2 (j := 3) (v := .int .i64 L[i].games) (by rw [e2]; rfl)
  have f3 := ho2.frozenAt (i * 4 + 3)
  obtain ⟨ho3, hg3⟩ := ho2.stored (i * 4 + 3) (.int .i64 (L[i].games + 1))
  rw [std_set hi2 3 (by decide) _ (scored L[i] x y) (by rw [e2]; rfl), List.set_set] at ho3
  have HO := Lib.hid ho3
  have HG := Lib.hid (grownBy_trans hg (grownBy_trans hg1 (grownBy_trans hg2 hg3)))
  clear ho ho0 ho1 ho2 ho3 hg hg1 hg2 hg3 e1 e2 hi1 hi2 hd hn
  have hsn := still_of (sign_any (x - y) w.drew)
  have HS := Lib.hid hsn
  clear hsn
  generalize signI (x - y) = sg at *
  go_enter Try.func121, Try.ntmps121
  go_wp2
  refine wp_region_still_tail 10 (by kernel_rfl) (by kernel_rfl) ?_
  simp only [List.take_succ_cons, List.take_zero, List.drop_succ_cons, List.drop_zero]
  change wpStill _ _ w.drew (fun a' => wpList _ _ _ _ a' w.drew) _ _
  generalize w.drew = wd at *
  have w1 : IntKind.i64.wrap (x - y) = x - y := IntWalk.i64_in _ (by omega)
  have w2 : IntKind.i64.wrap (1 + sg) = 1 + sg := IntWalk.i64_in _ (by omega)
  have w3 : IntKind.i64.wrap (L[i].points + (1 + sg)) = L[i].points + (1 + sg) := IntWalk.i64_in _ (by omega)
  repeat still_step
  still_call HS.out
  repeat still_step
  refine wpStill_nil ?_
  clear w1 w2 w3
  go_wp2
  go_end0
  exact ⟨rfl, HO.out, HG.out⟩

set_option maxHeartbeats 4000000 in
theorem stdLess_any (ys : List Std) (i j Bs blk cap : Nat) (hi : i < ys.length) (hj : j < ys.length) (W : World) (hs : W.cell? ⟨Bs, 0, none⟩ = some (.slice (some ⟨blk, 0, none⟩) ys.length cap)) (hc : CellsAt W 4 Std.enc blk 0 ys) :
    Calls Try.prog 122 #[.int .i64 i, .int .i64 j, .pointer (some ⟨Bs, 0, none⟩)] W fun e w' => e = .returned (.bool (stdLess ys[i] ys[j])) ∧ Below W.heap.size W w' := by
  obtain ⟨x0, x1, x2, x3⟩ := stdAt_of hc hi
  obtain ⟨y0, y1, y2, y3⟩ := stdAt_of hc hj
  rw [Nat.zero_add] at x0 x1 x2 x3 y0 y1 y2 y3
  clear hc
  have k0 := World.new_ne W _ hs
  have k1 := World.new_ne W _ x0
  have k2 := World.new_ne W _ x1
  have k3 := World.new_ne W _ x2
  have k4 := World.new_ne W _ x3
  have k5 := World.new_ne W _ y0
  have k6 := World.new_ne W _ y1
  have k7 := World.new_ne W _ y2
  have k8 := World.new_ne W _ y3
  cases h1 : decide (ys[j].points < ys[i].points) with
  | true =>
    have HR : Hid (stdLess ys[i] ys[j] = true) := Lib.hid (by unfold stdLess; rw [h1]; rfl)
    go_enter Try.func122, Try.ntmps122
    go_wp2
    go_region_held3 (fun w' => w'.cell? ⟨Bs, 0, none⟩ = some (.slice (some ⟨blk, 0, none⟩) ys.length cap) ∧ w'.cell? ⟨blk, i * 4, none⟩ = some (.string ys[i].name) ∧ w'.cell? ⟨blk, i * 4 + 1, none⟩ = some (.int .i64 ys[i].points) ∧ w'.cell? ⟨blk, i * 4 + 2, none⟩ = some (.int .i64 ys[i].spread) ∧ w'.cell? ⟨blk, i * 4 + 3, none⟩ = some (.int .i64 ys[i].games) ∧ w'.cell? ⟨blk, j * 4, none⟩ = some (.string ys[j].name) ∧ w'.cell? ⟨blk, j * 4 + 1, none⟩ = some (.int .i64 ys[j].points) ∧ w'.cell? ⟨blk, j * 4 + 2, none⟩ = some (.int .i64 ys[j].spread) ∧ w'.cell? ⟨blk, j * 4 + 3, none⟩ = some (.int .i64 ys[j].games)) (go_keep) (fail)
    all_goals
      go_wp2
      go_ret
      refine ⟨ret_bool ?_, ?_⟩
      · rw [HR.out]
      · exact (((Below.refl _ _).alloc (Nat.le_refl _) _).alloc (by simp) _).drew
  | false =>
    cases h2 : ((ys[i].points : Int) == ys[j].points) with
    | true =>
      have HR : Hid (stdLess ys[i] ys[j] = decide (ys[j].spread < ys[i].spread)) := Lib.hid (by unfold stdLess; rw [h1, h2]; rfl)
      go_enter Try.func122, Try.ntmps122
      go_wp2
      go_region_held3 (fun w' => w'.cell? ⟨Bs, 0, none⟩ = some (.slice (some ⟨blk, 0, none⟩) ys.length cap) ∧ w'.cell? ⟨blk, i * 4, none⟩ = some (.string ys[i].name) ∧ w'.cell? ⟨blk, i * 4 + 1, none⟩ = some (.int .i64 ys[i].points) ∧ w'.cell? ⟨blk, i * 4 + 2, none⟩ = some (.int .i64 ys[i].spread) ∧ w'.cell? ⟨blk, i * 4 + 3, none⟩ = some (.int .i64 ys[i].games) ∧ w'.cell? ⟨blk, j * 4, none⟩ = some (.string ys[j].name) ∧ w'.cell? ⟨blk, j * 4 + 1, none⟩ = some (.int .i64 ys[j].points) ∧ w'.cell? ⟨blk, j * 4 + 2, none⟩ = some (.int .i64 ys[j].spread) ∧ w'.cell? ⟨blk, j * 4 + 3, none⟩ = some (.int .i64 ys[j].games)) (go_keep) (fail)
      all_goals
        go_wp2
        go_ret
        refine ⟨ret_bool ?_, ?_⟩
        · rw [HR.out]
        · exact (((Below.refl _ _).alloc (Nat.le_refl _) _).alloc (by simp) _).drew
    | false =>
      have HR : Hid (stdLess ys[i] ys[j] = false) := Lib.hid (by unfold stdLess; rw [h1, h2]; rfl)
      go_enter Try.func122, Try.ntmps122
      go_wp2
      go_region_held3 (fun w' => w'.cell? ⟨Bs, 0, none⟩ = some (.slice (some ⟨blk, 0, none⟩) ys.length cap) ∧ w'.cell? ⟨blk, i * 4, none⟩ = some (.string ys[i].name) ∧ w'.cell? ⟨blk, i * 4 + 1, none⟩ = some (.int .i64 ys[i].points) ∧ w'.cell? ⟨blk, i * 4 + 2, none⟩ = some (.int .i64 ys[i].spread) ∧ w'.cell? ⟨blk, i * 4 + 3, none⟩ = some (.int .i64 ys[i].games) ∧ w'.cell? ⟨blk, j * 4, none⟩ = some (.string ys[j].name) ∧ w'.cell? ⟨blk, j * 4 + 1, none⟩ = some (.int .i64 ys[j].points) ∧ w'.cell? ⟨blk, j * 4 + 2, none⟩ = some (.int .i64 ys[j].spread) ∧ w'.cell? ⟨blk, j * 4 + 3, none⟩ = some (.int .i64 ys[j].games)) (go_keep) (fail)
      all_goals
        go_wp2
        go_ret
        refine ⟨ret_bool ?_, ?_⟩
        · rw [HR.out]
        · exact (((Below.refl _ _).alloc (Nat.le_refl _) _).alloc (by simp) _).drew
end Go.Proofs.Ytpodkgfapbcmlaa

namespace Go.Proofs.Ytpodkgfapbcmlaa
open Go.ChangeShapes Go.WideShapes Go.ChangeAt Go.RowKit Go.Sort

theorem row_new (w : World) (s : Std) (e : TypeId) (base : Nat) (hb : base ≤ w.heap.size) : (w.alloc (.cells #[.string s.name, .int .i64 s.points, .int .i64 s.spread, .int .i64 s.games] e)).ownsRow base e 4 (.slice (some ⟨w.heap.size, 0, none⟩) 1 1) 1 ([s].flatMap Std.enc) :=
  ⟨by simp [Std.enc_len], .inr ⟨w.heap.size, 1, #[.string s.name, .int .i64 s.points, .int .i64 s.spread, .int .i64 s.games], rfl, hb, heap_alloc_new w _, Nat.le_refl _, by unfold maxLen; omega, rfl, by simp [Std.enc]⟩⟩
theorem row_std {w : World} {B g cap : Nat} {e : TypeId} {s : Std} (h : w.ownsRow B e 4 (.slice (some ⟨g, 0, none⟩) 1 cap) 1 ([s].flatMap Std.enc)) : StdAt w g 0 s := by
  have p0 := own_cells Std.enc_len h rfl (i := 0) (by simp) (j := 0) (v := .string s.name) rfl
  have p1 := own_cells Std.enc_len h rfl (i := 0) (by simp) (j := 1) (v := .int .i64 s.points) rfl
  have p2 := own_cells Std.enc_len h rfl (i := 0) (by simp) (j := 2) (v := .int .i64 s.spread) rfl
  have p3 := own_cells Std.enc_len h rfl (i := 0) (by simp) (j := 3) (v := .int .i64 s.games) rfl
  simp only [Nat.zero_mul, Nat.zero_add] at p0 p1 p2 p3
  exact ⟨p0, p1, p2, p3⟩
theorem row_set {w : World} {B g cap : Nat} {e : TypeId} {s : Std} (h : w.ownsRow B e 4 (.slice (some ⟨g, 0, none⟩) 1 cap) 1 ([s].flatMap Std.enc)) (j : Nat) (v : Value) (y : Std) (hj : j < 4) (hy : Std.enc y = (Std.enc s).set j v) :
    (w.setCell ⟨g, j, none⟩ v).ownsRow B e 4 (.slice (some ⟨g, 0, none⟩) 1 cap) 1 ([y].flatMap Std.enc) ∧ w.grownBy (w.setCell ⟨g, j, none⟩ v) (some g) := by
  obtain ⟨h1, h2⟩ := h.stored j v
  refine ⟨own_as h1 ?_, h2⟩
  have := std_set (L := [s]) (i := 0) (by simp) j hj v y hy
  rw [Nat.zero_mul, Nat.zero_add] at this
  exact this

set_option maxRecDepth 100000 in
set_option maxHeartbeats 8000000 in
theorem l26Line_any (nm : ByteArray) (rs : List Res) (ra : Option Addr) (rcap : Nat) (w : World) (hr : SliceAt w 4 Res.enc ra rs) (hlr : rs.length ≤ 200) (hok : rs.all resOk = true) :
    Calls Try.prog 123 #[.string nm, .slice ra rs.length rcap] w fun e w' => e = .returned (.agg #[.string nm, .int .i64 (lineOf nm rs).points, .int .i64 (lineOf nm rs).spread, .int .i64 (lineOf nm rs).games]) ∧ Below w.heap.size w w' := by
  have HRS := Lib.hid hr; clear hr
  have HOK := Lib.hid hok; clear hok
  obtain ⟨w2, hw2⟩ : ∃ w2, w2 = (w.alloc (.cells #[.string ⟨#[]⟩, .int .i64 0, .int .i64 0, .int .i64 0] 74)).alloc (.cells #[.string nm, .int .i64 0, .int .i64 0, .int .i64 0] 74) := ⟨_, rfl⟩
  have hb : Below w.heap.size w w2 := by rw [hw2]; exact ((Below.refl _ _).alloc (Nat.le_refl _) _).alloc (by simp) _
  have O0 : Hid (w2.ownsRow w.heap.size 74 4 (.slice (some ⟨w.heap.size, 0, none⟩) 1 1) 1 ([⟨⟨#[]⟩, 0, 0, 0⟩].flatMap Std.enc)) := by
    rw [hw2]
    exact Lib.hid (own_alloc (row_new w ⟨⟨#[]⟩, 0, 0, 0⟩ _ _ (Nat.le_refl _)) _)
  have O1 : Hid (w2.ownsRow w.heap.size 74 4 (.slice (some ⟨w.heap.size + 1, 0, none⟩) 1 1) 1 ([⟨nm, 0, 0, 0⟩].flatMap Std.enc)) := by
    rw [hw2]
    have := row_new (w.alloc (.cells #[.string ⟨#[]⟩, .int .i64 0, .int .i64 0, .int .i64 0] 74)) ⟨nm, 0, 0, 0⟩ 74 w.heap.size (by simp)
    rw [show (w.alloc (.cells #[.string ⟨#[]⟩, .int .i64 0, .int .i64 0, .int .i64 0] 74)).heap.size = w.heap.size + 1 from by simp] at this
    exact Lib.hid this
  have HW2 := Lib.hid hw2; clear hw2
  go_enter Try.func123, Try.ntmps123
  go_wp2
  rw [← HW2.out]
  go_loopw [6] (fun iv wr => ∃ k : Nat, k ≤ rs.length ∧ iv = .int .i64 k ∧ Hid (wr.ownsRow w.heap.size 74 4 (.slice (some ⟨w.heap.size, 0, none⟩) 1 1) 1 ([⟨⟨#[]⟩, 0, 0, 0⟩].flatMap Std.enc)) ∧
      Hid (wr.ownsRow w.heap.size 74 4 (.slice (some ⟨w.heap.size + 1, 0, none⟩) 1 1) 1 ([lineOf nm (rs.take k)].flatMap Std.enc)) ∧ Below w.heap.size w wr) (fun iv _ => rs.length - (intOf iv).toNat)
  case atStart => exact ⟨0, Nat.zero_le _, rfl, O0, O1, hb⟩
  case round =>
    clear O0 O1 hb HW2
    obtain ⟨k, hk, rfl, O0, O1, hb⟩ := hrel
    by_cases hlt : k < rs.length
    · obtain ⟨xb, xo, hab, hcs⟩ := (HRS.out.kept hb).open hlt
      have hxw : xb < w.heap.size := by
        obtain ⟨mb', mo', hab', hcs'⟩ := HRS.out.open hlt
        rw [hab] at hab'
        simp only [Option.some.injEq, Addr.mk.injEq, and_true] at hab'
        obtain ⟨rfl, rfl⟩ := hab'
        exact block_lt (hcs'.at0 hlt rfl)
      subst hab
      obtain ⟨e0, e1, e2, e3⟩ := resAt_of hcs hlt
      clear hcs
      obtain ⟨q0, q1, q2, q3, q4, q5⟩ := lineOf_bd (nm := nm) HOK.out k hk
      have HSUCC := Lib.hid (lineOf_succ (nm := nm) hlt)
      have HRO := Lib.hid (List.all_eq_true.1 HOK.out _ (List.getElem_mem hlt))
      obtain ⟨t0, t1, t2, t3⟩ := scOk_of HRO.out
      generalize lineOf nm (rs.take k) = s at *
      cases hA : (rs[k].a.toList == nm.toList) with
      | true =>
        cases hB0 : rs[k].b.toList.isEmpty with
        | true =>
          have hbn : rs[k].b.toList = [] := List.isEmpty_iff.1 hB0
          have HL := Lib.hid (lineAdd_bye (s := s) hA hB0)
          obtain ⟨p0, p1, p2, p3⟩ := row_std O1.out
          have f1 := O1.out.frozenAt 1
          obtain ⟨o1, g1⟩ := row_set O1.out 1 (.int .i64 (s.points + 2)) (byed s) (by decide) rfl
          have Z0 := Lib.hid (O0.out.kept g1 (.inr (by simp [Value.ownBlock])))
          have ZB := hb.grown g1 hb.size (fun k hk => by simp at hk; omega)
          have Z1 := Lib.hid o1
          clear o1 g1
          go_wp2
          go_roundw
          case rel => exact ⟨k + 1, by omega, by go_num, Z0, Lib.hid (by rw [HSUCC.out, HL.out]; exact Z1.out), ZB⟩
          case measure => simp [intOf]; omega
        | false =>
          have hbn : ¬ rs[k].b.toList = [] := fun e => by rw [e] at hB0; simp at hB0
          have hB : (rs[k].b.toList == nm.toList) = false := by
            rw [beq_eq_false_iff_ne]
            intro e
            obtain ⟨_, _, _, _, hne⟩ := scores_game HRO.out hB0
            exact hne ((beq_iff_eq.1 hA).trans e.symm)
          have HL := Lib.hid (lineAdd_a (s := s) hA hB0 hB)
          go_wp2
          have hd : Below wr.heap.size wr wr.drew := (Below.refl _ _).drew
          replace O1 := Lib.hid (own_below O1.out hd)
          replace O0 := Lib.hid (own_below O0.out hd)
          replace hb := hb.trans (hd.mono hb.size)
          replace e0 := cell_kept e0 hd
          replace e1 := cell_kept e1 hd
          replace e2 := cell_kept e2 hd
          replace e3 := cell_kept e3 hd
          clear hd
          obtain ⟨p0, p1, p2, p3⟩ := row_std O1.out
          have f1 := O1.out.frozenAt 1
          have HS := Lib.hid (still_of (l26Points_any rs[k].sa rs[k].sb wr.drew))
          obtain ⟨l0, l1⟩ := linePts_bd rs[k].sa rs[k].sb
          refine wp_region_still_tail 12 (by kernel_rfl) (by kernel_rfl) ?_
          simp only [List.take_succ_cons, List.take_zero, List.drop_succ_cons, List.drop_zero]
          change wpStill _ _ wr.drew (fun a' => wpList _ _ _ _ a' wr.drew) _ _
          generalize wr.drew = wd at *
          have v1 : IntKind.i64.wrap (s.points + linePts rs[k].sa rs[k].sb) = s.points + linePts rs[k].sa rs[k].sb := IntWalk.i64_in _ (by omega)
          repeat still_step
          still_call HS.out
          repeat still_step
          refine wpStill_nil ?_
          clear v1 HS
          go_wp2_with fail
          obtain ⟨o1, g1⟩ := row_set O1.out 1 (.int .i64 (s.points + linePts rs[k].sa rs[k].sb)) ⟨s.name, s.points + linePts rs[k].sa rs[k].sb, s.spread, s.games⟩ (by decide) rfl
          replace O0 := Lib.hid (O0.out.kept g1 (.inr (by simp [Value.ownBlock])))
          replace e0 := g1.cell e0 (by simp; omega)
          replace e1 := g1.cell e1 (by simp; omega)
          replace e2 := g1.cell e2 (by simp; omega)
          replace e3 := g1.cell e3 (by simp; omega)
          replace hb := hb.grown g1 hb.size (fun k hk => by simp at hk; omega)
          replace O1 := Lib.hid o1
          clear o1 g1 p0 p1 p2 p3 f1
          generalize wd.setCell ⟨w.heap.size + 1, 1, none⟩ (.int .i64 (s.points + linePts rs[k].sa rs[k].sb)) = wa at *
          have hd : Below wa.heap.size wa wa.drew := (Below.refl _ _).drew
          replace O1 := Lib.hid (own_below O1.out hd)
          replace O0 := Lib.hid (own_below O0.out hd)
          replace hb := hb.trans (hd.mono hb.size)
          replace e0 := cell_kept e0 hd
          replace e1 := cell_kept e1 hd
          replace e2 := cell_kept e2 hd
          replace e3 := cell_kept e3 hd
          clear hd
          obtain ⟨p0, p1, p2, p3⟩ := row_std O1.out
          have f2 := O1.out.frozenAt 2
          refine wp_region_still_tail 12 (by kernel_rfl) (by kernel_rfl) ?_
          simp only [List.take_succ_cons, List.take_zero, List.drop_succ_cons, List.drop_zero]
          change wpStill _ _ wa.drew (fun a' => wpList _ _ _ _ a' wa.drew) _ _
          generalize wa.drew = wb at *
          obtain ⟨o2, g2⟩ := row_set O1.out 2 (.int .i64 (s.spread + (rs[k].sa - rs[k].sb))) ⟨s.name, s.points + linePts rs[k].sa rs[k].sb, s.spread + (rs[k].sa - rs[k].sb), s.games⟩ (by decide) rfl
          obtain ⟨P0, P1, P2, P3⟩ := row_std o2
          have F3 := o2.frozenAt 3
          obtain ⟨o3, g3⟩ := row_set o2 3 (.int .i64 (s.games + 1)) (scored s rs[k].sa rs[k].sb) (by decide) (by simp [Std.enc, scored, scored_pts])
          have G := grownBy_trans g2 g3
          have E1 := G.cell e1 (by simp; omega)
          have Z0 := Lib.hid (O0.out.kept G (.inr (by simp [Value.ownBlock])))
          have ZB := hb.grown G hb.size (fun k hk => by simp at hk; omega)
          have Z1 := Lib.hid o3
          clear o2 g2 o3 g3 G P0 P1 P2
          have v1 : IntKind.i64.wrap (rs[k].sa - rs[k].sb) = rs[k].sa - rs[k].sb := IntWalk.i64_in _ (by omega)
          have v2 : IntKind.i64.wrap (s.spread + (rs[k].sa - rs[k].sb)) = s.spread + (rs[k].sa - rs[k].sb) := IntWalk.i64_in _ (by omega)
          repeat still_step
          refine wpStill_nil ?_
          clear v1 v2
          go_wp2
          go_roundw
          case rel => exact ⟨k + 1, by omega, by go_num, Z0, Lib.hid (by rw [HSUCC.out, HL.out]; exact Z1.out), ZB⟩
          case measure => simp [intOf]; omega
      | false =>
        cases hB : (rs[k].b.toList == nm.toList) with
        | true =>
          have HL := Lib.hid (lineAdd_b (s := s) hA hB)
          go_wp2
          have hd : Below wr.heap.size wr wr.drew := (Below.refl _ _).drew
          replace O1 := Lib.hid (own_below O1.out hd)
          replace O0 := Lib.hid (own_below O0.out hd)
          replace hb := hb.trans (hd.mono hb.size)
          replace e0 := cell_kept e0 hd
          replace e1 := cell_kept e1 hd
          replace e2 := cell_kept e2 hd
          replace e3 := cell_kept e3 hd
          clear hd
          obtain ⟨p0, p1, p2, p3⟩ := row_std O1.out
          have f1 := O1.out.frozenAt 1
          have HS := Lib.hid (still_of (l26Points_any rs[k].sb rs[k].sa wr.drew))
          obtain ⟨l0, l1⟩ := linePts_bd rs[k].sb rs[k].sa
          refine wp_region_still_tail 12 (by kernel_rfl) (by kernel_rfl) ?_
          simp only [List.take_succ_cons, List.take_zero, List.drop_succ_cons, List.drop_zero]
          change wpStill _ _ wr.drew (fun a' => wpList _ _ _ _ a' wr.drew) _ _
          generalize wr.drew = wd at *
          have v1 : IntKind.i64.wrap (s.points + linePts rs[k].sb rs[k].sa) = s.points + linePts rs[k].sb rs[k].sa := IntWalk.i64_in _ (by omega)
          repeat still_step
          still_call HS.out
          repeat still_step
          refine wpStill_nil ?_
          clear v1 HS
          go_wp2_with fail
          obtain ⟨o1, g1⟩ := row_set O1.out 1 (.int .i64 (s.points + linePts rs[k].sb rs[k].sa)) ⟨s.name, s.points + linePts rs[k].sb rs[k].sa, s.spread, s.games⟩ (by decide) rfl
          replace O0 := Lib.hid (O0.out.kept g1 (.inr (by simp [Value.ownBlock])))
          replace e0 := g1.cell e0 (by simp; omega)
          replace e1 := g1.cell e1 (by simp; omega)
          replace e2 := g1.cell e2 (by simp; omega)
          replace e3 := g1.cell e3 (by simp; omega)
          replace hb := hb.grown g1 hb.size (fun k hk => by simp at hk; omega)
          replace O1 := Lib.hid o1
          clear o1 g1 p0 p1 p2 p3 f1
          generalize wd.setCell ⟨w.heap.size + 1, 1, none⟩ (.int .i64 (s.points + linePts rs[k].sb rs[k].sa)) = wa at *
          have hd : Below wa.heap.size wa wa.drew := (Below.refl _ _).drew
          replace O1 := Lib.hid (own_below O1.out hd)
          replace O0 := Lib.hid (own_below O0.out hd)
          replace hb := hb.trans (hd.mono hb.size)
          replace e0 := cell_kept e0 hd
          replace e1 := cell_kept e1 hd
          replace e2 := cell_kept e2 hd
          replace e3 := cell_kept e3 hd
          clear hd
          obtain ⟨p0, p1, p2, p3⟩ := row_std O1.out
          have f2 := O1.out.frozenAt 2
          refine wp_region_still_tail 12 (by kernel_rfl) (by kernel_rfl) ?_
          simp only [List.take_succ_cons, List.take_zero, List.drop_succ_cons, List.drop_zero]
          change wpStill _ _ wa.drew (fun a' => wpList _ _ _ _ a' wa.drew) _ _
          generalize wa.drew = wb at *
          obtain ⟨o2, g2⟩ := row_set O1.out 2 (.int .i64 (s.spread + (rs[k].sb - rs[k].sa))) ⟨s.name, s.points + linePts rs[k].sb rs[k].sa, s.spread + (rs[k].sb - rs[k].sa), s.games⟩ (by decide) rfl
          obtain ⟨P0, P1, P2, P3⟩ := row_std o2
          have F3 := o2.frozenAt 3
          obtain ⟨o3, g3⟩ := row_set o2 3 (.int .i64 (s.games + 1)) (scored s rs[k].sb rs[k].sa) (by decide) (by simp [Std.enc, scored, scored_pts])
          have G := grownBy_trans g2 g3
          have E1 := G.cell e1 (by simp; omega)
          have Z0 := Lib.hid (O0.out.kept G (.inr (by simp [Value.ownBlock])))
          have ZB := hb.grown G hb.size (fun k hk => by simp at hk; omega)
          have Z1 := Lib.hid o3
          clear o2 g2 o3 g3 G P0 P1 P2
          have v1 : IntKind.i64.wrap (rs[k].sb - rs[k].sa) = rs[k].sb - rs[k].sa := IntWalk.i64_in _ (by omega)
          have v2 : IntKind.i64.wrap (s.spread + (rs[k].sb - rs[k].sa)) = s.spread + (rs[k].sb - rs[k].sa) := IntWalk.i64_in _ (by omega)
          repeat still_step
          refine wpStill_nil ?_
          clear v1 v2
          go_wp2
          go_roundw
          case rel => exact ⟨k + 1, by omega, by go_num, Z0, Lib.hid (by rw [HSUCC.out, HL.out]; exact Z1.out), ZB⟩
          case measure => simp [intOf]; omega
        | false =>
          have HL := Lib.hid (lineAdd_none (s := s) hA hB)
          go_wp2
          go_roundw
          case rel => exact ⟨k + 1, by omega, by go_num, O0, Lib.hid (by rw [HSUCC.out, HL.out]; exact O1.out), hb⟩
          case measure => simp [intOf]; omega
    · rw [List.take_of_length_le (by omega)] at O1
      have hnm := Lib.hid (lineOf_name nm rs)
      obtain ⟨s, hsl⟩ : ∃ s, lineOf nm rs = s := ⟨_, rfl⟩
      rw [hsl] at O1 hnm
      have HSL := Lib.hid hsl
      clear hsl
      obtain ⟨p0, p1, p2, p3⟩ := row_std O1.out
      obtain ⟨d0, d1, d2, d3⟩ := row_std O0.out
      have f0 := O0.out.frozenAt 0
      have f1 := O0.out.frozenAt 1
      have f2 := O0.out.frozenAt 2
      have f3 := O0.out.frozenAt 3
      obtain ⟨o1, g1⟩ := row_set O0.out 0 (.string s.name) ⟨s.name, 0, 0, 0⟩ (by decide) rfl
      obtain ⟨o2, g2⟩ := row_set o1 1 (.int .i64 s.points) ⟨s.name, s.points, 0, 0⟩ (by decide) rfl
      obtain ⟨o3, g3⟩ := row_set o2 2 (.int .i64 s.spread) ⟨s.name, s.points, s.spread, 0⟩ (by decide) rfl
      obtain ⟨o4, g4⟩ := row_set o3 3 (.int .i64 s.games) s (by decide) rfl
      have ZB := hb.grown (grownBy_trans g1 (grownBy_trans g2 (grownBy_trans g3 g4))) hb.size (fun k hk => by simp at hk; omega)
      obtain ⟨r0, r1, r2, r3⟩ := row_std o4
      clear o1 o2 o3 o4 g1 g2 g3 g4
      go_wp2
      refine bodyPost_ret (v := .agg #[.string s.name, .int .i64 s.points, .int .i64 s.spread, .int .i64 s.games]) (by simp only [Nat.zero_add] at r0 r1 r2 r3; simp [results, Try.results123, go_sem, r0, r1, r2, r3]) rfl ?_
      refine ⟨?_, ZB⟩
      rw [HSL.out, hnm.out]
end Go.Proofs.Ytpodkgfapbcmlaa
