/- Contracts of the small functions of a table: points of a result, which line stands ahead, a score added, the program's less. -/
import Derived.Test.YtpodkgfapbcmlaaStP
import Derived.Test.YtpodkgfapbcmlaaBoxC
import Derived.StillTailTactics
import Derived.IntWalk
namespace Go.Proofs.Ytpodkgfapbcmlaa
open Go.ChangeShapes Go.WideShapes Go.ChangeAt Go.RowKit Go.Sort

theorem l26Points_any (x y : Int) (w : World) : Calls Try.prog 144 #[.int .i64 x, .int .i64 y] w fun e w' => e = .returned (.int .i64 (linePts x y)) ∧ w = w' := by
  go_enter Try.func144, Try.ntmps144
  go_wp2
  all_goals
    go_ret
    exact ⟨ret_int (by unfold linePts; simp_all; try omega), rfl⟩
/-- a contract that leaves the world alone, as the walk of still operations wants it -/
theorem still_of {P : Program} {f : FuncId} {args : Array Value} {w : World} {r : Ending} (h : Calls P f args w fun e w' => e = r ∧ w = w') : Calls P f args w fun e w' => e = r ∧ w' = w := h.mono fun _ _ ⟨h1, h2⟩ => ⟨h1, h2.symm⟩
/-- a line lies in memory -/
def StdAt (w : World) (b o : Nat) (s : Std) : Prop :=
  w.cell? ⟨b, o, none⟩ = some (.string s.name) ∧ w.cell? ⟨b, o + 1, none⟩ = some (.int .i64 s.points) ∧ w.cell? ⟨b, o + 2, none⟩ = some (.int .i64 s.spread) ∧ w.cell? ⟨b, o + 3, none⟩ = some (.int .i64 s.games)
theorem stdAt_of {w : World} {b o : Nat} {xs : List Std} (h : CellsAt w 4 Std.enc b o xs) {k : Nat} (hk : k < xs.length) : StdAt w b (o + k * 4) xs[k] :=
  ⟨h.at0 hk rfl, h k hk 1 _ rfl, h k hk 2 _ rfl, h k hk 3 _ rfl⟩
theorem StdAt.kept {w w' : World} {b o : Nat} {s : Std} (h : StdAt w b o s) (hb : Below w.heap.size w w') : StdAt w' b o s :=
  ⟨cell_kept h.1 hb, cell_kept h.2.1 hb, cell_kept h.2.2.1 hb, cell_kept h.2.2.2 hb⟩
set_option maxHeartbeats 1000000 in
theorem l26Before_any (x y : Std) (b o c p : Nat) (w : World) (hx : StdAt w b o x) (hy : StdAt w c p y) :
    Calls Try.prog 124 #[.pointer (some ⟨b, o, none⟩), .pointer (some ⟨c, p, none⟩)] w fun e w' => e = .returned (.bool (stdBefore x y)) ∧ Drew w w' := by
  obtain ⟨x0, x1, x2, x3⟩ := hx
  obtain ⟨y0, y1, y2, y3⟩ := hy
  clear x3 y3
  cases h1 : ((x.points : Int) != y.points) with
  | true =>
    have HR : Hid (stdBefore x y = decide (y.points < x.points)) := Lib.hid (by unfold stdBefore; rw [if_pos (by simpa using h1)])
    go_enter Try.func124, Try.ntmps124
    go_wp2
    go_quiet (fail)
    go_wp2
    go_quiet (fail)
    go_wp2
    go_ret
    exact ⟨ret_bool HR.out.symm, ((Drew.refl _).drewN _).drewN _⟩
  | false =>
    cases h2 : ((x.spread : Int) != y.spread) with
    | true =>
      have HR : Hid (stdBefore x y = decide (y.spread < x.spread)) := Lib.hid (by unfold stdBefore; rw [if_neg (by simpa using h1), if_pos (by simpa using h2)])
      go_enter Try.func124, Try.ntmps124
      go_wp2
      go_quiet (fail)
      go_wp2
      go_quiet (fail)
      go_wp2
      go_quiet (fail)
      go_wp2
      go_ret
      exact ⟨ret_bool HR.out.symm, (((Drew.refl _).drewN _).drewN _).drewN _⟩
    | false =>
      have HR : Hid (stdBefore x y = Op.bytesLess x.name.toList y.name.toList) := Lib.hid (by unfold stdBefore; rw [if_neg (by simpa using h1), if_neg (by simpa using h2)])
      go_enter Try.func124, Try.ntmps124
      go_wp2
      go_quiet (fail)
      go_wp2
      go_quiet (fail)
      go_wp2
      go_quiet (fail)
      go_wp2
      go_ret
      exact ⟨ret_bool HR.out.symm, (((Drew.refl _).drewN _).drewN _).drewN _⟩

theorem std_set {L : List Std} {i : Nat} (hi : i < L.length) (j : Nat) (hj : j < 4) (v : Value) (y : Std) (hy : Std.enc y = (Std.enc L[i]).set j v) : (L.flatMap Std.enc).set (i * 4 + j) v = (L.set i y).flatMap Std.enc :=
  flatMap_set Std.enc_len L hi hj v y hy
set_option maxRecDepth 100000 in
set_option maxHeartbeats 2000000 in
theorem score_any (L : List Std) (i n blk cap base : Nat) (x y : Int) (w : World) (hi : i < L.length) (hn : n = L.length) (ho : w.ownsRow base 74 4 (.slice (some ⟨blk, 0, none⟩) n cap) n (L.flatMap Std.enc))
    (hx0 : -2000 ≤ x) (hx1 : x ≤ 2000) (hy0 : -2000 ≤ y) (hy1 : y ≤ 2000) (hp0 : 0 ≤ L[i].points) (hp1 : L[i].points ≤ 1000000) (hs0 : -100000000 ≤ L[i].spread) (hs1 : L[i].spread ≤ 100000000) (hg0 : 0 ≤ L[i].games) (hg1 : L[i].games ≤ 1000000) :
    Calls Try.prog 121 #[.pointer (some ⟨blk, i * 4, none⟩), .int .i64 x, .int .i64 y] w fun e w' => e = .returned (.tuple #[]) ∧
      w'.ownsRow base 74 4 (.slice (some ⟨blk, 0, none⟩) n cap) n ((L.set i (scored L[i] x y)).flatMap Std.enc) ∧ w.grownBy w' (some blk) := by
  have hd : Below w.heap.size w w.drew := (Below.refl _ _).drew
  have hg := grown_of_below (row := some blk) hd
  have ho0 := own_below ho hd
  have hsg := signI_cases (x - y)
  have b1 : -1 ≤ signI (x - y) ∧ signI (x - y) ≤ 1 := by omega
  obtain ⟨b10, b11⟩ := b1
  clear hsg
  have p1 := own_cells Std.enc_len ho0 hn hi (j := 1) (v := .int .i64 L[i].points) rfl
  have f1 := ho0.frozenAt (i * 4 + 1)
  obtain ⟨ho1, hg1⟩ := ho0.stored (i * 4 + 1) (.int .i64 (L[i].points + (1 + signI (x - y))))
  rw [std_set hi 1 (by decide) _ ⟨L[i].name, L[i].points + (1 + signI (x - y)), L[i].spread, L[i].games⟩ rfl] at ho1
  have hi1 : i < (L.set i ⟨L[i].name, L[i].points + (1 + signI (x - y)), L[i].spread, L[i].games⟩).length := by simpa using hi
  have e1 : (L.set i ⟨L[i].name, L[i].points + (1 + signI (x - y)), L[i].spread, L[i].games⟩)[i] = ⟨L[i].name, L[i].points + (1 + signI (x - y)), L[i].spread, L[i].games⟩ := List.getElem_set_self _
  have p2 := own_cells Std.enc_len ho1 (by simpa using hn) hi1 (j := 2) (v := .int .i64 L[i].spread) (by rw [e1]; rfl)
  have f2 := ho1.frozenAt (i * 4 + 2)
  obtain ⟨ho2, hg2⟩ := ho1.stored (i * 4 + 2) (.int .i64 (L[i].spread + (x - y)))
  rw [std_set hi1 2 (by decide) _ ⟨L[i].name, L[i].points + (1 + signI (x - y)), L[i].spread + (x - y), L[i].games⟩ (by rw [e1]; rfl), List.set_set] at ho2
  have hi2 : i < (L.set i ⟨L[i].name, L[i].points + (1 + signI (x - y)), L[i].spread + (x - y), L[i].games⟩).length := by simpa using hi
  have e2 : (L.set i ⟨L[i].name, L[i].points + (1 + signI (x - y)), L[i].spread + (x - y), L[i].games⟩)[i] = ⟨L[i].name, L[i].points + (1 + signI (x - y)), L[i].spread + (x - y), L[i].games⟩ := List.getElem_set_self _
  have p3 := own_cells Std.enc_len ho2 (by simpa using hn) hi2 (j := 3) (v := .int .i64 L[i].games) (by rw [e2]; rfl)
  have f3 := ho2.frozenAt (i * 4 + 3)
  obtain ⟨ho3, hg3⟩ := ho2.stored (i * 4 + 3) (.int .i64 (L[i].games + 1))
  rw [std_set hi2 3 (by decide) _ (scored L[i] x y) (by rw [e2]; rfl), List.set_set] at ho3
  have HO := Lib.hid ho3
  have HG := Lib.hid (grownBy_trans hg (grownBy_trans hg1 (grownBy_trans hg2 hg3)))
  clear ho ho0 ho1 ho2 ho3 hg hg1 hg2 hg3 e1 e2 hi1 hi2 hd hn
  have hsn := still_of (sign_any (x - y) w.drew)
  have HS := Lib.hid hsn
  clear hsn
  generalize signI (x - y) = sg at *
  go_enter Try.func121, Try.ntmps121
  go_wp2
  refine wp_region_still_tail 10 (by kernel_rfl) (by kernel_rfl) ?_
  simp only [List.take_succ_cons, List.take_zero, List.drop_succ_cons, List.drop_zero]
  change wpStill _ _ w.drew (fun a' => wpList _ _ _ _ a' w.drew) _ _
  generalize w.drew = wd at *
  have w1 : IntKind.i64.wrap (x - y) = x - y := IntWalk.i64_in _ (by omega)
  have w2 : IntKind.i64.wrap (1 + sg) = 1 + sg := IntWalk.i64_in _ (by omega)
  have w3 : IntKind.i64.wrap (L[i].points + (1 + sg)) = L[i].points + (1 + sg) := IntWalk.i64_in _ (by omega)
  repeat still_step
  still_call HS.out
  repeat still_step
  refine wpStill_nil ?_
  clear w1 w2 w3
  go_wp2
  go_end0
  exact ⟨rfl, HO.out, HG.out⟩

set_option maxHeartbeats 4000000 in
theorem stdLess_any (ys : List Std) (i j Bs blk cap : Nat) (hi : i < ys.length) (hj : j < ys.length) (W : World) (hs : W.cell? ⟨Bs, 0, none⟩ = some (.slice (some ⟨blk, 0, none⟩) ys.length cap)) (hc : CellsAt W 4 Std.enc blk 0 ys) :
    Calls Try.prog 122 #[.int .i64 i, .int .i64 j, .pointer (some ⟨Bs, 0, none⟩)] W fun e w' => e = .returned (.bool (stdLess ys[i] ys[j])) ∧ Below W.heap.size W w' := by
  obtain ⟨x0, x1, x2, x3⟩ := stdAt_of hc hi
  obtain ⟨y0, y1, y2, y3⟩ := stdAt_of hc hj
  rw [Nat.zero_add] at x0 x1 x2 x3 y0 y1 y2 y3
  clear hc
  have k0 := World.new_ne W _ hs
  have k1 := World.new_ne W _ x0
  have k2 := World.new_ne W _ x1
  have k3 := World.new_ne W _ x2
  have k4 := World.new_ne W _ x3
  have k5 := World.new_ne W _ y0
  have k6 := World.new_ne W _ y1
  have k7 := World.new_ne W _ y2
  have k8 := World.new_ne W _ y3
  cases h1 : decide (ys[j].points < ys[i].points) with
  | true =>
    have HR : Hid (stdLess ys[i] ys[j] = true) := Lib.hid (by unfold stdLess; rw [h1]; rfl)
    go_enter Try.func122, Try.ntmps122
    go_wp2
    go_region_held3 (fun w' => w'.cell? ⟨Bs, 0, none⟩ = some (.slice (some ⟨blk, 0, none⟩) ys.length cap) ∧ w'.cell? ⟨blk, i * 4, none⟩ = some (.string ys[i].name) ∧ w'.cell? ⟨blk, i * 4 + 1, none⟩ = some (.int .i64 ys[i].points) ∧ w'.cell? ⟨blk, i * 4 + 2, none⟩ = some (.int .i64 ys[i].spread) ∧ w'.cell? ⟨blk, i * 4 + 3, none⟩ = some (.int .i64 ys[i].games) ∧ w'.cell? ⟨blk, j * 4, none⟩ = some (.string ys[j].name) ∧ w'.cell? ⟨blk, j * 4 + 1, none⟩ = some (.int .i64 ys[j].points) ∧ w'.cell? ⟨blk, j * 4 + 2, none⟩ = some (.int .i64 ys[j].spread) ∧ w'.cell? ⟨blk, j * 4 + 3, none⟩ = some (.int .i64 ys[j].games)) (go_keep) (fail)
    all_goals
      go_wp2
      go_ret
      refine ⟨ret_bool ?_, ?_⟩
      · rw [HR.out]
      · exact (((Below.refl _ _).alloc (Nat.le_refl _) _).alloc (by simp) _).drew
  | false =>
    cases h2 : ((ys[i].points : Int) == ys[j].points) with
    | true =>
      have HR : Hid (stdLess ys[i] ys[j] = decide (ys[j].spread < ys[i].spread)) := Lib.hid (by unfold stdLess; rw [h1, h2]; rfl)
      go_enter Try.func122, Try.ntmps122
      go_wp2
      go_region_held3 (fun w' => w'.cell? ⟨Bs, 0, none⟩ = some (.slice (some ⟨blk, 0, none⟩) ys.length cap) ∧ w'.cell? ⟨blk, i * 4, none⟩ = some (.string ys[i].name) ∧ w'.cell? ⟨blk, i * 4 + 1, none⟩ = some (.int .i64 ys[i].points) ∧ w'.cell? ⟨blk, i * 4 + 2, none⟩ = some (.int .i64 ys[i].spread) ∧ w'.cell? ⟨blk, i * 4 + 3, none⟩ = some (.int .i64 ys[i].games) ∧ w'.cell? ⟨blk, j * 4, none⟩ = some (.string ys[j].name) ∧ w'.cell? ⟨blk, j * 4 + 1, none⟩ = some (.int .i64 ys[j].points) ∧ w'.cell? ⟨blk, j * 4 + 2, none⟩ = some (.int .i64 ys[j].spread) ∧ w'.cell? ⟨blk, j * 4 + 3, none⟩ = some (.int .i64 ys[j].games)) (go_keep) (fail)
      all_goals
        go_wp2
        go_ret
        refine ⟨ret_bool ?_, ?_⟩
        · rw [HR.out]
        · exact (((Below.refl _ _).alloc (Nat.le_refl _) _).alloc (by simp) _).drew
    | false =>
      have HR : Hid (stdLess ys[i] ys[j] = false) := Lib.hid (by unfold stdLess; rw [h1, h2]; rfl)
      go_enter Try.func122, Try.ntmps122
      go_wp2
      go_region_held3 (fun w' => w'.cell? ⟨Bs, 0, none⟩ = some (.slice (some ⟨blk, 0, none⟩) ys.length cap) ∧ w'.cell? ⟨blk, i * 4, none⟩ = some (.string ys[i].name) ∧ w'.cell? ⟨blk, i * 4 + 1, none⟩ = some (.int .i64 ys[i].points) ∧ w'.cell? ⟨blk, i * 4 + 2, none⟩ = some (.int .i64 ys[i].spread) ∧ w'.cell? ⟨blk, i * 4 + 3, none⟩ = some (.int .i64 ys[i].games) ∧ w'.cell? ⟨blk, j * 4, none⟩ = some (.string ys[j].name) ∧ w'.cell? ⟨blk, j * 4 + 1, none⟩ = some (.int .i64 ys[j].points) ∧ w'.cell? ⟨blk, j * 4 + 2, none⟩ = some (.int .i64 ys[j].spread) ∧ w'.cell? ⟨blk, j * 4 + 3, none⟩ = some (.int .i64 ys[j].games)) (go_keep) (fail)
      all_goals
        go_wp2
        go_ret
        refine ⟨ret_bool ?_, ?_⟩
        · rw [HR.out]
        · exact (((Below.refl _ _).alloc (Nat.le_refl _) _).alloc (by simp) _).drew
end Go.Proofs.Ytpodkgfapbcmlaa
