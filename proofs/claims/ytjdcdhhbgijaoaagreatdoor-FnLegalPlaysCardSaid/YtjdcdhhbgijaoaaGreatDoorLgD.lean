/- Contracts: a strings.Builder of the call's own: WriteByte, String. No condition but the length. · Contracts: the program's counts of tiles: counting, the pile of counts, taking, the tiles of letters. For texts of at most a hundred thousand bytes. · Contracts: the program's taking of tiles from a pile, the pile of a text of tiles, the tiles of letters. For texts of at most a hundred thousand bytes. -/
import Derived.Test.YtjdcdhhbgijaoaaGreatDoorVar
import Derived.Test.YtjdcdhhbgijaoaaGreatDoorShq
import Derived.Test.YtjdcdhhbgijaoaaGreatDoorLgA
namespace Go.Proofs.YtjdcdhhbgijaoaaGreatDoor
open Go.ChangeShapes Go.WideShapes Go.ChangeAt Go.RowKit Go.Sort Go.Shelf

def ren167 : Go.Shelf.Ren := ⟨fun | 167 => 254 | n => Tryz.lays155_ren.f n, Tryz.lays155_ren.t, Tryz.lays155_ren.g⟩
theorem lays167 : Lays.n167 Tryz.prog ren167 := { Tryz.lays155 with
  f167 := Tryz.func254.trans (congrArg some (by kernel_rfl))
  f240 := Tryz.lays155.f240.trans (congrArg some (by kernel_rfl))
  f276 := Tryz.lays155.f276.trans (congrArg some (by kernel_rfl)) }
set_option maxRecDepth 100000 in
theorem extra167 : Builder.Extra Tryz.prog ren167 := (show Builder.Extra Tryz.prog ⟨Tryz.lays155_ren.f, ren167.t, ren167.g⟩ from Tryz.Builder_Extra_155) |> fun x => { sizeBuilder := x.sizeBuilder, liesBuilder := x.liesBuilder, t5 := x.t5, a5 := x.a5, z5 := x.z5, v5 := x.v5, infoByte := x.infoByte, cellsByte := x.cellsByte, sizeByte := x.sizeByte, neB5 := x.neB5 }
theorem lays169 : Lays.n169 Tryz.prog Tryz.lays155_ren := { Tryz.lays155 with }
/-- a builder of the call's own that holds the text l -/
def IsB (B b : Nat) (l : List UInt8) (w : World) : Prop := Lib.IsBuilderF 239 5 B b (Lib.byteCells l) w
theorem atF_below {T e : TypeId} {B b : Nat} {p : Value} {bs : List Value} {W W' : World} (h : Lib.BuilderAtF T e B b p bs W) (hb : Below W.heap.size W W') : Lib.BuilderAtF T e B b p bs W' := by
  have hlt := h.lt
  obtain ⟨hB, v, h1, h2, h3⟩ := h
  exact ⟨hB, v, (hb.block b hlt).trans h1, h2.kept (row := none) (grown_of_below hb) (Classical.em _), h3⟩
theorem IsB.kept {B b : Nat} {l : List UInt8} {w w' : World} (h : IsB B b l w) (hb : Below w.heap.size w w') : IsB B b l w' :=
  h.elim (fun x => .inl (atF_below x hb)) (fun x => .inr (atF_below x hb))
theorem IsB.new (w : World) : IsB w.heap.size w.heap.size [] (w.alloc (.cells #[.pointer none, .slice none 0 0] 239)) := Lib.IsBuilderF.of (Lib.fresh_isBuilder _ _ w)
theorem builderByte_any (B b : Nat) (l : List UInt8) (c : UInt8) (w : World) (h : IsB B b l w) (hl : l.length + 1 ≤ 140737488355328) (hB : B ≤ w.heap.size) :
    Calls Tryz.prog 254 #[.pointer (some ⟨b, 0, none⟩), .int .u8 (c.toNat : Int)] w fun e w' => e = .returned .nilIface ∧ IsB B b (l ++ [c]) w' ∧ Below B w w' := by
  refine (Any.Builder_WriteByte_k lays167 extra167 B b (Lib.byteCells l) (c.toNat : Int) w h (by simpa [Lib.byteCells] using hl) hB).mono ?_
  rintro e w' ⟨he, h1, h2, h3⟩
  refine ⟨he, .inr ?_, h2⟩
  rw [Lib.byteCells_append]
  exact h1
theorem builderString_any (B b : Nat) (l : List UInt8) (w : World) (h : IsB B b l w) (hB : B ≤ w.heap.size) :
    Calls Tryz.prog 256 #[.pointer (some ⟨b, 0, none⟩)] w fun e w' => e = .returned (.string (mkB l)) ∧ Below B w w' := by
  refine (Any.Builder_String_any_k lays169 Tryz.Builder_Extra_155 B b l w h hB).mono ?_
  rintro e w' ⟨he, _, h2, _⟩
  exact ⟨he, h2⟩
end Go.Proofs.YtjdcdhhbgijaoaaGreatDoor

namespace Go.Proofs.YtjdcdhhbgijaoaaGreatDoor
open Go.ChangeShapes Go.WideShapes Go.ChangeAt Go.RowKit Go.Sort

/-- the value of an array of counts -/
def ctsV (f : Nat → Int) : Value := .agg (cellsN f).toArray

theorem size_counts (f : Nat → Int) : (Tryz.prog.info? 201).map (·.size) = some (cellsN f).length := by
  rw [cellsN_len]; kernel_rfl
theorem index_counts (f : Nat → Int) {k : Nat} (h : k < 27) (w : World) : (Instr.index 201 (ctsV f) (.int .i64 (k : Int))).run Tryz.prog w = .ok (.int .i64 (f k)) w := by
  have h2 : (isAgg 3).run Tryz.prog w = .ok false w := by
    unfold isAgg
    rw [Sem.run_bind, run_underlying Tryz.underlying3 w]
    simp
  have h3 : (sizeOf 3).run Tryz.prog w = .ok 1 w := by
    have : (Tryz.prog.info? 3).map (·.size) = some 1 := by kernel_rfl
    cases hq : Tryz.prog.info? 3 with
    | none => simp [hq] at this
    | some i => simp [sizeOf, typeInfo, hq] at this ⊢; exact this
  unfold ctsV
  simp [Instr.index, Sem.run_bind, run_underlying Tryz.underlying201 w, asIntOf, part, h2, h3, Result.andThen]
  rw [if_pos h, cellsN_get f h]
  rfl
/-- a new array of counts -/
abbrev cts0 : Obj := .cells #[.int .i64 0, .int .i64 0, .int .i64 0, .int .i64 0, .int .i64 0, .int .i64 0, .int .i64 0, .int .i64 0, .int .i64 0, .int .i64 0, .int .i64 0, .int .i64 0, .int .i64 0, .int .i64 0, .int .i64 0, .int .i64 0, .int .i64 0, .int .i64 0, .int .i64 0, .int .i64 0, .int .i64 0, .int .i64 0, .int .i64 0, .int .i64 0, .int .i64 0, .int .i64 0, .int .i64 0] 201
theorem VarAt.counts0 (w : World) : VarAt (w.alloc cts0) w.heap.size 201 (cellsN fun _ => 0) := by
  rw [cellsN_zero]
  exact VarAt.new w 201 _
theorem VarAt.countSet {w : World} {g : Nat} {t : TypeId} {f h : Nat → Int} (hv : VarAt w g t (cellsN f)) {k : Nat} (hk : k < 27) (v : Int) (hh : ∀ j, j < 27 → h j = if j = k then v else f j) :
    VarAt (w.setCell ⟨g, k, none⟩ (.int .i64 v)) g t (cellsN h) ∧ w.grownBy (w.setCell ⟨g, k, none⟩ (.int .i64 v)) (some g) := by
  obtain ⟨h1, h2⟩ := hv.set k (.int .i64 v)
  refine ⟨?_, h2⟩
  rw [cellsN_set f hk] at h1
  exact h1.as (cellsN_congr fun j hj => (hh j hj).symm)
theorem cnt_step {l : List UInt8} {c : UInt8} {k : Nat} (hk : k < 27) (hc : c = tileC k) : ∀ j, j < 27 → cntI (l ++ [c]) j = if j = k then cntI l k + 1 else cntI l j := by
  intro j hj
  unfold cntI
  rw [cntT_snoc]
  by_cases e : j = k
  · subst e
    rw [if_pos rfl, if_pos hc]
    omega
  · rw [if_neg e, if_neg (fun x => e (tileC_inj hj hk (by rw [← hc, ← x]))), Nat.add_zero]
set_option maxRecDepth 100000 in
set_option maxHeartbeats 4000000 in
theorem countsOf_any (s : ByteArray) (w : World) (hs : s.size ≤ 100000) (ht : s.data.toList.all tileB = true) :
    Calls Tryz.prog 211 #[.string s] w fun e w' => e = .returned (ctsV (cntI s.data.toList)) ∧ Below w.heap.size w w' := by
  have V0 := Lib.hid ((VarAt.counts0 w).kept ((Below.refl _ _).alloc (Nat.le_refl _) cts0))
  have V1 := Lib.hid (VarAt.counts0 (w.alloc cts0))
  simp only [World.size_alloc] at V1
  have hb : Below w.heap.size w ((w.alloc cts0).alloc cts0) := ((Below.refl _ _).alloc (Nat.le_refl _) _).alloc (by simp) _
  have HT : Hid (∀ k (h : k < s.size), ∃ t : Nat, t < 27 ∧ plI s[k] = t ∧ s[k] = tileC t) := Lib.hid (fun k h => by
    refine tile_num ((List.all_eq_true.1 ht) _ ?_)
    rw [← bytes_get s k h]
    exact List.getElem_mem _)
  have HTK : Hid (∀ k (h : k < s.size), s.data.toList.take (k + 1) = s.data.toList.take k ++ [s[k]]) := Lib.hid (fun k h => List.take_succ_eq_append_getElem (by simpa using h))
  clear ht
  go_enter Tryz.func211, Tryz.ntmps211
  go_upto_region 3 with fail
  generalize (w.alloc cts0).alloc cts0 = w1 at *
  go_loopw [4] (fun iv wr => ∃ k : Nat, k ≤ s.size ∧ iv = .int .i64 k ∧ Hid (VarAt wr (w.heap.size + 1) 201 (cellsN (cntI (s.data.toList.take k)))) ∧ Hid (VarAt wr w.heap.size 201 (cellsN fun _ => 0)) ∧ Below w.heap.size w wr) (fun iv _ => s.size - (intOf iv).toNat)
  case atStart => exact ⟨0, Nat.zero_le _, rfl, V1, V0, hb⟩
  case round =>
    clear V0 V1 hb
    obtain ⟨k, hk, rfl, V1, V0, hb⟩ := hrel
    by_cases hlt : k < s.size
    · obtain ⟨t, ht, hp, hc⟩ := HT.out k hlt
      have HC := Lib.hid (HTK.out k hlt)
      have HS := Lib.hid (cnt_step (l := s.data.toList.take k) ht hc)
      have hle : cntI (s.data.toList.take k) t ≤ 100000 := by
        have h1 := cntT_le (s.data.toList.take k) t
        have h2 : (s.data.toList.take k).length ≤ s.size := by simp; omega
        unfold cntI
        omega
      have hge : 0 ≤ cntI (s.data.toList.take k) t := by unfold cntI; omega
      have c0 := V1.out.cell (cellsN_get _ ht)
      have f0 := V1.out.free t
      rw [← HC.out] at HS
      obtain ⟨o0, k0⟩ := V1.out.countSet ht _ HS.out
      have VN := Lib.hid o0
      have VZ := Lib.hid (V0.out.grown k0 (by simp))
      have hbn := hb.grown k0 hb.size (fun q h => by cases h; omega)
      clear o0 k0 hc V1 V0 hb HC HS
      generalize cntI (s.data.toList.take k) t = n at *
      have wr1 : IntKind.i64.wrap (n + 1) = n + 1 := IntWalk.i64_in _ (by omega)
      go_wp2_with fail
      refine (place_any _ _).mono ?_
      rintro e w' ⟨rfl, rfl⟩
      rw [hp]
      clear hp
      go_wp2
      go_roundw
      case rel => exact ⟨k + 1, by omega, by go_num, VN, VZ, hbn⟩
      case measure => simp [intOf]; omega
    · obtain rfl : k = s.size := by omega
      have hall : s.data.toList.take s.size = s.data.toList := List.take_of_length_le (by simp)
      rw [hall] at V1
      clear hall
      generalize hF : cntI s.data.toList = F at *
      have HF := Lib.hid hF
      clear hF
      obtain ⟨o0, k0⟩ := V0.out.put (cellsN F) (by rw [cellsN_len, cellsN_len])
      have rA := V1.out.range
      have tR := V0.out.there (n := (cellsN F).length) (by rw [cellsN_len, cellsN_len])
      have rZ := o0.range
      have hb2 := hb.grown k0 hb.size (fun q h => by cases h; exact Nat.le_refl _)
      clear o0 k0 V0 V1 hb
      go_upto_region 6 with fail
      refine wp_region_list ?_
      refine wpList_load_mid rfl 201 _ rfl (w.heap.size + 1) 0 rfl (cellsN F) _ rA Tryz.underlying201 rfl (size_counts F) ?_
      refine wpList_store_mid rfl 201 _ _ rfl w.heap.size 0 (cellsN F).toArray rfl rfl tR (size_counts F) (all_oneCell_toArray (cellsN_one F)) ?_
      clear rA tR
      change wpList _ _ _ _ _ (wr.setCells w.heap.size 0 (cellsN F))
      generalize wr.setCells w.heap.size 0 (cellsN F) = wZ at *
      have hV : (loadVar 201 ⟨w.heap.size, 0, none⟩).run Tryz.prog wZ = .ok (ctsV F) wZ := run_loadVar_mid wZ _ 0 201 (cellsN F) _ rZ Tryz.underlying201 rfl (size_counts F)
      have HV := Lib.hid hV
      clear rZ hV
      go_wp2
      refine bodyPost_ret (results_cell_var Tryz.results211 _ _ _ _ rfl HV.out) rfl ?_
      exact ⟨by rw [HF.out], hb2⟩
/-! ### The pile of counts -/
set_option maxRecDepth 100000 in
set_option maxHeartbeats 4000000 in
theorem pile_any (f : Nat → Int) (w : World) (hf : ∀ k, f k ≤ 100000) (hf0 : ∀ k, k < 27 → 0 ≤ f k) :
    Calls Tryz.prog 209 #[.agg (cellsN f).toArray] w (StrPost w (pileL f 27)) := by
  have hb0 : Below w.heap.size w (w.alloc (.cells (cellsN f).toArray 201)) := (Below.refl _ _).alloc (Nat.le_refl _) _
  have VF := Lib.hid (VarAt.new w 201 (cellsN f))
  have hz0 : w.heap.size < (w.alloc (.cells (cellsN f).toArray 201)).heap.size := by simp
  have HIX : Hid (∀ (k : Nat) (h : k < 27) (W : World), (Instr.index 201 (.agg (cellsN f).toArray) (.int .i64 (k : Int))).run Tryz.prog W = .ok (.int .i64 (f k)) W) := Lib.hid (fun k h W => index_counts f h W)
  have HF := Lib.hid hf
  have HF0 := Lib.hid hf0
  have HLN : Hid (∀ k, k ≤ 27 → (pileL f k).length ≤ 2700000) := Lib.hid (fun k h => Nat.le_trans (pile_len f 100000 (fun j => by have := hf j; omega) k) (by omega))
  have HSU := Lib.hid (pileL_succ f)
  have HZ : Hid (pileL f 0 = []) := Lib.hid (pileL_zero f)
  have HSZ := Lib.hid (size_counts f)
  clear hf hf0
  generalize hL : pileL f = L at *
  have HLQ := Lib.hid hL
  clear hL
  generalize hcs : cellsN f = cs at *
  clear hcs
  go_enter Tryz.func209, Tryz.ntmps209
  go_upto_region 1 with fail
  generalize w.alloc (.cells cs.toArray 201) = w1 at *
  have HB := Lib.hid (IsB.new w1)
  have hd1 : Below w1.heap.size w1 (w1.alloc (.cells #[.pointer none, .slice none 0 0] 239)) := (Below.refl _ _).alloc (Nat.le_refl _) _
  replace VF := Lib.hid (VF.out.kept hd1)
  have hb := hb0.trans (hd1.mono hb0.size)
  have hB2 : w1.heap.size ≤ (w1.alloc (.cells #[.pointer none, .slice none 0 0] 239)).heap.size := hd1.size
  clear hd1 hb0
  go_upto_region 2 with fail
  generalize w1.alloc (.cells #[.pointer none, .slice none 0 0] 239) = w2 at *
  generalize w1.heap.size = B at *
  have rA := VF.out.range
  refine wp_region_list ?_
  refine wpList_load_mid rfl 201 _ rfl w.heap.size 0 rfl cs _ rA Tryz.underlying201 rfl HSZ.out ?_
  clear rA VF HSZ
  go_upto_region 3 with fail
  go_loopw [4, 5, 7] (fun kv nv iv wr => ∃ i : Nat, i ≤ 27 ∧ iv = .int .i64 i ∧ Hid (IsB B B (L i) wr) ∧ B ≤ wr.heap.size ∧ Below w.heap.size w wr) (fun _ _ iv _ => 27 - (intOf iv).toNat)
  case atStart => exact ⟨0, Nat.zero_le _, rfl, Lib.hid (by rw [HZ.out]; exact HB.out), hB2, hb⟩
  case round =>
    clear HB hb hB2 HZ
    obtain ⟨i, hi, rfl, HB, hB, hb⟩ := hrel
    by_cases hlt : i < 27
    · have HI := Lib.hid (HIX.out i hlt)
      have hix := HI.out
      have HS := Lib.hid (HSU.out i)
      have hf1 := HF.out i
      have hf0 := HF0.out i hlt
      have hl1 := HLN.out i (by omega)
      have hli : (i : Int) < 27 := by omega
      go_upto_region 5 with fail
      clear hix
      obtain ⟨N, hN⟩ : ∃ N : Nat, f i = (N : Int) := ⟨(f i).toNat, by omega⟩
      rw [hN] at HS hf1 hf0
      rw [Int.toNat_natCast] at HS
      rw [hN]
      clear hN HI hf0
      have HTC : Hid (∀ W, Calls Tryz.prog 255 #[.int .i64 (i : Int)] W fun e w' => e = .returned (.int .u8 ((tileC i).toNat : Int)) ∧ W = w') := Lib.hid (fun W => tileAt_any i hlt W)
      generalize tileC i = c at *
      have hN1 : N ≤ 100000 := by omega
      have HB2 : Hid (IsB B B (L i ++ List.replicate (N - N) c) wr) := Lib.hid (by rw [Nat.sub_self, List.replicate_zero, List.append_nil]; exact HB.out)
      clear HB hf1
      go_loopw [5] (fun nv wv => ∃ d : Nat, d ≤ N ∧ nv = .int .i64 (d : Int) ∧ Hid (IsB B B (L i ++ List.replicate (N - d) c) wv) ∧ B ≤ wv.heap.size ∧ Below w.heap.size w wv) (fun nv _ => (intOf nv).toNat)
      case atStart => exact ⟨N, Nat.le_refl _, rfl, HB2, hB, hb⟩
      case round =>
        clear HB2 hB hb
        obtain ⟨d, hd, rfl, HB, hB, hb⟩ := hrel
        by_cases h0 : 0 < d
        · have hll : (L i ++ List.replicate (N - d) c).length + 1 ≤ 140737488355328 := by rw [List.length_append, List.length_replicate]; omega
          have HRS : Hid (L i ++ List.replicate (N - (d - 1)) c = (L i ++ List.replicate (N - d) c) ++ [c]) := Lib.hid (by
            rw [show N - (d - 1) = (N - d) + 1 from by omega, rep_snoc, List.append_assoc])
          generalize L i ++ List.replicate (N - d) c = R at *
          go_wp2_with fail
          refine (HTC.out _).mono ?_
          rintro e w3 ⟨rfl, rfl⟩
          go_wp2_with fail
          refine (builderByte_any B B R c _ HB.out hll hB).mono ?_
          rintro e w3 ⟨rfl, hB3, hd3⟩
          have HB3 := Lib.hid hB3
          have hb3 := hb.trans (hd3.mono (by omega))
          have hB4 : B ≤ w3.heap.size := Nat.le_trans hB hd3.size
          clear hB3 hd3 HB hb hll
          go_wp2
          go_roundw
          case rel => exact ⟨d - 1, by omega, by go_num, by rw [HRS.out]; exact HB3, hB4, hb3⟩
          case measure => simp [intOf]; omega
        · obtain rfl : d = 0 := by omega
          have HB3 : Hid (IsB B B (L (i + 1)) wr) := Lib.hid (by rw [HS.out]; exact HB.out)
          clear HB HS
          go_wp2
          go_roundw
          case rel => exact ⟨i + 1, by omega, by go_num, HB3, hB, hb⟩
          case measure => simp [intOf]; omega
    · obtain rfl : i = 27 := by omega
      go_wp2_with fail
      refine (builderString_any B B (L 27) _ HB.out hB).mono ?_
      rintro e w3 ⟨rfl, hd⟩
      replace hb := hb.trans (hd.mono (by omega))
      clear HB hd
      go_wp2
      go_ret
      exact ⟨rfl, hb⟩
/-! ### Taking tiles away -/
theorem wpList_built {P : Program} {ops : Array Oper} {rest : List Oper} {o : Oper} {a : Act} {w : World} {Q : Exit → Act → World → Prop} (hg : o.guard = none) (t : TypeId) (ho : o.op = .build t #[]) (cells : Array Value)
    (hc : P.built t [] = some cells) (h : wpList P ops Q rest (a.put o.dst (.agg cells)) w) : wpList P ops Q (o :: rest) a w := by
  refine wpList_build hg t #[] ho (by simp [hc]) ?_
  simpa [hc] using h
theorem built_counts : Tryz.prog.built 201 [] = some (cellsN fun _ => 0).toArray := by rw [cellsN_zero]; kernel_rfl
/-- whether counts contain others -/
def lessOk (f g : Nat → Int) : Bool := (List.range 27).all fun k => decide (0 ≤ f k - g k)
def lessF (f g : Nat → Int) : Nat → Int := if lessOk f g then fun k => f k - g k else fun _ => 0
def mixF (f g : Nat → Int) (i : Nat) : Nat → Int := fun k => if k < i then f k - g k else f k
theorem cts_no {f g : Nat → Int} {k : Nat} (hk : k < 27) (h : f k - g k < 0) : lessOk f g = false := by
  rw [← Bool.not_eq_true]
  intro e
  have := of_decide_eq_true ((List.all_eq_true.1 e) k (List.mem_range.2 hk))
  omega
theorem cts_yes {f g : Nat → Int} {i : Nat} (hi : 27 ≤ i) (h : ∀ k, k < i → 0 ≤ f k - g k) : lessOk f g = true :=
  List.all_eq_true.2 fun k hk => decide_eq_true (h k (by have := List.mem_range.1 hk; omega))
theorem mix_step (f g : Nat → Int) (i : Nat) : ∀ j, j < 27 → mixF f g (i + 1) j = if j = i then f i - g i else mixF f g i j := by
  intro j _
  unfold mixF
  by_cases e : j = i
  · subst e
    rw [if_pos rfl, if_pos (by omega)]
  · rw [if_neg e]
    by_cases h : j < i
    · rw [if_pos h, if_pos (by omega)]
    · rw [if_neg h, if_neg (by omega)]
/-- counts and whether they are -/
def LessPost (f g : Nat → Int) (w : World) (e : Ending) (w' : World) : Prop :=
  e = .returned (.tuple #[.agg (cellsN (lessF f g)).toArray, .bool (lessOk f g)]) ∧ Below w.heap.size w w'
set_option maxRecDepth 100000 in
set_option maxHeartbeats 8000000 in
theorem less_any (f g : Nat → Int) (w : World) (hf : ∀ k, k < 27 → 0 ≤ f k ∧ f k ≤ 100000) (hg : ∀ k, k < 27 → 0 ≤ g k ∧ g k ≤ 100000) :
    Calls Tryz.prog 236 #[.agg (cellsN f).toArray, .agg (cellsN g).toArray] w (LessPost f g w) := by
  obtain ⟨w3, hw3⟩ : ∃ w3, w3 = ((w.alloc (.cells (cellsN f).toArray 201)).alloc (.cells (cellsN g).toArray 201)).alloc cts0 := ⟨_, rfl⟩
  have hb : Below w.heap.size w w3 := by rw [hw3]; exact (((Below.refl _ _).alloc (Nat.le_refl _) _).alloc (by simp) _).alloc (by simp; omega) _
  have VC : Hid (VarAt w3 w.heap.size 201 (cellsN f)) := by
    rw [hw3]
    exact Lib.hid (((VarAt.new w 201 (cellsN f)).kept ((Below.refl _ _).alloc (Nat.le_refl _) _)).kept ((Below.refl _ _).alloc (Nat.le_refl _) _))
  have VD : Hid (VarAt w3 (w.heap.size + 1) 201 (cellsN g)) := by
    rw [hw3]
    have := (VarAt.new (w.alloc (.cells (cellsN f).toArray 201)) 201 (cellsN g)).kept ((Below.refl _ _).alloc (Nat.le_refl _) cts0)
    simp only [World.size_alloc] at this
    exact Lib.hid this
  have VR : Hid (VarAt w3 (w.heap.size + 2) 201 (cellsN fun _ => 0)) := by
    rw [hw3]
    have := VarAt.counts0 ((w.alloc (.cells (cellsN f).toArray 201)).alloc (.cells (cellsN g).toArray 201))
    simp only [World.size_alloc] at this
    exact Lib.hid this
  have hz3 : w.heap.size + 2 < w3.heap.size := by rw [hw3]; simp
  have HIX : Hid (∀ (k : Nat) (h : k < 27) (W : World), (Instr.index 201 (.agg (cellsN g).toArray) (.int .i64 (k : Int))).run Tryz.prog W = .ok (.int .i64 (g k)) W) := Lib.hid (fun k h W => index_counts g h W)
  have HF := Lib.hid hf
  have HG := Lib.hid hg
  have HSZ := Lib.hid (size_counts g)
  have HM0 : Hid (cellsN (mixF f g 0) = cellsN f) := Lib.hid (cellsN_congr fun k _ => if_neg (Nat.not_lt_zero k))
  have HW3 := Lib.hid hw3
  have VG := VD
  have HNO := Lib.hid (fun k (h1 : k < 27) (h2 : f k - g k < 0) => cts_no (f := f) (g := g) h1 h2)
  have HYE := Lib.hid (fun i (h1 : 27 ≤ i) (h2 : ∀ k, k < i → 0 ≤ f k - g k) => cts_yes (f := f) (g := g) h1 h2)
  have HST := Lib.hid (mix_step f g)
  have HMI : Hid (∀ i, mixF f g i i = f i) := Lib.hid (fun i => if_neg (Nat.lt_irrefl i))
  have HFI : Hid (lessOk f g = true → cellsN (mixF f g 27) = cellsN (lessF f g)) := Lib.hid (fun h => cellsN_congr fun k hk => by unfold mixF lessF; rw [if_pos hk, h]; rfl)
  have HF0 : Hid (lessOk f g = false → cellsN (fun _ => 0) = cellsN (lessF f g)) := Lib.hid (fun h => by unfold lessF; rw [h]; rfl)
  clear hw3 hf hg
  unfold LessPost
  generalize hlo : lessOk f g = ok at *
  clear hlo
  have HRL : Hid ((cellsN (lessF f g)).length = 27) := Lib.hid (cellsN_len _)
  have HSR := Lib.hid (size_counts (lessF f g))
  have H1C := Lib.hid (cellsN_one (lessF f g))
  generalize cellsN (lessF f g) = res at *
  generalize hgs : cellsN g = gs at *
  clear hgs
  go_enter Tryz.func236, Tryz.ntmps236
  go_upto_region 1 with fail
  rw [← HW3.out]
  clear HW3
  have rA := VD.out.range
  refine wp_region_list ?_
  refine wpList_load_mid rfl 201 _ rfl (w.heap.size + 1) 0 rfl gs _ rA Tryz.underlying201 rfl HSZ.out ?_
  clear rA VD VG HSZ
  go_upto_region 2 with fail
  go_loopw [6, 7, 9] (fun kv nv iv wr => ∃ i : Nat, i ≤ 27 ∧ iv = .int .i64 i ∧ Hid (∀ k, k < i → 0 ≤ f k - g k) ∧ Hid (VarAt wr w.heap.size 201 (cellsN (mixF f g i))) ∧ Hid (VarAt wr (w.heap.size + 2) 201 (cellsN fun _ => 0)) ∧ Below w.heap.size w wr) (fun _ _ iv _ => 27 - (intOf iv).toNat)
  case atStart => exact ⟨0, Nat.zero_le _, rfl, Lib.hid (fun k h => by omega), Lib.hid (by rw [HM0.out]; exact VC.out), VR, hb⟩
  case round =>
    clear VC VR hb HM0
    obtain ⟨i, hi, rfl, HP, VC, VR, hb⟩ := hrel
    by_cases hlt : i < 27
    · have hix := HIX.out i hlt
      have hf1 := HF.out i hlt
      have hg1 := HG.out i hlt
      have HNi := Lib.hid (HNO.out i hlt)
      have c0 := VC.out.cell (cellsN_get _ hlt)
      have f0 := VC.out.free i
      rw [HMI.out i] at c0
      obtain ⟨o0, k0⟩ := VC.out.countSet hlt (f i - g i) (HST.out i)
      have VN := Lib.hid o0
      have d0 := o0.cell (cellsN_get _ hlt)
      have VRN := Lib.hid (VR.out.grown k0 (by simp))
      have hbn := hb.grown k0 hb.size (fun q h => by cases h; omega)
      have HPN : Hid (0 ≤ f i - g i → ∀ k, k < i + 1 → 0 ≤ f k - g k) := Lib.hid (fun h k hk => by
        by_cases e : k = i
        · subst e; exact h
        · exact HP.out k (by omega))
      have hst := HST.out i i hlt
      rw [if_pos rfl] at hst
      rw [hst] at d0
      clear o0 k0 VC VR hb hst HP
      generalize f i = x at *
      generalize g i = y at *
      have wr1 : IntKind.i64.wrap (x - y) = x - y := IntWalk.i64_in _ (by omega)
      by_cases hneg : x - y < 0
      · have HN := Lib.hid (HNi.out hneg)
        have hr0 := HF0.out HN.out
        have VZ := VRN.out
        rw [hr0] at VZ
        obtain ⟨o1, k1⟩ := VZ.put res (by rfl)
        have tR := VZ.there (n := res.length) rfl
        have rZ := o1.range
        have hb2 := hbn.grown k1 hbn.size (fun q h => by cases h; omega)
        have HRE := Lib.hid hr0
        clear o1 k1 VZ VN VRN hbn HNi HPN hr0 HYE HNO HST HMI HFI HF0 HIX HF HG
        go_upto_region 6 with fail
        refine wp_region_list ?_
        refine wpList_built rfl 201 rfl res.toArray (by rw [← HRE.out]; exact built_counts) ?_
        refine wpList_store_mid rfl 201 _ _ rfl (w.heap.size + 2) 0 res.toArray rfl rfl tR HSR.out (all_oneCell_toArray H1C.out) ?_
        clear tR
        generalize wr.setCell ⟨w.heap.size, i, none⟩ (.int .i64 (x - y)) = wN at *
        change wpList _ _ _ _ _ (wN.setCells (w.heap.size + 2) 0 res)
        generalize wN.setCells (w.heap.size + 2) 0 res = wZ at *
        have hV : (loadVar 201 ⟨w.heap.size + 2, 0, none⟩).run Tryz.prog wZ = .ok (.agg res.toArray) wZ := run_loadVar_mid wZ _ 0 201 res _ rZ Tryz.underlying201 rfl HSR.out
        have HV := Lib.hid hV
        clear rZ hV
        go_wp2
        refine bodyPost_ret (results_cell_tmp_var Tryz.results236 _ _ _ _ rfl HV.out) rfl ?_
        exact ⟨by rw [HN.out]; rfl, hb2⟩
      · have HPM := Lib.hid (HPN.out (by omega))
        clear HPN HNi
        go_wp2_with fail
        go_roundw
        case rel => exact ⟨i + 1, by omega, by go_num, HPM, VN, VRN, hbn⟩
        case measure => simp [intOf]; omega
    · obtain rfl : i = 27 := by omega
      have HN := Lib.hid (HYE.out 27 (by omega) HP.out)
      have HR := Lib.hid (HFI.out HN.out)
      have VZ := VC.out
      rw [HR.out] at VZ
      obtain ⟨o0, k0⟩ := VR.out.put res (by rw [HRL.out, cellsN_len])
      have rA := VZ.range
      have tR := VR.out.there (n := res.length) (by rw [HRL.out, cellsN_len])
      have rZ := o0.range
      have hb2 := hb.grown k0 hb.size (fun q h => by cases h; omega)
      clear o0 k0 VZ VC VR hb HP HYE HNO HST HMI HFI HF0 HIX HF HG
      go_upto_region 8 with fail
      refine wp_region_list ?_
      refine wpList_load_mid rfl 201 _ rfl w.heap.size 0 rfl res _ rA Tryz.underlying201 rfl HSR.out ?_
      refine wpList_store_mid rfl 201 _ _ rfl (w.heap.size + 2) 0 res.toArray rfl rfl tR HSR.out (all_oneCell_toArray H1C.out) ?_
      clear rA tR
      change wpList _ _ _ _ _ (wr.setCells (w.heap.size + 2) 0 res)
      generalize wr.setCells (w.heap.size + 2) 0 res = wZ at *
      have hV : (loadVar 201 ⟨w.heap.size + 2, 0, none⟩).run Tryz.prog wZ = .ok (.agg res.toArray) wZ := run_loadVar_mid wZ _ 0 201 res _ rZ Tryz.underlying201 rfl HSR.out
      have HV := Lib.hid hV
      clear rZ hV
      go_wp2
      refine bodyPost_ret (results_cell_tmp_var Tryz.results236 _ _ _ _ rfl HV.out) rfl ?_
      exact ⟨by rw [HN.out]; rfl, hb2⟩
end Go.Proofs.YtjdcdhhbgijaoaaGreatDoor

namespace Go.Proofs.YtjdcdhhbgijaoaaGreatDoor
open Go.ChangeShapes Go.WideShapes Go.ChangeAt Go.RowKit Go.Sort

theorem cnt_range (l : List UInt8) (h : l.length ≤ 100000) (k : Nat) : 0 ≤ cntI l k ∧ cntI l k ≤ 100000 := by
  have := cntT_le l k
  unfold cntI
  omega
theorem less_has (a b : List UInt8) : lessOk (cntI a) (cntI b) = hasT a b := by
  rw [Bool.eq_iff_iff, has_cnt]
  unfold lessOk
  rw [List.all_eq_true]
  exact ⟨fun h k hk => of_decide_eq_true (h k (List.mem_range.2 hk)), fun h k hk => decide_eq_true (h k (List.mem_range.1 hk))⟩
theorem pile_zero : ∀ n, pileL (fun _ => 0) n = []
  | 0 => rfl
  | n + 1 => by rw [pileL_succ, pile_zero n]; rfl
theorem pile_rest (a b : List UInt8) : pileL (lessF (cntI a) (cntI b)) 27 = restL a b := by
  unfold lessF restL
  rw [less_has]
  cases hasT a b with
  | true => rfl
  | false => exact pile_zero 27
theorem lessF_range (a b : List UInt8) (h : a.length ≤ 100000) : (∀ k, lessF (cntI a) (cntI b) k ≤ 100000) ∧ ∀ k, k < 27 → 0 ≤ lessF (cntI a) (cntI b) k := by
  unfold lessF
  cases ho : lessOk (cntI a) (cntI b) with
  | false => exact ⟨fun k => by show (0 : Int) ≤ 100000; omega, fun k _ => Int.le_refl 0⟩
  | true =>
    refine ⟨fun k => ?_, fun k hk => ?_⟩
    · have h1 := cnt_range a h k
      have h2 : 0 ≤ cntI b k := by unfold cntI; omega
      show cntI a k - cntI b k ≤ 100000
      omega
    · exact has_cnt.1 (by rw [← less_has]; exact ho) k hk
set_option maxRecDepth 100000 in
set_option maxHeartbeats 4000000 in
theorem without_any (a b : ByteArray) (w : World) (hsa : a.size ≤ 100000) (hsb : b.size ≤ 100000) (hta : a.data.toList.all tileB = true) (htb : b.data.toList.all tileB = true) :
    Calls Tryz.prog 165 #[.string a, .string b] w fun e w' => e = .returned (.tuple #[.string (mkB (restL a.data.toList b.data.toList)), .bool (hasT a.data.toList b.data.toList)]) ∧ Below w.heap.size w w' := by
  have hla : a.data.toList.length ≤ 100000 := by simpa using hsa
  have hlb : b.data.toList.length ≤ 100000 := by simpa using hsb
  have HCA : Hid (∀ W, Calls Tryz.prog 211 #[.string a] W fun e w' => e = .returned (.agg (cellsN (cntI a.data.toList)).toArray) ∧ Below W.heap.size W w') := Lib.hid (fun W => countsOf_any a W hsa hta)
  have HCB : Hid (∀ W, Calls Tryz.prog 211 #[.string b] W fun e w' => e = .returned (.agg (cellsN (cntI b.data.toList)).toArray) ∧ Below W.heap.size W w') := Lib.hid (fun W => countsOf_any b W hsb htb)
  have HLS : Hid (∀ W, Calls Tryz.prog 236 #[.agg (cellsN (cntI a.data.toList)).toArray, .agg (cellsN (cntI b.data.toList)).toArray] W fun e w' => e = .returned (.tuple #[.agg (cellsN (lessF (cntI a.data.toList) (cntI b.data.toList))).toArray, .bool (hasT a.data.toList b.data.toList)]) ∧ Below W.heap.size W w') := Lib.hid (fun W => by
    have := less_any (cntI a.data.toList) (cntI b.data.toList) W (fun k _ => cnt_range _ hla k) (fun k _ => cnt_range _ hlb k)
    unfold LessPost at this
    rw [less_has] at this
    exact this)
  have HPI : Hid (∀ W, Calls Tryz.prog 209 #[.agg (cellsN (lessF (cntI a.data.toList) (cntI b.data.toList))).toArray] W (StrPost W (restL a.data.toList b.data.toList))) := Lib.hid (fun W => by
    have h := lessF_range a.data.toList b.data.toList hla
    have := pile_any (lessF (cntI a.data.toList) (cntI b.data.toList)) W h.1 h.2
    rw [pile_rest] at this
    exact this)
  have HRL : Hid ((cellsN (lessF (cntI a.data.toList) (cntI b.data.toList))).length = 27) := Lib.hid (cellsN_len _)
  have HSR := Lib.hid (size_counts (lessF (cntI a.data.toList) (cntI b.data.toList)))
  have H1C := Lib.hid (cellsN_one (lessF (cntI a.data.toList) (cntI b.data.toList)))
  clear hsa hsb hta htb hla hlb
  generalize cellsN (lessF (cntI a.data.toList) (cntI b.data.toList)) = cr at *
  generalize cellsN (cntI a.data.toList) = ca at *
  generalize cellsN (cntI b.data.toList) = cb at *
  generalize restL a.data.toList b.data.toList = rl at *
  generalize hasT a.data.toList b.data.toList = ok at *
  go_enter Tryz.func165, Tryz.ntmps165
  go_wp2_with fail
  refine (HCA.out _).mono ?_
  rintro e w2 ⟨rfl, hb⟩
  go_wp2_with fail
  refine (HCB.out _).mono ?_
  rintro e w3 ⟨rfl, hd⟩
  replace hb := hb.trans (hd.mono hb.size)
  clear hd
  go_wp2_with fail
  refine (HLS.out _).mono ?_
  rintro e w4 ⟨rfl, hd⟩
  replace hb := hb.trans (hd.mono hb.size)
  clear hd
  have V6 := VarAt.counts0 w4
  obtain ⟨o6, k6⟩ := V6.put cr (by rw [HRL.out, cellsN_len])
  have tR := V6.there (n := cr.length) (by rw [HRL.out, cellsN_len])
  have rZ := o6.range
  have hb6 := (hb.alloc hb.size cts0).grown k6 (by simp; exact Nat.le_succ_of_le hb.size) (fun q h => by cases h; exact hb.size)
  clear V6 o6 k6 hb
  go_upto_region 2 with (refine wpList_store_mid rfl 201 _ _ rfl w4.heap.size 0 cr.toArray rfl rfl tR HSR.out (all_oneCell_toArray H1C.out) ?_)
  clear tR
  change Code.wp _ _ _ _ ((w4.alloc cts0).setCells w4.heap.size 0 cr)
  generalize (w4.alloc cts0).setCells w4.heap.size 0 cr = wZ at *
  refine wp_region_list ?_
  refine wpList_load_mid rfl 201 _ rfl w4.heap.size 0 rfl cr _ rZ Tryz.underlying201 rfl HSR.out ?_
  clear rZ
  go_wp2_with fail
  refine (HPI.out _).mono ?_
  rintro e w5 ⟨rfl, hd⟩
  replace hb6 := hb6.trans (hd.mono hb6.size)
  clear hd
  go_wp2
  go_ret2
  exact ⟨rfl, hb6⟩
set_option maxRecDepth 100000 in
set_option maxHeartbeats 4000000 in
theorem tilesOf_any (s : ByteArray) (w : World) (hs : s.size ≤ 100000) (ht : s.data.toList.all (fun c => letB c.toNat) = true) :
    Calls Tryz.prog 126 #[.string s] w (StrPost w (srtL (s.data.toList.map tlC))) := by
  have V0 := Lib.hid (VarAt.counts0 w)
  have hb : Below w.heap.size w (w.alloc cts0) := (Below.refl _ _).alloc (Nat.le_refl _) _
  have hll : (s.data.toList.map tlC).length ≤ 100000 := by rw [List.length_map]; simpa using hs
  have HT : Hid (∀ k (h : k < s.size), capB (s[k].toNat : Int) = false → ∃ t : Nat, t < 27 ∧ plI s[k] = t ∧ tlC s[k] = tileC t) := Lib.hid (fun k h hc => by
    have h1 : letB (s[k].toNat : Int) = true := (List.all_eq_true.1 ht) _ (by rw [← bytes_get s k h]; exact List.getElem_mem _)
    have h2 := tile_of_let h1
    rw [tlC_not hc] at h2 ⊢
    exact tile_num h2)
  have HC : Hid (∀ k (h : k < s.size), capB (s[k].toNat : Int) = true → tlC s[k] = tileC 0) := Lib.hid (fun k h hc => UInt8.toNat_inj.1 (by have := tlC_cap hc; rw [tileC_nat (by omega), if_pos rfl]; omega))
  obtain ⟨lt, hlt⟩ : ∃ lt : Nat → List UInt8, ∀ k, lt k = (s.data.toList.take k).map tlC := ⟨_, fun _ => rfl⟩
  have HTK : Hid (∀ k (h : k < s.size), lt (k + 1) = lt k ++ [tlC s[k]]) := Lib.hid (fun k h => by rw [hlt, hlt, show s.data.toList.take (k + 1) = s.data.toList.take k ++ [s[k]] from List.take_succ_eq_append_getElem (by simpa using h), List.map_append]; rfl)
  have HLN : Hid (∀ k, (lt k).length ≤ s.size) := Lib.hid (fun k => by rw [hlt, List.length_map, List.length_take]; simp; omega)
  have HL0 : Hid (cellsN (cntI (lt 0)) = cellsN fun _ => 0) := Lib.hid (by rw [hlt]; rfl)
  have HLE : Hid (lt s.size = s.data.toList.map tlC) := Lib.hid (by rw [hlt, List.take_of_length_le (by simp)])
  have HPI : Hid (∀ W, Calls Tryz.prog 209 #[.agg (cellsN (cntI (lt s.size))).toArray] W (StrPost W (srtL (lt s.size)))) := Lib.hid (fun W => by
    rw [HLE.out]
    exact pile_any (cntI (s.data.toList.map tlC)) W (fun k => (cnt_range _ hll k).2) (fun k _ => (cnt_range _ hll k).1))
  rw [← HLE.out]
  have HSZ := Lib.hid (size_counts (cntI (lt s.size)))
  clear hlt HLE ht hll
  go_enter Tryz.func126, Tryz.ntmps126
  go_upto_region 3 with fail
  generalize w.alloc cts0 = w1 at *
  go_loopw [4] (fun iv wr => ∃ k : Nat, k ≤ s.size ∧ iv = .int .i64 k ∧ Hid (VarAt wr w.heap.size 201 (cellsN (cntI (lt k)))) ∧ Below w.heap.size w wr) (fun iv _ => s.size - (intOf iv).toNat)
  case atStart => exact ⟨0, Nat.zero_le _, rfl, Lib.hid (by rw [HL0.out]; exact V0.out), hb⟩
  case round =>
    clear V0 hb HL0
    obtain ⟨k, hk, rfl, VC, hb⟩ := hrel
    by_cases hlt : k < s.size
    · have HTi := Lib.hid (HT.out k hlt)
      have HCi := Lib.hid (HC.out k hlt)
      have HKi := Lib.hid (HTK.out k hlt)
      have hln := HLN.out k
      cases hcap : capB (s[k].toNat : Int) with
      | true =>
        have HS := Lib.hid (cnt_step (l := lt k) (c := tlC s[k]) (k := 0) (by omega) (HCi.out hcap))
        rw [← HKi.out] at HS
        have h1 := cntT_le (lt k) 0
        have hle : cntI (lt k) 0 ≤ 100000 := by unfold cntI; omega
        have hge : 0 ≤ cntI (lt k) 0 := by unfold cntI; omega
        have c0 := VC.out.cell (cellsN_get _ (show 0 < 27 by omega))
        have f0 := VC.out.free 0
        obtain ⟨o0, k0⟩ := VC.out.countSet (k := 0) (by omega) _ HS.out
        have VN := Lib.hid o0
        have hbn := hb.grown k0 hb.size (fun q h => by cases h; omega)
        clear o0 k0 VC hb HS HTi HCi HKi h1
        generalize cntI (lt k) 0 = n at *
        have wr1 : IntKind.i64.wrap (n + 1) = n + 1 := IntWalk.i64_in _ (by omega)
        go_wp2_with fail
        refine (capital_any _ _).mono ?_
        rintro e w' ⟨rfl, rfl⟩
        rw [hcap]
        clear hcap
        go_wp2
        go_roundw
        case rel => exact ⟨k + 1, by omega, by go_num, VN, hbn⟩
        case measure => simp [intOf]; omega
      | false =>
        obtain ⟨t, ht, hp, hc⟩ := HTi.out hcap
        have HS := Lib.hid (cnt_step (l := lt k) (c := tlC s[k]) ht hc)
        rw [← HKi.out] at HS
        have h1 := cntT_le (lt k) t
        have hle : cntI (lt k) t ≤ 100000 := by unfold cntI; omega
        have hge : 0 ≤ cntI (lt k) t := by unfold cntI; omega
        have c0 := VC.out.cell (cellsN_get _ ht)
        have f0 := VC.out.free t
        obtain ⟨o0, k0⟩ := VC.out.countSet ht _ HS.out
        have VN := Lib.hid o0
        have hbn := hb.grown k0 hb.size (fun q h => by cases h; omega)
        clear o0 k0 VC hb HS HTi HCi HKi h1 hc
        generalize cntI (lt k) t = n at *
        have wr1 : IntKind.i64.wrap (n + 1) = n + 1 := IntWalk.i64_in _ (by omega)
        go_wp2_with fail
        refine (capital_any _ _).mono ?_
        rintro e w' ⟨rfl, rfl⟩
        rw [hcap]
        clear hcap
        go_wp2_with fail
        refine (place_any _ _).mono ?_
        rintro e w' ⟨rfl, rfl⟩
        rw [hp]
        clear hp
        go_wp2
        go_roundw
        case rel => exact ⟨k + 1, by omega, by go_num, VN, hbn⟩
        case measure => simp [intOf]; omega
    · obtain rfl : k = s.size := by omega
      have rZ := VC.out.range
      generalize cellsN (cntI (lt s.size)) = cr at *
      generalize srtL (lt s.size) = rl at *
      clear VC
      go_upto_region 8 with fail
      refine wp_region_list ?_
      refine wpList_load_mid rfl 201 _ rfl w.heap.size 0 rfl cr _ rZ Tryz.underlying201 rfl HSZ.out ?_
      clear rZ
      go_wp2_with fail
      refine (HPI.out _).mono ?_
      rintro e w5 ⟨rfl, hd⟩
      replace hb := hb.trans (hd.mono hb.size)
      clear hd
      go_wp2
      go_ret
      exact ⟨rfl, hb⟩
end Go.Proofs.YtjdcdhhbgijaoaaGreatDoor
