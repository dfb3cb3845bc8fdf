/- The law of FnClubTexts: for every code the statement's own function answers true. Leans on the environment (the table of powers of ten, internal/bytealg's MaxLen, strconv's two errors). -/
import Derived.Test.YtlbnjdgfggiifaaGreatDoorCtE
import Derived.Test.YtlbnjdgfggiifaaGreatDoorCtS
import Derived.Test.YtlbnjdgfggiifaaGreatDoorClubD
import Derived.Test.YtlbnjdgfggiifaaGreatDoorDoH
import Derived.Laws.StructEq
import Derived.ChangeKeysEq
namespace Go.Proofs.YtlbnjdgfggiifaaGreatDoor
open Go.ChangeShapes Go.WideShapes Go.ChangeAt Go.RowKit Go.Sort

theorem f6big_ct (ca : Option Addr) (n cap : Nat) (w : World) : Calls Tryz.prog 4 #[.slice ca n cap] w fun e w' => e = .returned (.bool (decide ((4096 : Int) < n))) ∧ w = w' := by
  go_enter Tryz.func4, Tryz.ntmps4
  go_wp2
  go_ret
  exact ⟨rfl, rfl⟩
theorem CodeAt.later {w w' : World} {N : Nat} {ca : Option Addr} {bs : List Int} (h : CodeAt w N ca bs) (hb : Below w.heap.size w w') (hN : N ≤ w'.heap.size) : CodeAt w' w'.heap.size ca bs := by
  obtain ⟨c1, c2, c3, c4⟩ := h
  exact ⟨c1.kept hb, c2, c3, fun h0 cb co e => by have := c4 h0 cb co e; omega⟩
theorem specValidClub_ct (ms : List Mem) (a : Option Addr) (cap : Nat) (w : World) (hm : SliceAt w 2 Mem.enc a ms) (hl : ms.length ≤ 1048576) (hf : MemsFit ms) :
    Calls Tryz.prog 23 #[.agg #[.slice a ms.length cap]] w fun e w' => e = .returned (.bool (clubOk ms)) ∧ Below w.heap.size w w' := by
  have hb : Below w.heap.size w (w.alloc (.cells #[.slice a ms.length cap] 26)) := (Below.refl _ _).alloc (Nat.le_refl _) _
  have c0 := cell_new0 w #[.slice a ms.length cap] 26 (i := 0) (v := .slice a ms.length cap) rfl
  have HM := Lib.hid (hm.kept hb)
  clear hm
  go_enter Tryz.func23, Tryz.ntmps23
  go_wp2_with fail
  refine (l26Ok_any ms _ _ a cap _ c0 HM.out (by omega) hf).mono ?_
  rintro e w1 ⟨rfl, hd⟩
  go_wp2
  go_ret
  exact ⟨rfl, hb.trans ((hd.below _).mono hb.size)⟩
/-- a club's text and what is read back from it -/
theorem club_back (ms : List Mem) : ∃ X : List Mem, X.length ≤ 1048576 ∧ (readClub (clubText ms).data.toList).getD [] = X ∧ (clubOk ms = true → X = ms ∧ (readClub (clubText ms).data.toList).isSome = true) := by
  refine ⟨_, ?_, rfl, fun h => ?_⟩
  · cases e : readClub (clubText ms).data.toList with
    | none => exact Nat.zero_le _
    | some X =>
      have := (clubOk_tiny ((readClub_iff _ _).1 e).1).1
      show X.length ≤ _
      omega
  · rw [readClub_text h]
    exact ⟨rfl, rfl⟩
theorem club_len (l : List UInt8) : ((readClub l).getD []).length ≤ 1048576 := by
  cases e : readClub l with
  | none => exact Nat.zero_le _
  | some X =>
    have := (clubOk_tiny ((readClub_iff _ _).1 e).1).1
    show X.length ≤ _
    omega
theorem txt_ne {t : ByteArray} (he : t ≠ ⟨#[]⟩) : t.toList.isEmpty = false := txt_some he
theorem empty_is : (⟨#[]⟩ : ByteArray).toList.isEmpty = true := by rw [ByteArray.toList_eq]; rfl
theorem guard_res : Tryz.prog.eqGuardType Tryz.prog.depth 33 = false := by kernel_rfl
theorem eqF_cons {P : Program} {d : Nat} {f : Field} {fs : List Field} {xs ys : Array Value} {a b : Value} {r s : Bool} {w : World} (hn : f.name ≠ "_") (ha : (part f.type xs f.offset).run P w = .ok a w) (hb : (part f.type ys f.offset).run P w = .ok b w)
    (hr : (Op.equalIn d f.type a b).run P w = .ok r w) (hs : (Op.eqFields d xs ys fs).run P w = .ok s w) : (Op.eqFields d xs ys (f :: fs)).run P w = .ok (r && s) w := by
  simp only [Op.eqFields, Sem.run_bind, ha, hb, hr, Result.andThen_ok, hn, ne_eq, not_false_eq_true, if_true, Sem.run_ite]
  cases r
  · simp
  · simp [hs]
theorem eqF_int {d : Nat} {f : Field} {fs : List Field} {xs ys : Array Value} {a b : Int} {s : Bool} {w : World} {n : String} {o : Nat} (hf : (f.name, f.type, f.offset) = (n, 2, o)) (hn : n ≠ "_") (ha : xs[o]? = some (.int .i64 a)) (hb : ys[o]? = some (.int .i64 b))
    (hs : (Op.eqFields (d + 1) xs ys fs).run Tryz.prog w = .ok s w) : (Op.eqFields (d + 1) xs ys (f :: fs)).run Tryz.prog w = .ok ((a == b) && s) w := by
  simp only [Prod.mk.injEq] at hf
  obtain ⟨h1, h2, h3⟩ := hf
  subst h1
  refine eqF_cons hn (a := .int .i64 a) (b := .int .i64 b) ?_ ?_ ?_ hs
  · rw [h2, h3]; exact run_part_plain w (by kernel_rfl) ha
  · rw [h2, h3]; exact run_part_plain w (by kernel_rfl) hb
  · rw [h2]; exact run_equalIn_int w d _ .i64 .i64 a b Tryz.underlying2
theorem eqF_str {d : Nat} {f : Field} {fs : List Field} {xs ys : Array Value} {a b : ByteArray} {s : Bool} {w : World} {n : String} {o : Nat} (hf : (f.name, f.type, f.offset) = (n, 9, o)) (hn : n ≠ "_") (ha : xs[o]? = some (.string a)) (hb : ys[o]? = some (.string b))
    (hs : (Op.eqFields (d + 1) xs ys fs).run Tryz.prog w = .ok s w) : (Op.eqFields (d + 1) xs ys (f :: fs)).run Tryz.prog w = .ok ((a.toList == b.toList) && s) w := by
  simp only [Prod.mk.injEq] at hf
  obtain ⟨h1, h2, h3⟩ := hf
  subst h1
  refine eqF_cons hn (a := .string a) (b := .string b) ?_ ?_ ?_ hs
  · rw [h2, h3]; exact run_part_plain w (by kernel_rfl) ha
  · rw [h2, h3]; exact run_part_plain w (by kernel_rfl) hb
  · rw [h2]; exact run_equalIn_string w d _ a b Tryz.underlying9
theorem uRes : (Tryz.prog.fieldsOf 33).toList.map (fun f => (f.name, f.type, f.offset)) = [("A", 9, 0), ("B", 9, 1), ("ScoreA", 2, 2), ("ScoreB", 2, 3)] := by kernel_rfl
theorem equalIn_res (d : Nat) (r : Res) (w : World) : (Op.equalIn (d + 2) 33 (.agg #[.string r.a, .string r.b, .int .i64 r.sa, .int .i64 r.sb]) (.agg #[.string r.a, .string r.b, .int .i64 r.sa, .int .i64 r.sb])).run Tryz.prog w = .ok ((r.a.toList == r.a.toList) && ((r.b.toList == r.b.toList) && ((r.sa == r.sa) && ((r.sb == r.sb) && true)))) w := by
  have h1 : Tryz.prog.underlying 33 = some (.struct (Tryz.prog.fieldsOf 33)) := by kernel_rfl
  have h2 : Tryz.prog.stoodInHeld 33 = false := by kernel_rfl
  rw [run_equalIn_agg w (d + 1) 33 _ _ h1 h2]
  have hu := uRes
  match h : (Tryz.prog.fieldsOf 33).toList with
  | [f0, f1, f2, f3] =>
    rw [h] at hu
    simp only [List.map_cons, List.map_nil, List.cons.injEq, and_true] at hu
    obtain ⟨e0, e1, e2, e3⟩ := hu
    exact eqF_str e0 (by decide) rfl rfl (eqF_str e1 (by decide) rfl rfl (eqF_int e2 (by decide) rfl rfl (eqF_int e3 (by decide) rfl rfl rfl)))
  | [] | [_] | [_, _] | [_, _, _] | _ :: _ :: _ :: _ :: _ :: _ => rw [h] at hu; simp at hu
theorem neq_self (r : Res) (w : World) : (binOp .neq 33 (.agg #[.string r.a, .string r.b, .int .i64 r.sa, .int .i64 r.sb]) (.agg #[.string r.a, .string r.b, .int .i64 r.sa, .int .i64 r.sb])).run Tryz.prog w = .ok (.bool false) w := by
  rw [run_neq_struct, equalIn_res 9998]
  simp
set_option maxRecDepth 100000 in
set_option maxHeartbeats 16000000 in
theorem lawClubTexts_any (ca : Option Addr) (ccap : Nat) (bs : List Int) (w : World) (hs : SliceAt w 1 Byt.enc ca bs) (hbd : ∀ x ∈ bs, 0 ≤ x ∧ x ≤ 255) (hE : Env w) :
    Calls Tryz.prog 3 #[.slice ca bs.length ccap] w fun e w' => e = .returned (.bool true) ∧ Below w.heap.size w w' := by
  by_cases hbig : 4096 < bs.length
  · have hd : decide ((4096 : Int) < bs.length) = true := by rw [decide_eq_true_eq]; omega
    clear hs hbd hE
    go_enter Tryz.func3, Tryz.ntmps3
    go_wp2_with fail
    refine (f6big_ct ca bs.length ccap w).mono ?_
    rintro e w1 ⟨rfl, rfl⟩
    rw [hd]
    go_wp2
    go_ret
    exact ⟨rfl, Below.refl _ _⟩
  · have hd : decide ((4096 : Int) < bs.length) = false := by rw [decide_eq_false_iff_not]; omega
    have HC : Hid (CodeAt w w.heap.size ca bs) := Lib.hid ⟨hs, hbd, by omega, fun h0 cb co e => by
      obtain ⟨b', o', e', hc⟩ := hs.open h0
      rw [e] at e'
      simp only [Option.some.injEq, Addr.mk.injEq, and_true] at e'
      rw [e'.1]
      exact block_lt (hc.at0 h0 rfl)⟩
    have HE := Lib.hid hE
    clear hs hbd hE
    go_enter Tryz.func3, Tryz.ntmps3
    go_wp2_with fail
    refine (f6big_ct ca bs.length ccap w).mono ?_
    rintro e w1 ⟨rfl, rfl⟩
    rw [hd]
    clear hd hbig
    -- the club and its text
    go_wp2_with fail
    refine (DrawClubText_any ca ccap bs w HC.out).mono ?_
    rintro e w2 ⟨a, cap, ms, rfl, h1, h2, h3, hb⟩
    have SM := Lib.hid h1
    have HF := Lib.hid h3
    clear h1 h3
    have hd : Below w2.heap.size w2 (w2.alloc (.cells #[.slice a ms.length cap] 26)) := (Below.refl _ _).alloc (Nat.le_refl _) _
    have V3 := Lib.hid (VarAt.new w2 26 [.slice a ms.length cap])
    replace hb := hb.trans ((hd).mono hb.size)
    try replace V3 := Lib.hid (V3.out.kept hd)
    try replace V5 := Lib.hid (V5.out.kept hd)
    try replace V8 := Lib.hid (V8.out.kept hd)
    try replace V10 := Lib.hid (V10.out.kept hd)
    try replace V12 := Lib.hid (V12.out.kept hd)
    try replace V14 := Lib.hid (V14.out.kept hd)
    try replace V17 := Lib.hid (V17.out.kept hd)
    try replace V19 := Lib.hid (V19.out.kept hd)
    try replace V21 := Lib.hid (V21.out.kept hd)
    try replace SM := Lib.hid (SM.out.kept hd)
    try replace SX := Lib.hid (SX.out.kept hd)
    try replace SY := Lib.hid (SY.out.kept hd)
    try replace SZ := Lib.hid (SZ.out.kept hd)
    try replace SD := Lib.hid (SD.out.kept hd)
    try replace SP := Lib.hid (SP.out.kept hd)
    try replace SQ := Lib.hid (SQ.out.kept hd)
    clear hd
    generalize hB : w2.heap.size = B3 at *
    obtain ⟨w3, hw⟩ : ∃ wx, w2.alloc (.cells #[.slice a ms.length cap] 26) = wx := ⟨_, rfl⟩
    rw [hw] at V3
    rw [hw] at hb
    try rw [hw] at V3
    try rw [hw] at V5
    try rw [hw] at V8
    try rw [hw] at V10
    try rw [hw] at V12
    try rw [hw] at V14
    try rw [hw] at V17
    try rw [hw] at V19
    try rw [hw] at V21
    try rw [hw] at SM
    try rw [hw] at SX
    try rw [hw] at SY
    try rw [hw] at SZ
    try rw [hw] at SD
    try rw [hw] at SP
    try rw [hw] at SQ
    have c3 := V3.out.cell (i := 0) rfl
    obtain ⟨X, hXl, hX1, hX2⟩ := club_back ms
    have HX2 := Lib.hid hX2
    have HT1 := Lib.hid (ClubText_any ms a cap w3 SM.out (by omega) HF.out (HE.out.kept hb).1)
    have HT2 : Hid (∀ W, SliceAt W 2 Mem.enc a ms → Calls Tryz.prog 19 #[.agg #[.slice a ms.length cap]] W fun e w' => e = .returned (.string (clubText ms)) ∧ Below W.heap.size W w') := Lib.hid (fun W h => specClubText_any ms a cap W h (by omega) HF.out)
    have HVC : Hid (∀ W, SliceAt W 2 Mem.enc a ms → Calls Tryz.prog 23 #[.agg #[.slice a ms.length cap]] W fun e w' => e = .returned (.bool (clubOk ms)) ∧ Below W.heap.size W w') := Lib.hid (fun W h => specValidClub_ct ms a cap W h (by omega) HF.out)
    have HRX : Hid (∀ W, Env W → Calls Tryz.prog 7 #[.string (clubText ms)] W fun e w' => ∃ (a5 : Option Addr) (cap5 : Nat), e = .returned (.tuple #[.agg #[.slice a5 X.length cap5], .bool (readClub (clubText ms).data.toList).isSome]) ∧ SliceAt w' 2 Mem.enc a5 X ∧ Below W.heap.size W w') := Lib.hid (fun W h => by
      have hsz := clubText_size ms
      refine (ReadClub_any (clubText ms) W h (by omega)).mono ?_
      rintro e w' ⟨a5, cap5, rfl, ho, hd⟩
      rw [hX1] at ho ⊢
      exact ⟨a5, cap5, rfl, own_slice Mem.enc_len ho rfl, hd⟩)
    generalize (readClub (clubText ms).data.toList).isSome = one at *
    generalize clubText ms = T at *
    clear hX1 hX2
    go_wp2_with fail
    clear hw hB
    refine HT1.out.mono ?_
    rintro e w4 ⟨rfl, hd⟩
    replace hb := hb.trans ((hd).mono hb.size)
    try replace V3 := Lib.hid (V3.out.kept hd)
    try replace V5 := Lib.hid (V5.out.kept hd)
    try replace V8 := Lib.hid (V8.out.kept hd)
    try replace V10 := Lib.hid (V10.out.kept hd)
    try replace V12 := Lib.hid (V12.out.kept hd)
    try replace V14 := Lib.hid (V14.out.kept hd)
    try replace V17 := Lib.hid (V17.out.kept hd)
    try replace V19 := Lib.hid (V19.out.kept hd)
    try replace V21 := Lib.hid (V21.out.kept hd)
    try replace SM := Lib.hid (SM.out.kept hd)
    try replace SX := Lib.hid (SX.out.kept hd)
    try replace SY := Lib.hid (SY.out.kept hd)
    try replace SZ := Lib.hid (SZ.out.kept hd)
    try replace SD := Lib.hid (SD.out.kept hd)
    try replace SP := Lib.hid (SP.out.kept hd)
    try replace SQ := Lib.hid (SQ.out.kept hd)
    clear hd HT1 c3
    go_wp2_with fail
    refine (HRX.out w4 (HE.out.kept hb)).mono ?_
    rintro e w5 ⟨a5, cap5, rfl, h5, hd⟩
    replace hb := hb.trans ((hd).mono hb.size)
    try replace V3 := Lib.hid (V3.out.kept hd)
    try replace V5 := Lib.hid (V5.out.kept hd)
    try replace V8 := Lib.hid (V8.out.kept hd)
    try replace V10 := Lib.hid (V10.out.kept hd)
    try replace V12 := Lib.hid (V12.out.kept hd)
    try replace V14 := Lib.hid (V14.out.kept hd)
    try replace V17 := Lib.hid (V17.out.kept hd)
    try replace V19 := Lib.hid (V19.out.kept hd)
    try replace V21 := Lib.hid (V21.out.kept hd)
    try replace SM := Lib.hid (SM.out.kept hd)
    try replace SX := Lib.hid (SX.out.kept hd)
    try replace SY := Lib.hid (SY.out.kept hd)
    try replace SZ := Lib.hid (SZ.out.kept hd)
    try replace SD := Lib.hid (SD.out.kept hd)
    try replace SP := Lib.hid (SP.out.kept hd)
    try replace SQ := Lib.hid (SQ.out.kept hd)
    have SX := Lib.hid h5
    clear hd HRX h5
    have hd : Below w5.heap.size w5 (w5.alloc (.cells #[.slice a5 X.length cap5] 26)) := (Below.refl _ _).alloc (Nat.le_refl _) _
    have V5 := Lib.hid (VarAt.new w5 26 [.slice a5 X.length cap5])
    replace hb := hb.trans ((hd).mono hb.size)
    try replace V3 := Lib.hid (V3.out.kept hd)
    try replace V5 := Lib.hid (V5.out.kept hd)
    try replace V8 := Lib.hid (V8.out.kept hd)
    try replace V10 := Lib.hid (V10.out.kept hd)
    try replace V12 := Lib.hid (V12.out.kept hd)
    try replace V14 := Lib.hid (V14.out.kept hd)
    try replace V17 := Lib.hid (V17.out.kept hd)
    try replace V19 := Lib.hid (V19.out.kept hd)
    try replace V21 := Lib.hid (V21.out.kept hd)
    try replace SM := Lib.hid (SM.out.kept hd)
    try replace SX := Lib.hid (SX.out.kept hd)
    try replace SY := Lib.hid (SY.out.kept hd)
    try replace SZ := Lib.hid (SZ.out.kept hd)
    try replace SD := Lib.hid (SD.out.kept hd)
    try replace SP := Lib.hid (SP.out.kept hd)
    try replace SQ := Lib.hid (SQ.out.kept hd)
    clear hd
    generalize hB : w5.heap.size = B5 at *
    obtain ⟨w6, hw⟩ : ∃ wx, w5.alloc (.cells #[.slice a5 X.length cap5] 26) = wx := ⟨_, rfl⟩
    rw [hw] at V5
    rw [hw] at hb
    try rw [hw] at V3
    try rw [hw] at V5
    try rw [hw] at V8
    try rw [hw] at V10
    try rw [hw] at V12
    try rw [hw] at V14
    try rw [hw] at V17
    try rw [hw] at V19
    try rw [hw] at V21
    try rw [hw] at SM
    try rw [hw] at SX
    try rw [hw] at SY
    try rw [hw] at SZ
    try rw [hw] at SD
    try rw [hw] at SP
    try rw [hw] at SQ
    go_wp2_with fail
    clear hw hB
    -- a text that is seldom a club's
    refine (DrawReadClub_any ca ccap bs w6 (HC.out.later hb hb.size)).mono ?_
    rintro e w7 ⟨u, rfl, hu, hd⟩
    replace hb := hb.trans ((hd).mono hb.size)
    try replace V3 := Lib.hid (V3.out.kept hd)
    try replace V5 := Lib.hid (V5.out.kept hd)
    try replace V8 := Lib.hid (V8.out.kept hd)
    try replace V10 := Lib.hid (V10.out.kept hd)
    try replace V12 := Lib.hid (V12.out.kept hd)
    try replace V14 := Lib.hid (V14.out.kept hd)
    try replace V17 := Lib.hid (V17.out.kept hd)
    try replace V19 := Lib.hid (V19.out.kept hd)
    try replace V21 := Lib.hid (V21.out.kept hd)
    try replace SM := Lib.hid (SM.out.kept hd)
    try replace SX := Lib.hid (SX.out.kept hd)
    try replace SY := Lib.hid (SY.out.kept hd)
    try replace SZ := Lib.hid (SZ.out.kept hd)
    try replace SD := Lib.hid (SD.out.kept hd)
    try replace SP := Lib.hid (SP.out.kept hd)
    try replace SQ := Lib.hid (SQ.out.kept hd)
    clear hd
    have hYl := club_len u.data.toList
    have HRY := Lib.hid (fun W h => ReadClub_any u W h (by omega))
    have HRZ := Lib.hid (fun W => specReadClub_any u W (by omega))
    rw [← readClub_eq] at HRZ
    generalize hYY : (readClub u.data.toList).getD [] = Y at *
    generalize htwo : (readClub u.data.toList).isSome = two at *
    have HRY2 : Hid (∀ W, Env W → Calls Tryz.prog 7 #[.string u] W fun e w' => ∃ (a8 : Option Addr) (cap8 : Nat), e = .returned (.tuple #[.agg #[.slice a8 Y.length cap8], .bool two]) ∧ SliceAt w' 2 Mem.enc a8 Y ∧ Below W.heap.size W w') := Lib.hid (fun W h => by
      refine (HRY.out W h).mono ?_
      rintro e w' ⟨a5, cap5, rfl, ho, hd⟩
      rw [hYY] at ho ⊢
      rw [htwo]
      exact ⟨a5, cap5, rfl, own_slice Mem.enc_len ho rfl, hd⟩)
    have HRZ2 : Hid (∀ W, Calls Tryz.prog 9 #[.string u] W fun e w' => ∃ (a8 : Option Addr) (cap8 : Nat), e = .returned (.tuple #[.agg #[.slice a8 Y.length cap8], .bool two]) ∧ SliceAt w' 2 Mem.enc a8 Y ∧ Below W.heap.size W w') := Lib.hid (fun W => by
      refine (HRZ.out W).mono ?_
      rintro e w' ⟨a5, cap5, rfl, ho, hd⟩
      rw [hYY] at ho ⊢
      rw [htwo]
      exact ⟨a5, cap5, rfl, own_slice Mem.enc_len ho rfl, hd⟩)
    clear HRY HRZ hYY htwo
    go_wp2_with fail
    refine (HRY2.out w7 (HE.out.kept hb)).mono ?_
    rintro e w8 ⟨a8, cap8, rfl, h8, hd⟩
    replace hb := hb.trans ((hd).mono hb.size)
    try replace V3 := Lib.hid (V3.out.kept hd)
    try replace V5 := Lib.hid (V5.out.kept hd)
    try replace V8 := Lib.hid (V8.out.kept hd)
    try replace V10 := Lib.hid (V10.out.kept hd)
    try replace V12 := Lib.hid (V12.out.kept hd)
    try replace V14 := Lib.hid (V14.out.kept hd)
    try replace V17 := Lib.hid (V17.out.kept hd)
    try replace V19 := Lib.hid (V19.out.kept hd)
    try replace V21 := Lib.hid (V21.out.kept hd)
    try replace SM := Lib.hid (SM.out.kept hd)
    try replace SX := Lib.hid (SX.out.kept hd)
    try replace SY := Lib.hid (SY.out.kept hd)
    try replace SZ := Lib.hid (SZ.out.kept hd)
    try replace SD := Lib.hid (SD.out.kept hd)
    try replace SP := Lib.hid (SP.out.kept hd)
    try replace SQ := Lib.hid (SQ.out.kept hd)
    have SY := Lib.hid h8
    clear hd HRY2 h8
    have hd : Below w8.heap.size w8 (w8.alloc (.cells #[.slice a8 Y.length cap8] 26)) := (Below.refl _ _).alloc (Nat.le_refl _) _
    have V8 := Lib.hid (VarAt.new w8 26 [.slice a8 Y.length cap8])
    replace hb := hb.trans ((hd).mono hb.size)
    try replace V3 := Lib.hid (V3.out.kept hd)
    try replace V5 := Lib.hid (V5.out.kept hd)
    try replace V8 := Lib.hid (V8.out.kept hd)
    try replace V10 := Lib.hid (V10.out.kept hd)
    try replace V12 := Lib.hid (V12.out.kept hd)
    try replace V14 := Lib.hid (V14.out.kept hd)
    try replace V17 := Lib.hid (V17.out.kept hd)
    try replace V19 := Lib.hid (V19.out.kept hd)
    try replace V21 := Lib.hid (V21.out.kept hd)
    try replace SM := Lib.hid (SM.out.kept hd)
    try replace SX := Lib.hid (SX.out.kept hd)
    try replace SY := Lib.hid (SY.out.kept hd)
    try replace SZ := Lib.hid (SZ.out.kept hd)
    try replace SD := Lib.hid (SD.out.kept hd)
    try replace SP := Lib.hid (SP.out.kept hd)
    try replace SQ := Lib.hid (SQ.out.kept hd)
    clear hd
    generalize hB : w8.heap.size = B8 at *
    obtain ⟨w9, hw⟩ : ∃ wx, w8.alloc (.cells #[.slice a8 Y.length cap8] 26) = wx := ⟨_, rfl⟩
    rw [hw] at V8
    rw [hw] at hb
    try rw [hw] at V3
    try rw [hw] at V5
    try rw [hw] at V8
    try rw [hw] at V10
    try rw [hw] at V12
    try rw [hw] at V14
    try rw [hw] at V17
    try rw [hw] at V19
    try rw [hw] at V21
    try rw [hw] at SM
    try rw [hw] at SX
    try rw [hw] at SY
    try rw [hw] at SZ
    try rw [hw] at SD
    try rw [hw] at SP
    try rw [hw] at SQ
    go_wp2_with fail
    clear hw hB
    refine (HRZ2.out w9).mono ?_
    rintro e w10 ⟨a10, cap10, rfl, h10, hd⟩
    replace hb := hb.trans ((hd).mono hb.size)
    try replace V3 := Lib.hid (V3.out.kept hd)
    try replace V5 := Lib.hid (V5.out.kept hd)
    try replace V8 := Lib.hid (V8.out.kept hd)
    try replace V10 := Lib.hid (V10.out.kept hd)
    try replace V12 := Lib.hid (V12.out.kept hd)
    try replace V14 := Lib.hid (V14.out.kept hd)
    try replace V17 := Lib.hid (V17.out.kept hd)
    try replace V19 := Lib.hid (V19.out.kept hd)
    try replace V21 := Lib.hid (V21.out.kept hd)
    try replace SM := Lib.hid (SM.out.kept hd)
    try replace SX := Lib.hid (SX.out.kept hd)
    try replace SY := Lib.hid (SY.out.kept hd)
    try replace SZ := Lib.hid (SZ.out.kept hd)
    try replace SD := Lib.hid (SD.out.kept hd)
    try replace SP := Lib.hid (SP.out.kept hd)
    try replace SQ := Lib.hid (SQ.out.kept hd)
    have SZ := Lib.hid h10
    clear hd HRZ2 h10
    have hd : Below w10.heap.size w10 (w10.alloc (.cells #[.slice a10 Y.length cap10] 26)) := (Below.refl _ _).alloc (Nat.le_refl _) _
    have V10 := Lib.hid (VarAt.new w10 26 [.slice a10 Y.length cap10])
    replace hb := hb.trans ((hd).mono hb.size)
    try replace V3 := Lib.hid (V3.out.kept hd)
    try replace V5 := Lib.hid (V5.out.kept hd)
    try replace V8 := Lib.hid (V8.out.kept hd)
    try replace V10 := Lib.hid (V10.out.kept hd)
    try replace V12 := Lib.hid (V12.out.kept hd)
    try replace V14 := Lib.hid (V14.out.kept hd)
    try replace V17 := Lib.hid (V17.out.kept hd)
    try replace V19 := Lib.hid (V19.out.kept hd)
    try replace V21 := Lib.hid (V21.out.kept hd)
    try replace SM := Lib.hid (SM.out.kept hd)
    try replace SX := Lib.hid (SX.out.kept hd)
    try replace SY := Lib.hid (SY.out.kept hd)
    try replace SZ := Lib.hid (SZ.out.kept hd)
    try replace SD := Lib.hid (SD.out.kept hd)
    try replace SP := Lib.hid (SP.out.kept hd)
    try replace SQ := Lib.hid (SQ.out.kept hd)
    clear hd
    generalize hB : w10.heap.size = B10 at *
    obtain ⟨w11, hw⟩ : ∃ wx, w10.alloc (.cells #[.slice a10 Y.length cap10] 26) = wx := ⟨_, rfl⟩
    rw [hw] at V10
    rw [hw] at hb
    try rw [hw] at V3
    try rw [hw] at V5
    try rw [hw] at V8
    try rw [hw] at V10
    try rw [hw] at V12
    try rw [hw] at V14
    try rw [hw] at V17
    try rw [hw] at V19
    try rw [hw] at V21
    try rw [hw] at SM
    try rw [hw] at SX
    try rw [hw] at SY
    try rw [hw] at SZ
    try rw [hw] at SD
    try rw [hw] at SP
    try rw [hw] at SQ
    go_wp2_with fail
    clear hw hB
    -- a result and its text
    refine (DrawResultText_any ca ccap bs w11 (HC.out.later hb hb.size)).mono ?_
    rintro e w12 ⟨r, rfl, hr, hd⟩
    replace hb := hb.trans ((hd).mono hb.size)
    try replace V3 := Lib.hid (V3.out.kept hd)
    try replace V5 := Lib.hid (V5.out.kept hd)
    try replace V8 := Lib.hid (V8.out.kept hd)
    try replace V10 := Lib.hid (V10.out.kept hd)
    try replace V12 := Lib.hid (V12.out.kept hd)
    try replace V14 := Lib.hid (V14.out.kept hd)
    try replace V17 := Lib.hid (V17.out.kept hd)
    try replace V19 := Lib.hid (V19.out.kept hd)
    try replace V21 := Lib.hid (V21.out.kept hd)
    try replace SM := Lib.hid (SM.out.kept hd)
    try replace SX := Lib.hid (SX.out.kept hd)
    try replace SY := Lib.hid (SY.out.kept hd)
    try replace SZ := Lib.hid (SZ.out.kept hd)
    try replace SD := Lib.hid (SD.out.kept hd)
    try replace SP := Lib.hid (SP.out.kept hd)
    try replace SQ := Lib.hid (SQ.out.kept hd)
    clear hd
    have HRF := Lib.hid hr
    clear hr
    have hd : Below w12.heap.size w12 (w12.alloc (.cells #[.string r.a, .string r.b, .int .i64 r.sa, .int .i64 r.sb] 33)) := (Below.refl _ _).alloc (Nat.le_refl _) _
    have V12 := Lib.hid (VarAt.new w12 33 [.string r.a, .string r.b, .int .i64 r.sa, .int .i64 r.sb])
    replace hb := hb.trans ((hd).mono hb.size)
    try replace V3 := Lib.hid (V3.out.kept hd)
    try replace V5 := Lib.hid (V5.out.kept hd)
    try replace V8 := Lib.hid (V8.out.kept hd)
    try replace V10 := Lib.hid (V10.out.kept hd)
    try replace V12 := Lib.hid (V12.out.kept hd)
    try replace V14 := Lib.hid (V14.out.kept hd)
    try replace V17 := Lib.hid (V17.out.kept hd)
    try replace V19 := Lib.hid (V19.out.kept hd)
    try replace V21 := Lib.hid (V21.out.kept hd)
    try replace SM := Lib.hid (SM.out.kept hd)
    try replace SX := Lib.hid (SX.out.kept hd)
    try replace SY := Lib.hid (SY.out.kept hd)
    try replace SZ := Lib.hid (SZ.out.kept hd)
    try replace SD := Lib.hid (SD.out.kept hd)
    try replace SP := Lib.hid (SP.out.kept hd)
    try replace SQ := Lib.hid (SQ.out.kept hd)
    clear hd
    generalize hB : w12.heap.size = B12 at *
    obtain ⟨w13, hw⟩ : ∃ wx, w12.alloc (.cells #[.string r.a, .string r.b, .int .i64 r.sa, .int .i64 r.sb] 33) = wx := ⟨_, rfl⟩
    rw [hw] at V12
    rw [hw] at hb
    try rw [hw] at V3
    try rw [hw] at V5
    try rw [hw] at V8
    try rw [hw] at V10
    try rw [hw] at V12
    try rw [hw] at V14
    try rw [hw] at V17
    try rw [hw] at V19
    try rw [hw] at V21
    try rw [hw] at SM
    try rw [hw] at SX
    try rw [hw] at SY
    try rw [hw] at SZ
    try rw [hw] at SD
    try rw [hw] at SP
    try rw [hw] at SQ
    have q0 := V12.out.cell (i := 0) (v := .string r.a) rfl
    have q1 := V12.out.cell (i := 1) (v := .string r.b) rfl
    have q2 := V12.out.cell (i := 2) (v := .int .i64 r.sa) rfl
    have q3 := V12.out.cell (i := 3) (v := .int .i64 r.sb) rfl
    have HS1 := Lib.hid (ResultText_any r w13 HRF.out (HE.out.kept hb).1)
    have HS2 : Hid (∀ W, Calls Tryz.prog 21 #[.agg #[.string r.a, .string r.b, .int .i64 r.sa, .int .i64 r.sb]] W fun e w' => e = .returned (.string (resultText r)) ∧ Below W.heap.size W w') := Lib.hid (fun W => specResultText_any r W HRF.out)
    have hSz := resultText_size r
    have HBK : Hid (∀ W, Env W → Calls Tryz.prog 12 #[.string (resultText r)] W (ResPost (if resOk r = true then some r else none) W)) := Lib.hid (fun W h => by
      have := ReadResult_any (resultText r) W h (by omega)
      rwa [readRes_text r] at this)
    have hSne : resOk r = true → (resultText r).toList.isEmpty = false := fun h => txt_ne (resultText_ne h)
    have hSno : resOk r = false → resultText r = ⟨#[]⟩ := resultText_bad
    have HNR := Lib.hid (fun W => neq_self r W)
    cases hro : resOk r with
    | true =>
      have hne := hSne hro
      replace HBK : Hid (∀ W, Env W → Calls Tryz.prog 12 #[.string (resultText r)] W fun e w' => e = .returned (.tuple #[.agg #[.string r.a, .string r.b, .int .i64 r.sa, .int .i64 r.sb], .bool true]) ∧ Below W.heap.size W w') := Lib.hid (fun W h => by
        have := HBK.out W h
        rwa [hro, if_pos rfl] at this)
      clear hSne hSno hSz hro
      generalize resultText r = S at *
      go_wp2_with fail
      clear hw hB
      refine HS1.out.mono ?_
      rintro e w14 ⟨rfl, hd⟩
      replace hb := hb.trans ((hd).mono hb.size)
      try replace V3 := Lib.hid (V3.out.kept hd)
      try replace V5 := Lib.hid (V5.out.kept hd)
      try replace V8 := Lib.hid (V8.out.kept hd)
      try replace V10 := Lib.hid (V10.out.kept hd)
      try replace V12 := Lib.hid (V12.out.kept hd)
      try replace V14 := Lib.hid (V14.out.kept hd)
      try replace V17 := Lib.hid (V17.out.kept hd)
      try replace V19 := Lib.hid (V19.out.kept hd)
      try replace V21 := Lib.hid (V21.out.kept hd)
      try replace SM := Lib.hid (SM.out.kept hd)
      try replace SX := Lib.hid (SX.out.kept hd)
      try replace SY := Lib.hid (SY.out.kept hd)
      try replace SZ := Lib.hid (SZ.out.kept hd)
      try replace SD := Lib.hid (SD.out.kept hd)
      try replace SP := Lib.hid (SP.out.kept hd)
      try replace SQ := Lib.hid (SQ.out.kept hd)
      clear hd HS1 q0 q1 q2 q3
      go_wp2_with fail
      refine (HBK.out w14 (HE.out.kept hb)).mono ?_
      rintro e w15 ⟨rfl, hd⟩
      replace hb := hb.trans ((hd).mono hb.size)
      try replace V3 := Lib.hid (V3.out.kept hd)
      try replace V5 := Lib.hid (V5.out.kept hd)
      try replace V8 := Lib.hid (V8.out.kept hd)
      try replace V10 := Lib.hid (V10.out.kept hd)
      try replace V12 := Lib.hid (V12.out.kept hd)
      try replace V14 := Lib.hid (V14.out.kept hd)
      try replace V17 := Lib.hid (V17.out.kept hd)
      try replace V19 := Lib.hid (V19.out.kept hd)
      try replace V21 := Lib.hid (V21.out.kept hd)
      try replace SM := Lib.hid (SM.out.kept hd)
      try replace SX := Lib.hid (SX.out.kept hd)
      try replace SY := Lib.hid (SY.out.kept hd)
      try replace SZ := Lib.hid (SZ.out.kept hd)
      try replace SD := Lib.hid (SD.out.kept hd)
      try replace SP := Lib.hid (SP.out.kept hd)
      try replace SQ := Lib.hid (SQ.out.kept hd)
      clear hd HBK
      have hd : Below w15.heap.size w15 (w15.alloc (.cells #[.string (r).a, .string (r).b, .int .i64 (r).sa, .int .i64 (r).sb] 33)) := (Below.refl _ _).alloc (Nat.le_refl _) _
      have V14 := Lib.hid (VarAt.new w15 33 [.string (r).a, .string (r).b, .int .i64 (r).sa, .int .i64 (r).sb])
      replace hb := hb.trans ((hd).mono hb.size)
      try replace V3 := Lib.hid (V3.out.kept hd)
      try replace V5 := Lib.hid (V5.out.kept hd)
      try replace V8 := Lib.hid (V8.out.kept hd)
      try replace V10 := Lib.hid (V10.out.kept hd)
      try replace V12 := Lib.hid (V12.out.kept hd)
      try replace V14 := Lib.hid (V14.out.kept hd)
      try replace V17 := Lib.hid (V17.out.kept hd)
      try replace V19 := Lib.hid (V19.out.kept hd)
      try replace V21 := Lib.hid (V21.out.kept hd)
      try replace SM := Lib.hid (SM.out.kept hd)
      try replace SX := Lib.hid (SX.out.kept hd)
      try replace SY := Lib.hid (SY.out.kept hd)
      try replace SZ := Lib.hid (SZ.out.kept hd)
      try replace SD := Lib.hid (SD.out.kept hd)
      try replace SP := Lib.hid (SP.out.kept hd)
      try replace SQ := Lib.hid (SQ.out.kept hd)
      clear hd
      generalize hB : w15.heap.size = B14 at *
      obtain ⟨w16, hw⟩ : ∃ wx, w15.alloc (.cells #[.string (r).a, .string (r).b, .int .i64 (r).sa, .int .i64 (r).sb] 33) = wx := ⟨_, rfl⟩
      rw [hw] at V14
      rw [hw] at hb
      try rw [hw] at V3
      try rw [hw] at V5
      try rw [hw] at V8
      try rw [hw] at V10
      try rw [hw] at V12
      try rw [hw] at V14
      try rw [hw] at V17
      try rw [hw] at V19
      try rw [hw] at V21
      try rw [hw] at SM
      try rw [hw] at SX
      try rw [hw] at SY
      try rw [hw] at SZ
      try rw [hw] at SD
      try rw [hw] at SP
      try rw [hw] at SQ
      go_wp2_with fail
      clear hw hB
      -- a text that is seldom a result's
      refine (DrawReadResult_any ca ccap bs w16 (HC.out.later hb hb.size)).mono ?_
      rintro e w17 ⟨v, rfl, hv, hd⟩
      replace hb := hb.trans ((hd).mono hb.size)
      try replace V3 := Lib.hid (V3.out.kept hd)
      try replace V5 := Lib.hid (V5.out.kept hd)
      try replace V8 := Lib.hid (V8.out.kept hd)
      try replace V10 := Lib.hid (V10.out.kept hd)
      try replace V12 := Lib.hid (V12.out.kept hd)
      try replace V14 := Lib.hid (V14.out.kept hd)
      try replace V17 := Lib.hid (V17.out.kept hd)
      try replace V19 := Lib.hid (V19.out.kept hd)
      try replace V21 := Lib.hid (V21.out.kept hd)
      try replace SM := Lib.hid (SM.out.kept hd)
      try replace SX := Lib.hid (SX.out.kept hd)
      try replace SY := Lib.hid (SY.out.kept hd)
      try replace SZ := Lib.hid (SZ.out.kept hd)
      try replace SD := Lib.hid (SD.out.kept hd)
      try replace SP := Lib.hid (SP.out.kept hd)
      try replace SQ := Lib.hid (SQ.out.kept hd)
      clear hd
      obtain ⟨P, five, HRP, HRQ⟩ : ∃ (P : Res) (five : Bool), Hid (∀ W, Env W → Calls Tryz.prog 12 #[.string v] W fun e w' => e = .returned (.tuple #[.agg #[.string P.a, .string P.b, .int .i64 P.sa, .int .i64 P.sb], .bool five]) ∧ Below W.heap.size W w') ∧ Hid (∀ W, Calls Tryz.prog 14 #[.string v] W fun e w' => e = .returned (.tuple #[.agg #[.string P.a, .string P.b, .int .i64 P.sa, .int .i64 P.sb], .bool five]) ∧ Below W.heap.size W w') :=
        ⟨resOf (readRes v.data.toList), (readRes v.data.toList).isSome, Lib.hid (fun W h => ReadResult_any v W h (by omega)), Lib.hid (fun W => by rw [readRes_eq]; exact specReadResult_any v W (by omega))⟩
      go_wp2_with fail
      refine (HRP.out w17 (HE.out.kept hb)).mono ?_
      rintro e w18 ⟨rfl, hd⟩
      replace hb := hb.trans ((hd).mono hb.size)
      try replace V3 := Lib.hid (V3.out.kept hd)
      try replace V5 := Lib.hid (V5.out.kept hd)
      try replace V8 := Lib.hid (V8.out.kept hd)
      try replace V10 := Lib.hid (V10.out.kept hd)
      try replace V12 := Lib.hid (V12.out.kept hd)
      try replace V14 := Lib.hid (V14.out.kept hd)
      try replace V17 := Lib.hid (V17.out.kept hd)
      try replace V19 := Lib.hid (V19.out.kept hd)
      try replace V21 := Lib.hid (V21.out.kept hd)
      try replace SM := Lib.hid (SM.out.kept hd)
      try replace SX := Lib.hid (SX.out.kept hd)
      try replace SY := Lib.hid (SY.out.kept hd)
      try replace SZ := Lib.hid (SZ.out.kept hd)
      try replace SD := Lib.hid (SD.out.kept hd)
      try replace SP := Lib.hid (SP.out.kept hd)
      try replace SQ := Lib.hid (SQ.out.kept hd)
      clear hd HRP
      have hd : Below w18.heap.size w18 (w18.alloc (.cells #[.string P.a, .string P.b, .int .i64 P.sa, .int .i64 P.sb] 33)) := (Below.refl _ _).alloc (Nat.le_refl _) _
      have V17 := Lib.hid (VarAt.new w18 33 [.string P.a, .string P.b, .int .i64 P.sa, .int .i64 P.sb])
      replace hb := hb.trans ((hd).mono hb.size)
      try replace V3 := Lib.hid (V3.out.kept hd)
      try replace V5 := Lib.hid (V5.out.kept hd)
      try replace V8 := Lib.hid (V8.out.kept hd)
      try replace V10 := Lib.hid (V10.out.kept hd)
      try replace V12 := Lib.hid (V12.out.kept hd)
      try replace V14 := Lib.hid (V14.out.kept hd)
      try replace V17 := Lib.hid (V17.out.kept hd)
      try replace V19 := Lib.hid (V19.out.kept hd)
      try replace V21 := Lib.hid (V21.out.kept hd)
      try replace SM := Lib.hid (SM.out.kept hd)
      try replace SX := Lib.hid (SX.out.kept hd)
      try replace SY := Lib.hid (SY.out.kept hd)
      try replace SZ := Lib.hid (SZ.out.kept hd)
      try replace SD := Lib.hid (SD.out.kept hd)
      try replace SP := Lib.hid (SP.out.kept hd)
      try replace SQ := Lib.hid (SQ.out.kept hd)
      clear hd
      generalize hB : w18.heap.size = B17 at *
      obtain ⟨w19, hw⟩ : ∃ wx, w18.alloc (.cells #[.string P.a, .string P.b, .int .i64 P.sa, .int .i64 P.sb] 33) = wx := ⟨_, rfl⟩
      rw [hw] at V17
      rw [hw] at hb
      try rw [hw] at V3
      try rw [hw] at V5
      try rw [hw] at V8
      try rw [hw] at V10
      try rw [hw] at V12
      try rw [hw] at V14
      try rw [hw] at V17
      try rw [hw] at V19
      try rw [hw] at V21
      try rw [hw] at SM
      try rw [hw] at SX
      try rw [hw] at SY
      try rw [hw] at SZ
      try rw [hw] at SD
      try rw [hw] at SP
      try rw [hw] at SQ
      go_wp2_with fail
      clear hw hB
      refine (HRQ.out w19).mono ?_
      rintro e w20 ⟨rfl, hd⟩
      replace hb := hb.trans ((hd).mono hb.size)
      try replace V3 := Lib.hid (V3.out.kept hd)
      try replace V5 := Lib.hid (V5.out.kept hd)
      try replace V8 := Lib.hid (V8.out.kept hd)
      try replace V10 := Lib.hid (V10.out.kept hd)
      try replace V12 := Lib.hid (V12.out.kept hd)
      try replace V14 := Lib.hid (V14.out.kept hd)
      try replace V17 := Lib.hid (V17.out.kept hd)
      try replace V19 := Lib.hid (V19.out.kept hd)
      try replace V21 := Lib.hid (V21.out.kept hd)
      try replace SM := Lib.hid (SM.out.kept hd)
      try replace SX := Lib.hid (SX.out.kept hd)
      try replace SY := Lib.hid (SY.out.kept hd)
      try replace SZ := Lib.hid (SZ.out.kept hd)
      try replace SD := Lib.hid (SD.out.kept hd)
      try replace SP := Lib.hid (SP.out.kept hd)
      try replace SQ := Lib.hid (SQ.out.kept hd)
      clear hd HRQ
      have hd : Below w20.heap.size w20 (w20.alloc (.cells #[.string P.a, .string P.b, .int .i64 P.sa, .int .i64 P.sb] 33)) := (Below.refl _ _).alloc (Nat.le_refl _) _
      have V19 := Lib.hid (VarAt.new w20 33 [.string P.a, .string P.b, .int .i64 P.sa, .int .i64 P.sb])
      replace hb := hb.trans ((hd).mono hb.size)
      try replace V3 := Lib.hid (V3.out.kept hd)
      try replace V5 := Lib.hid (V5.out.kept hd)
      try replace V8 := Lib.hid (V8.out.kept hd)
      try replace V10 := Lib.hid (V10.out.kept hd)
      try replace V12 := Lib.hid (V12.out.kept hd)
      try replace V14 := Lib.hid (V14.out.kept hd)
      try replace V17 := Lib.hid (V17.out.kept hd)
      try replace V19 := Lib.hid (V19.out.kept hd)
      try replace V21 := Lib.hid (V21.out.kept hd)
      try replace SM := Lib.hid (SM.out.kept hd)
      try replace SX := Lib.hid (SX.out.kept hd)
      try replace SY := Lib.hid (SY.out.kept hd)
      try replace SZ := Lib.hid (SZ.out.kept hd)
      try replace SD := Lib.hid (SD.out.kept hd)
      try replace SP := Lib.hid (SP.out.kept hd)
      try replace SQ := Lib.hid (SQ.out.kept hd)
      clear hd
      generalize hB : w20.heap.size = B19 at *
      obtain ⟨w21, hw⟩ : ∃ wx, w20.alloc (.cells #[.string P.a, .string P.b, .int .i64 P.sa, .int .i64 P.sb] 33) = wx := ⟨_, rfl⟩
      rw [hw] at V19
      rw [hw] at hb
      try rw [hw] at V3
      try rw [hw] at V5
      try rw [hw] at V8
      try rw [hw] at V10
      try rw [hw] at V12
      try rw [hw] at V14
      try rw [hw] at V17
      try rw [hw] at V19
      try rw [hw] at V21
      try rw [hw] at SM
      try rw [hw] at SX
      try rw [hw] at SY
      try rw [hw] at SZ
      try rw [hw] at SD
      try rw [hw] at SP
      try rw [hw] at SQ
      go_wp2_with fail
      clear hw hB
      -- a rating
      refine (DrawRatingOf_any ca ccap bs w21 (HC.out.later hb hb.size)).mono ?_
      rintro e w22 ⟨a21, cap21, dm, nm, rfl, h21, hl21, hf21, hnm, hd⟩
      replace hb := hb.trans ((hd).mono hb.size)
      try replace V3 := Lib.hid (V3.out.kept hd)
      try replace V5 := Lib.hid (V5.out.kept hd)
      try replace V8 := Lib.hid (V8.out.kept hd)
      try replace V10 := Lib.hid (V10.out.kept hd)
      try replace V12 := Lib.hid (V12.out.kept hd)
      try replace V14 := Lib.hid (V14.out.kept hd)
      try replace V17 := Lib.hid (V17.out.kept hd)
      try replace V19 := Lib.hid (V19.out.kept hd)
      try replace V21 := Lib.hid (V21.out.kept hd)
      try replace SM := Lib.hid (SM.out.kept hd)
      try replace SX := Lib.hid (SX.out.kept hd)
      try replace SY := Lib.hid (SY.out.kept hd)
      try replace SZ := Lib.hid (SZ.out.kept hd)
      try replace SD := Lib.hid (SD.out.kept hd)
      try replace SP := Lib.hid (SP.out.kept hd)
      try replace SQ := Lib.hid (SQ.out.kept hd)
      have SD := Lib.hid h21
      clear hd h21
      have hd : Below w22.heap.size w22 (w22.alloc (.cells #[.slice a21 dm.length cap21] 26)) := (Below.refl _ _).alloc (Nat.le_refl _) _
      have V21 := Lib.hid (VarAt.new w22 26 [.slice a21 dm.length cap21])
      replace hb := hb.trans ((hd).mono hb.size)
      try replace V3 := Lib.hid (V3.out.kept hd)
      try replace V5 := Lib.hid (V5.out.kept hd)
      try replace V8 := Lib.hid (V8.out.kept hd)
      try replace V10 := Lib.hid (V10.out.kept hd)
      try replace V12 := Lib.hid (V12.out.kept hd)
      try replace V14 := Lib.hid (V14.out.kept hd)
      try replace V17 := Lib.hid (V17.out.kept hd)
      try replace V19 := Lib.hid (V19.out.kept hd)
      try replace V21 := Lib.hid (V21.out.kept hd)
      try replace SM := Lib.hid (SM.out.kept hd)
      try replace SX := Lib.hid (SX.out.kept hd)
      try replace SY := Lib.hid (SY.out.kept hd)
      try replace SZ := Lib.hid (SZ.out.kept hd)
      try replace SD := Lib.hid (SD.out.kept hd)
      try replace SP := Lib.hid (SP.out.kept hd)
      try replace SQ := Lib.hid (SQ.out.kept hd)
      clear hd
      generalize hB : w22.heap.size = B21 at *
      obtain ⟨w23, hw⟩ : ∃ wx, w22.alloc (.cells #[.slice a21 dm.length cap21] 26) = wx := ⟨_, rfl⟩
      rw [hw] at V21
      rw [hw] at hb
      try rw [hw] at V3
      try rw [hw] at V5
      try rw [hw] at V8
      try rw [hw] at V10
      try rw [hw] at V12
      try rw [hw] at V14
      try rw [hw] at V17
      try rw [hw] at V19
      try rw [hw] at V21
      try rw [hw] at SM
      try rw [hw] at SX
      try rw [hw] at SY
      try rw [hw] at SZ
      try rw [hw] at SD
      try rw [hw] at SP
      try rw [hw] at SQ
      have c21 := V21.out.cell (i := 0) rfl
      obtain ⟨rn, rc, HR1, HR2⟩ : ∃ rn rc : Int, Hid (∀ W, SliceAt W 2 Mem.enc a21 dm → Calls Tryz.prog 16 #[.agg #[.slice a21 dm.length cap21], .string nm] W fun e w' => e = .returned (.tuple #[.int .i64 rn, .int .i64 rc]) ∧ Below W.heap.size W w') ∧ Hid (∀ W, SliceAt W 2 Mem.enc a21 dm → Calls Tryz.prog 17 #[.agg #[.slice a21 dm.length cap21], .string nm] W fun e w' => e = .returned (.tuple #[.int .i64 rn, .int .i64 rc]) ∧ Below W.heap.size W w') :=
        ⟨(ratingOf dm nm).1, (ratingOf dm nm).2, Lib.hid (fun W h => RatingOf_any dm nm a21 cap21 W h (by omega) hf21), Lib.hid (fun W h => specRatingOf_any dm nm a21 cap21 W h (by omega) hf21)⟩
      clear hf21
      go_wp2_with fail
      clear hw hB
      refine (HR1.out w23 SD.out).mono ?_
      rintro e w24 ⟨rfl, hd⟩
      replace c21 := cell_kept c21 hd
      replace hb := hb.trans ((hd).mono hb.size)
      try replace V3 := Lib.hid (V3.out.kept hd)
      try replace V5 := Lib.hid (V5.out.kept hd)
      try replace V8 := Lib.hid (V8.out.kept hd)
      try replace V10 := Lib.hid (V10.out.kept hd)
      try replace V12 := Lib.hid (V12.out.kept hd)
      try replace V14 := Lib.hid (V14.out.kept hd)
      try replace V17 := Lib.hid (V17.out.kept hd)
      try replace V19 := Lib.hid (V19.out.kept hd)
      try replace V21 := Lib.hid (V21.out.kept hd)
      try replace SM := Lib.hid (SM.out.kept hd)
      try replace SX := Lib.hid (SX.out.kept hd)
      try replace SY := Lib.hid (SY.out.kept hd)
      try replace SZ := Lib.hid (SZ.out.kept hd)
      try replace SD := Lib.hid (SD.out.kept hd)
      try replace SP := Lib.hid (SP.out.kept hd)
      try replace SQ := Lib.hid (SQ.out.kept hd)
      clear hd HR1
      go_wp2_with fail
      refine (HR2.out w24 SD.out).mono ?_
      rintro e w25 ⟨rfl, hd⟩
      replace hb := hb.trans ((hd).mono hb.size)
      try replace V3 := Lib.hid (V3.out.kept hd)
      try replace V5 := Lib.hid (V5.out.kept hd)
      try replace V8 := Lib.hid (V8.out.kept hd)
      try replace V10 := Lib.hid (V10.out.kept hd)
      try replace V12 := Lib.hid (V12.out.kept hd)
      try replace V14 := Lib.hid (V14.out.kept hd)
      try replace V17 := Lib.hid (V17.out.kept hd)
      try replace V19 := Lib.hid (V19.out.kept hd)
      try replace V21 := Lib.hid (V21.out.kept hd)
      try replace SM := Lib.hid (SM.out.kept hd)
      try replace SX := Lib.hid (SX.out.kept hd)
      try replace SY := Lib.hid (SY.out.kept hd)
      try replace SZ := Lib.hid (SZ.out.kept hd)
      try replace SD := Lib.hid (SD.out.kept hd)
      try replace SP := Lib.hid (SP.out.kept hd)
      try replace SQ := Lib.hid (SQ.out.kept hd)
      clear hd HR2 c21
      go_wp2_with fail
      -- two clubs
      refine (DrawSameClub_any ca ccap bs w25 (HC.out.later hb hb.size)).mono ?_
      rintro e w26 ⟨a27, cap27, xs, a28, cap28, ys, rfl, h27, h28, l27, l28, hd⟩
      replace hb := hb.trans ((hd).mono hb.size)
      try replace V3 := Lib.hid (V3.out.kept hd)
      try replace V5 := Lib.hid (V5.out.kept hd)
      try replace V8 := Lib.hid (V8.out.kept hd)
      try replace V10 := Lib.hid (V10.out.kept hd)
      try replace V12 := Lib.hid (V12.out.kept hd)
      try replace V14 := Lib.hid (V14.out.kept hd)
      try replace V17 := Lib.hid (V17.out.kept hd)
      try replace V19 := Lib.hid (V19.out.kept hd)
      try replace V21 := Lib.hid (V21.out.kept hd)
      try replace SM := Lib.hid (SM.out.kept hd)
      try replace SX := Lib.hid (SX.out.kept hd)
      try replace SY := Lib.hid (SY.out.kept hd)
      try replace SZ := Lib.hid (SZ.out.kept hd)
      try replace SD := Lib.hid (SD.out.kept hd)
      try replace SP := Lib.hid (SP.out.kept hd)
      try replace SQ := Lib.hid (SQ.out.kept hd)
      have SP := Lib.hid h27
      have SQ := Lib.hid h28
      clear hd h27 h28 HC SD V21
      have hd : Below w26.heap.size w26 ((w26.alloc (.cells #[.slice a27 xs.length cap27] 26)).alloc (.cells #[.slice a28 ys.length cap28] 26)) := ((Below.refl _ _).alloc (Nat.le_refl _) _).alloc (by simp) _
      have V27 := Lib.hid ((VarAt.new w26 26 [.slice a27 xs.length cap27]).kept ((Below.refl _ _).alloc (Nat.le_refl _) (.cells #[.slice a28 ys.length cap28] 26)))
      have V28 : Hid (VarAt ((w26.alloc (.cells #[.slice a27 xs.length cap27] 26)).alloc (.cells #[.slice a28 ys.length cap28] 26)) (w26.heap.size + 1) 26 [.slice a28 ys.length cap28]) := by
        have := VarAt.new (w26.alloc (.cells #[.slice a27 xs.length cap27] 26)) 26 [.slice a28 ys.length cap28]
        simp only [World.size_alloc] at this
        exact Lib.hid this
      replace hb := hb.trans ((hd).mono hb.size)
      try replace V3 := Lib.hid (V3.out.kept hd)
      try replace V5 := Lib.hid (V5.out.kept hd)
      try replace V8 := Lib.hid (V8.out.kept hd)
      try replace V10 := Lib.hid (V10.out.kept hd)
      try replace V12 := Lib.hid (V12.out.kept hd)
      try replace V14 := Lib.hid (V14.out.kept hd)
      try replace V17 := Lib.hid (V17.out.kept hd)
      try replace V19 := Lib.hid (V19.out.kept hd)
      try replace V21 := Lib.hid (V21.out.kept hd)
      try replace SM := Lib.hid (SM.out.kept hd)
      try replace SX := Lib.hid (SX.out.kept hd)
      try replace SY := Lib.hid (SY.out.kept hd)
      try replace SZ := Lib.hid (SZ.out.kept hd)
      try replace SD := Lib.hid (SD.out.kept hd)
      try replace SP := Lib.hid (SP.out.kept hd)
      try replace SQ := Lib.hid (SQ.out.kept hd)
      clear hd
      generalize hB : w26.heap.size = B27 at *
      obtain ⟨wE, hw⟩ : ∃ wE, (w26.alloc (.cells #[.slice a27 xs.length cap27] 26)).alloc (.cells #[.slice a28 ys.length cap28] 26) = wE := ⟨_, rfl⟩
      rw [hw] at V27 V28
      rw [hw] at hb
      try rw [hw] at V3
      try rw [hw] at V5
      try rw [hw] at V8
      try rw [hw] at V10
      try rw [hw] at V12
      try rw [hw] at V14
      try rw [hw] at V17
      try rw [hw] at V19
      try rw [hw] at V21
      try rw [hw] at SM
      try rw [hw] at SX
      try rw [hw] at SY
      try rw [hw] at SZ
      try rw [hw] at SD
      try rw [hw] at SP
      try rw [hw] at SQ
      have HYY : Hid (∀ W, SliceAt W 2 Mem.enc a8 Y → SliceAt W 2 Mem.enc a10 Y → Calls Tryz.prog 20 #[.agg #[.slice a8 Y.length cap8], .agg #[.slice a10 Y.length cap10]] W fun e w' => e = .returned (.bool true) ∧ Below W.heap.size W w') := Lib.hid (fun W h1 h2 => by
        have := specSameClub_any Y Y a8 a10 cap8 cap10 W h1 h2 hYl hYl
        rwa [sameM_self] at this)
      obtain ⟨sb, HSI, HSS⟩ : ∃ sb : Bool, Hid (∀ W, SliceAt W 2 Mem.enc a27 xs → SliceAt W 2 Mem.enc a28 ys → Calls Tryz.prog 22 #[.agg #[.slice a27 xs.length cap27], .agg #[.slice a28 ys.length cap28]] W fun e w' => e = .returned (.bool sb) ∧ Below W.heap.size W w') ∧ Hid (∀ W, SliceAt W 2 Mem.enc a27 xs → SliceAt W 2 Mem.enc a28 ys → Calls Tryz.prog 20 #[.agg #[.slice a27 xs.length cap27], .agg #[.slice a28 ys.length cap28]] W fun e w' => e = .returned (.bool sb) ∧ Below W.heap.size W w') :=
        ⟨sameM xs ys, Lib.hid (fun W h1 h2 => implSameClub_any xs ys a27 a28 cap27 cap28 W h1 h2 l27 l28), Lib.hid (fun W h1 h2 => specSameClub_any xs ys a27 a28 cap27 cap28 W h1 h2 l27 l28)⟩
      have c3 := V3.out.cell (i := 0) rfl
      have c8 := V8.out.cell (i := 0) rfl
      have c10 := V10.out.cell (i := 0) rfl
      have r0 := V12.out.cell (i := 0) (v := .string r.a) rfl
      have r1 := V12.out.cell (i := 1) (v := .string r.b) rfl
      have r2 := V12.out.cell (i := 2) (v := .int .i64 r.sa) rfl
      have r3 := V12.out.cell (i := 3) (v := .int .i64 r.sb) rfl
      have k0 := V14.out.cell (i := 0) (v := .string (r).a) rfl
      have k1 := V14.out.cell (i := 1) (v := .string (r).b) rfl
      have k2 := V14.out.cell (i := 2) (v := .int .i64 (r).sa) rfl
      have k3 := V14.out.cell (i := 3) (v := .int .i64 (r).sb) rfl
      have m0 := V17.out.cell (i := 0) (v := .string P.a) rfl
      have m1 := V17.out.cell (i := 1) (v := .string P.b) rfl
      have m2 := V17.out.cell (i := 2) (v := .int .i64 P.sa) rfl
      have m3 := V17.out.cell (i := 3) (v := .int .i64 P.sb) rfl
      have n0 := V19.out.cell (i := 0) (v := .string P.a) rfl
      have n1 := V19.out.cell (i := 1) (v := .string P.b) rfl
      have n2 := V19.out.cell (i := 2) (v := .int .i64 P.sa) rfl
      have n3 := V19.out.cell (i := 3) (v := .int .i64 P.sb) rfl
      have c27 := V27.out.cell (i := 0) rfl
      have c28 := V28.out.cell (i := 0) rfl
      go_upto_region 19 with fail
      clear hw hB
      have e3 := cell_regrown c3
      have e8 := cell_regrown c8
      have e10 := cell_regrown c10
      have er0 := cell_regrown r0
      have er1 := cell_regrown r1
      have er2 := cell_regrown r2
      have er3 := cell_regrown r3
      have ek0 := cell_regrown k0
      have ek1 := cell_regrown k1
      have ek2 := cell_regrown k2
      have ek3 := cell_regrown k3
      have em0 := cell_regrown m0
      have em1 := cell_regrown m1
      have em2 := cell_regrown m2
      have em3 := cell_regrown m3
      have en0 := cell_regrown n0
      have en1 := cell_regrown n1
      have en2 := cell_regrown n2
      have en3 := cell_regrown n3
      have e27 := cell_regrown c27
      have e28 := cell_regrown c28
      have hP := fun W => neq_self P W
      have h1 := HNR.out
      have hg33 := guard_res
      have hb5 : (five != five) = false := bne_self_eq_false five
      have hb2 : (two != two) = false := bne_self_eq_false two
      have hbs : (sb != sb) = false := bne_self_eq_false sb
      refine wp_region_quiet_below (by kernel_rfl) (by kernel_rfl) ?_
      repeat (go_big_quiet_step ((first
        | (go_at_call_of 19 (Value.agg #[Value.slice a ms.length cap]); exact Calls.regrown_of (HT2.out _ (SM.out.kept (below_regrown _ _ _))))
        | (go_at_call_of 20 (Value.agg #[Value.slice a8 Y.length cap8]); exact Calls.regrown_of (HYY.out _ (SY.out.kept (below_regrown _ _ _)) (SZ.out.kept (below_regrown _ _ _))))
        | (go_at_call 21; exact Calls.regrown_of (HS2.out _))
        | (go_at_call 22; exact Calls.regrown_of (HSI.out _ (SP.out.kept (below_regrown _ _ _)) (SQ.out.kept (below_regrown _ _ _))))
        | (go_at_call_of 20 (Value.agg #[Value.slice a27 xs.length cap27]); exact Calls.regrown_of (HSS.out _ (SP.out.kept (below_regrown _ _ _)) (SQ.out.kept (below_regrown _ _ _)))))))
      refine wpQuiet_nil ?_
      intro wF hw'
      have hd : Below wE.heap.size wE wF := below_of_ex hw'
      clear hw'
      clear e3 e8 e10 er0 er1 er2 er3 ek0 ek1 ek2 ek3 em0 em1 em2 em3 en0 en1 en2 en3 e27 e28 c3 c8 c10 r0 r1 r2 r3 k0 k1 k2 k3 m0 m1 m2 m3 n0 n1 n2 n3 c27 c28
      replace hb := hb.trans ((hd).mono hb.size)
      try replace V3 := Lib.hid (V3.out.kept hd)
      try replace V5 := Lib.hid (V5.out.kept hd)
      try replace V8 := Lib.hid (V8.out.kept hd)
      try replace V10 := Lib.hid (V10.out.kept hd)
      try replace V12 := Lib.hid (V12.out.kept hd)
      try replace V14 := Lib.hid (V14.out.kept hd)
      try replace V17 := Lib.hid (V17.out.kept hd)
      try replace V19 := Lib.hid (V19.out.kept hd)
      try replace V21 := Lib.hid (V21.out.kept hd)
      try replace SM := Lib.hid (SM.out.kept hd)
      try replace SX := Lib.hid (SX.out.kept hd)
      try replace SY := Lib.hid (SY.out.kept hd)
      try replace SZ := Lib.hid (SZ.out.kept hd)
      try replace SD := Lib.hid (SD.out.kept hd)
      try replace SP := Lib.hid (SP.out.kept hd)
      try replace SQ := Lib.hid (SQ.out.kept hd)
      clear hd hb5 hb2 hbs hP hg33 HT2 HYY HS2 HSI HSS SY SZ SP SQ HNR
      have c3 := V3.out.cell (i := 0) rfl
      have c5 := V5.out.cell (i := 0) rfl
      cases hcl : clubOk ms with
      | false =>
        replace HVC : Hid (∀ W, SliceAt W 2 Mem.enc a ms → Calls Tryz.prog 23 #[.agg #[.slice a ms.length cap]] W fun e w' => e = .returned (.bool false) ∧ Below W.heap.size W w') := Lib.hid (fun W h => by
          have := HVC.out W h
          rwa [hcl] at this)
        clear hcl HX2 V8 V10 V12 V14 V17 V19 V27 V28
        try clear hne
        go_upto_region 21 with fail
        go_wp2_with fail
        refine (HVC.out _ SM.out).mono ?_
        rintro e wG ⟨rfl, hd⟩
        clear c3 c5 V3 V5 SM SX HVC
        go_wp2_with fail
        go_ret
        exact ⟨rfl, hb.trans (hd.mono hb.size)⟩
      | true =>
        replace HVC : Hid (∀ W, SliceAt W 2 Mem.enc a ms → Calls Tryz.prog 23 #[.agg #[.slice a ms.length cap]] W fun e w' => e = .returned (.bool true) ∧ Below W.heap.size W w') := Lib.hid (fun W h => by
          have := HVC.out W h
          rwa [hcl] at this)
        obtain ⟨hx1, hx2⟩ := HX2.out hcl
        subst hx1
        subst hx2
        have HSC : Hid (∀ W, SliceAt W 2 Mem.enc a5 X → SliceAt W 2 Mem.enc a X → Calls Tryz.prog 20 #[.agg #[.slice a5 X.length cap5], .agg #[.slice a X.length cap]] W fun e w' => e = .returned (.bool true) ∧ Below W.heap.size W w') := Lib.hid (fun W h1 h2 => by
          have := specSameClub_any X X a5 a cap5 cap W h1 h2 hXl hXl
          rwa [sameM_self] at this)
        clear hcl HX2 V8 V10 V12 V14 V17 V19 V27 V28
        try clear hne
        go_upto_region 21 with fail
        go_wp2_with fail
        refine (HVC.out _ SM.out).mono ?_
        rintro e wG ⟨rfl, hd⟩
        replace c3 := cell_kept c3 hd
        replace c5 := cell_kept c5 hd
        replace SX := Lib.hid (SX.out.kept hd)
        replace SM := Lib.hid (SM.out.kept hd)
        replace hb := hb.trans (hd.mono hb.size)
        clear hd HVC V3 V5
        go_wp2_with fail
        refine (HSC.out _ SX.out SM.out).mono ?_
        rintro e wH ⟨rfl, hd⟩
        clear c3 c5 SM SX HSC
        go_wp2_with fail
        go_ret
        exact ⟨rfl, hb.trans (hd.mono hb.size)⟩
    | false =>
      have hne := hSno hro
      obtain ⟨zr, hzr⟩ : ∃ zr : Res, (⟨⟨#[]⟩, ⟨#[]⟩, 0, 0⟩ : Res) = zr := ⟨_, rfl⟩
      replace HBK : Hid (∀ W, Env W → Calls Tryz.prog 12 #[.string (resultText r)] W fun e w' => e = .returned (.tuple #[.agg #[.string zr.a, .string zr.b, .int .i64 zr.sa, .int .i64 zr.sb], .bool false]) ∧ Below W.heap.size W w') := Lib.hid (fun W h => by
        have := HBK.out W h
        rw [hro, if_neg (by decide)] at this
        rw [← hzr]
        exact this)
      clear hzr
      clear hSne hSno hSz hro
      generalize resultText r = S at *
      subst hne
      have hne := @empty_is
      go_wp2_with fail
      clear hw hB
      refine HS1.out.mono ?_
      rintro e w14 ⟨rfl, hd⟩
      replace hb := hb.trans ((hd).mono hb.size)
      try replace V3 := Lib.hid (V3.out.kept hd)
      try replace V5 := Lib.hid (V5.out.kept hd)
      try replace V8 := Lib.hid (V8.out.kept hd)
      try replace V10 := Lib.hid (V10.out.kept hd)
      try replace V12 := Lib.hid (V12.out.kept hd)
      try replace V14 := Lib.hid (V14.out.kept hd)
      try replace V17 := Lib.hid (V17.out.kept hd)
      try replace V19 := Lib.hid (V19.out.kept hd)
      try replace V21 := Lib.hid (V21.out.kept hd)
      try replace SM := Lib.hid (SM.out.kept hd)
      try replace SX := Lib.hid (SX.out.kept hd)
      try replace SY := Lib.hid (SY.out.kept hd)
      try replace SZ := Lib.hid (SZ.out.kept hd)
      try replace SD := Lib.hid (SD.out.kept hd)
      try replace SP := Lib.hid (SP.out.kept hd)
      try replace SQ := Lib.hid (SQ.out.kept hd)
      clear hd HS1 q0 q1 q2 q3
      go_wp2_with fail
      refine (HBK.out w14 (HE.out.kept hb)).mono ?_
      rintro e w15 ⟨rfl, hd⟩
      replace hb := hb.trans ((hd).mono hb.size)
      try replace V3 := Lib.hid (V3.out.kept hd)
      try replace V5 := Lib.hid (V5.out.kept hd)
      try replace V8 := Lib.hid (V8.out.kept hd)
      try replace V10 := Lib.hid (V10.out.kept hd)
      try replace V12 := Lib.hid (V12.out.kept hd)
      try replace V14 := Lib.hid (V14.out.kept hd)
      try replace V17 := Lib.hid (V17.out.kept hd)
      try replace V19 := Lib.hid (V19.out.kept hd)
      try replace V21 := Lib.hid (V21.out.kept hd)
      try replace SM := Lib.hid (SM.out.kept hd)
      try replace SX := Lib.hid (SX.out.kept hd)
      try replace SY := Lib.hid (SY.out.kept hd)
      try replace SZ := Lib.hid (SZ.out.kept hd)
      try replace SD := Lib.hid (SD.out.kept hd)
      try replace SP := Lib.hid (SP.out.kept hd)
      try replace SQ := Lib.hid (SQ.out.kept hd)
      clear hd HBK
      have hd : Below w15.heap.size w15 (w15.alloc (.cells #[.string (zr).a, .string (zr).b, .int .i64 (zr).sa, .int .i64 (zr).sb] 33)) := (Below.refl _ _).alloc (Nat.le_refl _) _
      have V14 := Lib.hid (VarAt.new w15 33 [.string (zr).a, .string (zr).b, .int .i64 (zr).sa, .int .i64 (zr).sb])
      replace hb := hb.trans ((hd).mono hb.size)
      try replace V3 := Lib.hid (V3.out.kept hd)
      try replace V5 := Lib.hid (V5.out.kept hd)
      try replace V8 := Lib.hid (V8.out.kept hd)
      try replace V10 := Lib.hid (V10.out.kept hd)
      try replace V12 := Lib.hid (V12.out.kept hd)
      try replace V14 := Lib.hid (V14.out.kept hd)
      try replace V17 := Lib.hid (V17.out.kept hd)
      try replace V19 := Lib.hid (V19.out.kept hd)
      try replace V21 := Lib.hid (V21.out.kept hd)
      try replace SM := Lib.hid (SM.out.kept hd)
      try replace SX := Lib.hid (SX.out.kept hd)
      try replace SY := Lib.hid (SY.out.kept hd)
      try replace SZ := Lib.hid (SZ.out.kept hd)
      try replace SD := Lib.hid (SD.out.kept hd)
      try replace SP := Lib.hid (SP.out.kept hd)
      try replace SQ := Lib.hid (SQ.out.kept hd)
      clear hd
      generalize hB : w15.heap.size = B14 at *
      obtain ⟨w16, hw⟩ : ∃ wx, w15.alloc (.cells #[.string (zr).a, .string (zr).b, .int .i64 (zr).sa, .int .i64 (zr).sb] 33) = wx := ⟨_, rfl⟩
      rw [hw] at V14
      rw [hw] at hb
      try rw [hw] at V3
      try rw [hw] at V5
      try rw [hw] at V8
      try rw [hw] at V10
      try rw [hw] at V12
      try rw [hw] at V14
      try rw [hw] at V17
      try rw [hw] at V19
      try rw [hw] at V21
      try rw [hw] at SM
      try rw [hw] at SX
      try rw [hw] at SY
      try rw [hw] at SZ
      try rw [hw] at SD
      try rw [hw] at SP
      try rw [hw] at SQ
      go_wp2_with fail
      clear hw hB
      -- a text that is seldom a result's
      refine (DrawReadResult_any ca ccap bs w16 (HC.out.later hb hb.size)).mono ?_
      rintro e w17 ⟨v, rfl, hv, hd⟩
      replace hb := hb.trans ((hd).mono hb.size)
      try replace V3 := Lib.hid (V3.out.kept hd)
      try replace V5 := Lib.hid (V5.out.kept hd)
      try replace V8 := Lib.hid (V8.out.kept hd)
      try replace V10 := Lib.hid (V10.out.kept hd)
      try replace V12 := Lib.hid (V12.out.kept hd)
      try replace V14 := Lib.hid (V14.out.kept hd)
      try replace V17 := Lib.hid (V17.out.kept hd)
      try replace V19 := Lib.hid (V19.out.kept hd)
      try replace V21 := Lib.hid (V21.out.kept hd)
      try replace SM := Lib.hid (SM.out.kept hd)
      try replace SX := Lib.hid (SX.out.kept hd)
      try replace SY := Lib.hid (SY.out.kept hd)
      try replace SZ := Lib.hid (SZ.out.kept hd)
      try replace SD := Lib.hid (SD.out.kept hd)
      try replace SP := Lib.hid (SP.out.kept hd)
      try replace SQ := Lib.hid (SQ.out.kept hd)
      clear hd
      obtain ⟨P, five, HRP, HRQ⟩ : ∃ (P : Res) (five : Bool), Hid (∀ W, Env W → Calls Tryz.prog 12 #[.string v] W fun e w' => e = .returned (.tuple #[.agg #[.string P.a, .string P.b, .int .i64 P.sa, .int .i64 P.sb], .bool five]) ∧ Below W.heap.size W w') ∧ Hid (∀ W, Calls Tryz.prog 14 #[.string v] W fun e w' => e = .returned (.tuple #[.agg #[.string P.a, .string P.b, .int .i64 P.sa, .int .i64 P.sb], .bool five]) ∧ Below W.heap.size W w') :=
        ⟨resOf (readRes v.data.toList), (readRes v.data.toList).isSome, Lib.hid (fun W h => ReadResult_any v W h (by omega)), Lib.hid (fun W => by rw [readRes_eq]; exact specReadResult_any v W (by omega))⟩
      go_wp2_with fail
      refine (HRP.out w17 (HE.out.kept hb)).mono ?_
      rintro e w18 ⟨rfl, hd⟩
      replace hb := hb.trans ((hd).mono hb.size)
      try replace V3 := Lib.hid (V3.out.kept hd)
      try replace V5 := Lib.hid (V5.out.kept hd)
      try replace V8 := Lib.hid (V8.out.kept hd)
      try replace V10 := Lib.hid (V10.out.kept hd)
      try replace V12 := Lib.hid (V12.out.kept hd)
      try replace V14 := Lib.hid (V14.out.kept hd)
      try replace V17 := Lib.hid (V17.out.kept hd)
      try replace V19 := Lib.hid (V19.out.kept hd)
      try replace V21 := Lib.hid (V21.out.kept hd)
      try replace SM := Lib.hid (SM.out.kept hd)
      try replace SX := Lib.hid (SX.out.kept hd)
      try replace SY := Lib.hid (SY.out.kept hd)
      try replace SZ := Lib.hid (SZ.out.kept hd)
      try replace SD := Lib.hid (SD.out.kept hd)
      try replace SP := Lib.hid (SP.out.kept hd)
      try replace SQ := Lib.hid (SQ.out.kept hd)
      clear hd HRP
      have hd : Below w18.heap.size w18 (w18.alloc (.cells #[.string P.a, .string P.b, .int .i64 P.sa, .int .i64 P.sb] 33)) := (Below.refl _ _).alloc (Nat.le_refl _) _
      have V17 := Lib.hid (VarAt.new w18 33 [.string P.a, .string P.b, .int .i64 P.sa, .int .i64 P.sb])
      replace hb := hb.trans ((hd).mono hb.size)
      try replace V3 := Lib.hid (V3.out.kept hd)
      try replace V5 := Lib.hid (V5.out.kept hd)
      try replace V8 := Lib.hid (V8.out.kept hd)
      try replace V10 := Lib.hid (V10.out.kept hd)
      try replace V12 := Lib.hid (V12.out.kept hd)
      try replace V14 := Lib.hid (V14.out.kept hd)
      try replace V17 := Lib.hid (V17.out.kept hd)
      try replace V19 := Lib.hid (V19.out.kept hd)
      try replace V21 := Lib.hid (V21.out.kept hd)
      try replace SM := Lib.hid (SM.out.kept hd)
      try replace SX := Lib.hid (SX.out.kept hd)
      try replace SY := Lib.hid (SY.out.kept hd)
      try replace SZ := Lib.hid (SZ.out.kept hd)
      try replace SD := Lib.hid (SD.out.kept hd)
      try replace SP := Lib.hid (SP.out.kept hd)
      try replace SQ := Lib.hid (SQ.out.kept hd)
      clear hd
      generalize hB : w18.heap.size = B17 at *
      obtain ⟨w19, hw⟩ : ∃ wx, w18.alloc (.cells #[.string P.a, .string P.b, .int .i64 P.sa, .int .i64 P.sb] 33) = wx := ⟨_, rfl⟩
      rw [hw] at V17
      rw [hw] at hb
      try rw [hw] at V3
      try rw [hw] at V5
      try rw [hw] at V8
      try rw [hw] at V10
      try rw [hw] at V12
      try rw [hw] at V14
      try rw [hw] at V17
      try rw [hw] at V19
      try rw [hw] at V21
      try rw [hw] at SM
      try rw [hw] at SX
      try rw [hw] at SY
      try rw [hw] at SZ
      try rw [hw] at SD
      try rw [hw] at SP
      try rw [hw] at SQ
      go_wp2_with fail
      clear hw hB
      refine (HRQ.out w19).mono ?_
      rintro e w20 ⟨rfl, hd⟩
      replace hb := hb.trans ((hd).mono hb.size)
      try replace V3 := Lib.hid (V3.out.kept hd)
      try replace V5 := Lib.hid (V5.out.kept hd)
      try replace V8 := Lib.hid (V8.out.kept hd)
      try replace V10 := Lib.hid (V10.out.kept hd)
      try replace V12 := Lib.hid (V12.out.kept hd)
      try replace V14 := Lib.hid (V14.out.kept hd)
      try replace V17 := Lib.hid (V17.out.kept hd)
      try replace V19 := Lib.hid (V19.out.kept hd)
      try replace V21 := Lib.hid (V21.out.kept hd)
      try replace SM := Lib.hid (SM.out.kept hd)
      try replace SX := Lib.hid (SX.out.kept hd)
      try replace SY := Lib.hid (SY.out.kept hd)
      try replace SZ := Lib.hid (SZ.out.kept hd)
      try replace SD := Lib.hid (SD.out.kept hd)
      try replace SP := Lib.hid (SP.out.kept hd)
      try replace SQ := Lib.hid (SQ.out.kept hd)
      clear hd HRQ
      have hd : Below w20.heap.size w20 (w20.alloc (.cells #[.string P.a, .string P.b, .int .i64 P.sa, .int .i64 P.sb] 33)) := (Below.refl _ _).alloc (Nat.le_refl _) _
      have V19 := Lib.hid (VarAt.new w20 33 [.string P.a, .string P.b, .int .i64 P.sa, .int .i64 P.sb])
      replace hb := hb.trans ((hd).mono hb.size)
      try replace V3 := Lib.hid (V3.out.kept hd)
      try replace V5 := Lib.hid (V5.out.kept hd)
      try replace V8 := Lib.hid (V8.out.kept hd)
      try replace V10 := Lib.hid (V10.out.kept hd)
      try replace V12 := Lib.hid (V12.out.kept hd)
      try replace V14 := Lib.hid (V14.out.kept hd)
      try replace V17 := Lib.hid (V17.out.kept hd)
      try replace V19 := Lib.hid (V19.out.kept hd)
      try replace V21 := Lib.hid (V21.out.kept hd)
      try replace SM := Lib.hid (SM.out.kept hd)
      try replace SX := Lib.hid (SX.out.kept hd)
      try replace SY := Lib.hid (SY.out.kept hd)
      try replace SZ := Lib.hid (SZ.out.kept hd)
      try replace SD := Lib.hid (SD.out.kept hd)
      try replace SP := Lib.hid (SP.out.kept hd)
      try replace SQ := Lib.hid (SQ.out.kept hd)
      clear hd
      generalize hB : w20.heap.size = B19 at *
      obtain ⟨w21, hw⟩ : ∃ wx, w20.alloc (.cells #[.string P.a, .string P.b, .int .i64 P.sa, .int .i64 P.sb] 33) = wx := ⟨_, rfl⟩
      rw [hw] at V19
      rw [hw] at hb
      try rw [hw] at V3
      try rw [hw] at V5
      try rw [hw] at V8
      try rw [hw] at V10
      try rw [hw] at V12
      try rw [hw] at V14
      try rw [hw] at V17
      try rw [hw] at V19
      try rw [hw] at V21
      try rw [hw] at SM
      try rw [hw] at SX
      try rw [hw] at SY
      try rw [hw] at SZ
      try rw [hw] at SD
      try rw [hw] at SP
      try rw [hw] at SQ
      go_wp2_with fail
      clear hw hB
      -- a rating
      refine (DrawRatingOf_any ca ccap bs w21 (HC.out.later hb hb.size)).mono ?_
      rintro e w22 ⟨a21, cap21, dm, nm, rfl, h21, hl21, hf21, hnm, hd⟩
      replace hb := hb.trans ((hd).mono hb.size)
      try replace V3 := Lib.hid (V3.out.kept hd)
      try replace V5 := Lib.hid (V5.out.kept hd)
      try replace V8 := Lib.hid (V8.out.kept hd)
      try replace V10 := Lib.hid (V10.out.kept hd)
      try replace V12 := Lib.hid (V12.out.kept hd)
      try replace V14 := Lib.hid (V14.out.kept hd)
      try replace V17 := Lib.hid (V17.out.kept hd)
      try replace V19 := Lib.hid (V19.out.kept hd)
      try replace V21 := Lib.hid (V21.out.kept hd)
      try replace SM := Lib.hid (SM.out.kept hd)
      try replace SX := Lib.hid (SX.out.kept hd)
      try replace SY := Lib.hid (SY.out.kept hd)
      try replace SZ := Lib.hid (SZ.out.kept hd)
      try replace SD := Lib.hid (SD.out.kept hd)
      try replace SP := Lib.hid (SP.out.kept hd)
      try replace SQ := Lib.hid (SQ.out.kept hd)
      have SD := Lib.hid h21
      clear hd h21
      have hd : Below w22.heap.size w22 (w22.alloc (.cells #[.slice a21 dm.length cap21] 26)) := (Below.refl _ _).alloc (Nat.le_refl _) _
      have V21 := Lib.hid (VarAt.new w22 26 [.slice a21 dm.length cap21])
      replace hb := hb.trans ((hd).mono hb.size)
      try replace V3 := Lib.hid (V3.out.kept hd)
      try replace V5 := Lib.hid (V5.out.kept hd)
      try replace V8 := Lib.hid (V8.out.kept hd)
      try replace V10 := Lib.hid (V10.out.kept hd)
      try replace V12 := Lib.hid (V12.out.kept hd)
      try replace V14 := Lib.hid (V14.out.kept hd)
      try replace V17 := Lib.hid (V17.out.kept hd)
      try replace V19 := Lib.hid (V19.out.kept hd)
      try replace V21 := Lib.hid (V21.out.kept hd)
      try replace SM := Lib.hid (SM.out.kept hd)
      try replace SX := Lib.hid (SX.out.kept hd)
      try replace SY := Lib.hid (SY.out.kept hd)
      try replace SZ := Lib.hid (SZ.out.kept hd)
      try replace SD := Lib.hid (SD.out.kept hd)
      try replace SP := Lib.hid (SP.out.kept hd)
      try replace SQ := Lib.hid (SQ.out.kept hd)
      clear hd
      generalize hB : w22.heap.size = B21 at *
      obtain ⟨w23, hw⟩ : ∃ wx, w22.alloc (.cells #[.slice a21 dm.length cap21] 26) = wx := ⟨_, rfl⟩
      rw [hw] at V21
      rw [hw] at hb
      try rw [hw] at V3
      try rw [hw] at V5
      try rw [hw] at V8
      try rw [hw] at V10
      try rw [hw] at V12
      try rw [hw] at V14
      try rw [hw] at V17
      try rw [hw] at V19
      try rw [hw] at V21
      try rw [hw] at SM
      try rw [hw] at SX
      try rw [hw] at SY
      try rw [hw] at SZ
      try rw [hw] at SD
      try rw [hw] at SP
      try rw [hw] at SQ
      have c21 := V21.out.cell (i := 0) rfl
      obtain ⟨rn, rc, HR1, HR2⟩ : ∃ rn rc : Int, Hid (∀ W, SliceAt W 2 Mem.enc a21 dm → Calls Tryz.prog 16 #[.agg #[.slice a21 dm.length cap21], .string nm] W fun e w' => e = .returned (.tuple #[.int .i64 rn, .int .i64 rc]) ∧ Below W.heap.size W w') ∧ Hid (∀ W, SliceAt W 2 Mem.enc a21 dm → Calls Tryz.prog 17 #[.agg #[.slice a21 dm.length cap21], .string nm] W fun e w' => e = .returned (.tuple #[.int .i64 rn, .int .i64 rc]) ∧ Below W.heap.size W w') :=
        ⟨(ratingOf dm nm).1, (ratingOf dm nm).2, Lib.hid (fun W h => RatingOf_any dm nm a21 cap21 W h (by omega) hf21), Lib.hid (fun W h => specRatingOf_any dm nm a21 cap21 W h (by omega) hf21)⟩
      clear hf21
      go_wp2_with fail
      clear hw hB
      refine (HR1.out w23 SD.out).mono ?_
      rintro e w24 ⟨rfl, hd⟩
      replace c21 := cell_kept c21 hd
      replace hb := hb.trans ((hd).mono hb.size)
      try replace V3 := Lib.hid (V3.out.kept hd)
      try replace V5 := Lib.hid (V5.out.kept hd)
      try replace V8 := Lib.hid (V8.out.kept hd)
      try replace V10 := Lib.hid (V10.out.kept hd)
      try replace V12 := Lib.hid (V12.out.kept hd)
      try replace V14 := Lib.hid (V14.out.kept hd)
      try replace V17 := Lib.hid (V17.out.kept hd)
      try replace V19 := Lib.hid (V19.out.kept hd)
      try replace V21 := Lib.hid (V21.out.kept hd)
      try replace SM := Lib.hid (SM.out.kept hd)
      try replace SX := Lib.hid (SX.out.kept hd)
      try replace SY := Lib.hid (SY.out.kept hd)
      try replace SZ := Lib.hid (SZ.out.kept hd)
      try replace SD := Lib.hid (SD.out.kept hd)
      try replace SP := Lib.hid (SP.out.kept hd)
      try replace SQ := Lib.hid (SQ.out.kept hd)
      clear hd HR1
      go_wp2_with fail
      refine (HR2.out w24 SD.out).mono ?_
      rintro e w25 ⟨rfl, hd⟩
      replace hb := hb.trans ((hd).mono hb.size)
      try replace V3 := Lib.hid (V3.out.kept hd)
      try replace V5 := Lib.hid (V5.out.kept hd)
      try replace V8 := Lib.hid (V8.out.kept hd)
      try replace V10 := Lib.hid (V10.out.kept hd)
      try replace V12 := Lib.hid (V12.out.kept hd)
      try replace V14 := Lib.hid (V14.out.kept hd)
      try replace V17 := Lib.hid (V17.out.kept hd)
      try replace V19 := Lib.hid (V19.out.kept hd)
      try replace V21 := Lib.hid (V21.out.kept hd)
      try replace SM := Lib.hid (SM.out.kept hd)
      try replace SX := Lib.hid (SX.out.kept hd)
      try replace SY := Lib.hid (SY.out.kept hd)
      try replace SZ := Lib.hid (SZ.out.kept hd)
      try replace SD := Lib.hid (SD.out.kept hd)
      try replace SP := Lib.hid (SP.out.kept hd)
      try replace SQ := Lib.hid (SQ.out.kept hd)
      clear hd HR2 c21
      go_wp2_with fail
      -- two clubs
      refine (DrawSameClub_any ca ccap bs w25 (HC.out.later hb hb.size)).mono ?_
      rintro e w26 ⟨a27, cap27, xs, a28, cap28, ys, rfl, h27, h28, l27, l28, hd⟩
      replace hb := hb.trans ((hd).mono hb.size)
      try replace V3 := Lib.hid (V3.out.kept hd)
      try replace V5 := Lib.hid (V5.out.kept hd)
      try replace V8 := Lib.hid (V8.out.kept hd)
      try replace V10 := Lib.hid (V10.out.kept hd)
      try replace V12 := Lib.hid (V12.out.kept hd)
      try replace V14 := Lib.hid (V14.out.kept hd)
      try replace V17 := Lib.hid (V17.out.kept hd)
      try replace V19 := Lib.hid (V19.out.kept hd)
      try replace V21 := Lib.hid (V21.out.kept hd)
      try replace SM := Lib.hid (SM.out.kept hd)
      try replace SX := Lib.hid (SX.out.kept hd)
      try replace SY := Lib.hid (SY.out.kept hd)
      try replace SZ := Lib.hid (SZ.out.kept hd)
      try replace SD := Lib.hid (SD.out.kept hd)
      try replace SP := Lib.hid (SP.out.kept hd)
      try replace SQ := Lib.hid (SQ.out.kept hd)
      have SP := Lib.hid h27
      have SQ := Lib.hid h28
      clear hd h27 h28 HC SD V21
      have hd : Below w26.heap.size w26 ((w26.alloc (.cells #[.slice a27 xs.length cap27] 26)).alloc (.cells #[.slice a28 ys.length cap28] 26)) := ((Below.refl _ _).alloc (Nat.le_refl _) _).alloc (by simp) _
      have V27 := Lib.hid ((VarAt.new w26 26 [.slice a27 xs.length cap27]).kept ((Below.refl _ _).alloc (Nat.le_refl _) (.cells #[.slice a28 ys.length cap28] 26)))
      have V28 : Hid (VarAt ((w26.alloc (.cells #[.slice a27 xs.length cap27] 26)).alloc (.cells #[.slice a28 ys.length cap28] 26)) (w26.heap.size + 1) 26 [.slice a28 ys.length cap28]) := by
        have := VarAt.new (w26.alloc (.cells #[.slice a27 xs.length cap27] 26)) 26 [.slice a28 ys.length cap28]
        simp only [World.size_alloc] at this
        exact Lib.hid this
      replace hb := hb.trans ((hd).mono hb.size)
      try replace V3 := Lib.hid (V3.out.kept hd)
      try replace V5 := Lib.hid (V5.out.kept hd)
      try replace V8 := Lib.hid (V8.out.kept hd)
      try replace V10 := Lib.hid (V10.out.kept hd)
      try replace V12 := Lib.hid (V12.out.kept hd)
      try replace V14 := Lib.hid (V14.out.kept hd)
      try replace V17 := Lib.hid (V17.out.kept hd)
      try replace V19 := Lib.hid (V19.out.kept hd)
      try replace V21 := Lib.hid (V21.out.kept hd)
      try replace SM := Lib.hid (SM.out.kept hd)
      try replace SX := Lib.hid (SX.out.kept hd)
      try replace SY := Lib.hid (SY.out.kept hd)
      try replace SZ := Lib.hid (SZ.out.kept hd)
      try replace SD := Lib.hid (SD.out.kept hd)
      try replace SP := Lib.hid (SP.out.kept hd)
      try replace SQ := Lib.hid (SQ.out.kept hd)
      clear hd
      generalize hB : w26.heap.size = B27 at *
      obtain ⟨wE, hw⟩ : ∃ wE, (w26.alloc (.cells #[.slice a27 xs.length cap27] 26)).alloc (.cells #[.slice a28 ys.length cap28] 26) = wE := ⟨_, rfl⟩
      rw [hw] at V27 V28
      rw [hw] at hb
      try rw [hw] at V3
      try rw [hw] at V5
      try rw [hw] at V8
      try rw [hw] at V10
      try rw [hw] at V12
      try rw [hw] at V14
      try rw [hw] at V17
      try rw [hw] at V19
      try rw [hw] at V21
      try rw [hw] at SM
      try rw [hw] at SX
      try rw [hw] at SY
      try rw [hw] at SZ
      try rw [hw] at SD
      try rw [hw] at SP
      try rw [hw] at SQ
      have HYY : Hid (∀ W, SliceAt W 2 Mem.enc a8 Y → SliceAt W 2 Mem.enc a10 Y → Calls Tryz.prog 20 #[.agg #[.slice a8 Y.length cap8], .agg #[.slice a10 Y.length cap10]] W fun e w' => e = .returned (.bool true) ∧ Below W.heap.size W w') := Lib.hid (fun W h1 h2 => by
        have := specSameClub_any Y Y a8 a10 cap8 cap10 W h1 h2 hYl hYl
        rwa [sameM_self] at this)
      obtain ⟨sb, HSI, HSS⟩ : ∃ sb : Bool, Hid (∀ W, SliceAt W 2 Mem.enc a27 xs → SliceAt W 2 Mem.enc a28 ys → Calls Tryz.prog 22 #[.agg #[.slice a27 xs.length cap27], .agg #[.slice a28 ys.length cap28]] W fun e w' => e = .returned (.bool sb) ∧ Below W.heap.size W w') ∧ Hid (∀ W, SliceAt W 2 Mem.enc a27 xs → SliceAt W 2 Mem.enc a28 ys → Calls Tryz.prog 20 #[.agg #[.slice a27 xs.length cap27], .agg #[.slice a28 ys.length cap28]] W fun e w' => e = .returned (.bool sb) ∧ Below W.heap.size W w') :=
        ⟨sameM xs ys, Lib.hid (fun W h1 h2 => implSameClub_any xs ys a27 a28 cap27 cap28 W h1 h2 l27 l28), Lib.hid (fun W h1 h2 => specSameClub_any xs ys a27 a28 cap27 cap28 W h1 h2 l27 l28)⟩
      have c3 := V3.out.cell (i := 0) rfl
      have c8 := V8.out.cell (i := 0) rfl
      have c10 := V10.out.cell (i := 0) rfl
      have r0 := V12.out.cell (i := 0) (v := .string r.a) rfl
      have r1 := V12.out.cell (i := 1) (v := .string r.b) rfl
      have r2 := V12.out.cell (i := 2) (v := .int .i64 r.sa) rfl
      have r3 := V12.out.cell (i := 3) (v := .int .i64 r.sb) rfl
      have k0 := V14.out.cell (i := 0) (v := .string (zr).a) rfl
      have k1 := V14.out.cell (i := 1) (v := .string (zr).b) rfl
      have k2 := V14.out.cell (i := 2) (v := .int .i64 (zr).sa) rfl
      have k3 := V14.out.cell (i := 3) (v := .int .i64 (zr).sb) rfl
      have m0 := V17.out.cell (i := 0) (v := .string P.a) rfl
      have m1 := V17.out.cell (i := 1) (v := .string P.b) rfl
      have m2 := V17.out.cell (i := 2) (v := .int .i64 P.sa) rfl
      have m3 := V17.out.cell (i := 3) (v := .int .i64 P.sb) rfl
      have n0 := V19.out.cell (i := 0) (v := .string P.a) rfl
      have n1 := V19.out.cell (i := 1) (v := .string P.b) rfl
      have n2 := V19.out.cell (i := 2) (v := .int .i64 P.sa) rfl
      have n3 := V19.out.cell (i := 3) (v := .int .i64 P.sb) rfl
      have c27 := V27.out.cell (i := 0) rfl
      have c28 := V28.out.cell (i := 0) rfl
      go_upto_region 19 with fail
      clear hw hB
      have e3 := cell_regrown c3
      have e8 := cell_regrown c8
      have e10 := cell_regrown c10
      have er0 := cell_regrown r0
      have er1 := cell_regrown r1
      have er2 := cell_regrown r2
      have er3 := cell_regrown r3
      have ek0 := cell_regrown k0
      have ek1 := cell_regrown k1
      have ek2 := cell_regrown k2
      have ek3 := cell_regrown k3
      have em0 := cell_regrown m0
      have em1 := cell_regrown m1
      have em2 := cell_regrown m2
      have em3 := cell_regrown m3
      have en0 := cell_regrown n0
      have en1 := cell_regrown n1
      have en2 := cell_regrown n2
      have en3 := cell_regrown n3
      have e27 := cell_regrown c27
      have e28 := cell_regrown c28
      have hP := fun W => neq_self P W
      skip
      have hg33 := guard_res
      have hb5 : (five != five) = false := bne_self_eq_false five
      have hb2 : (two != two) = false := bne_self_eq_false two
      have hbs : (sb != sb) = false := bne_self_eq_false sb
      refine wp_region_quiet_below (by kernel_rfl) (by kernel_rfl) ?_
      repeat (go_big_quiet_step ((first
        | (go_at_call_of 19 (Value.agg #[Value.slice a ms.length cap]); exact Calls.regrown_of (HT2.out _ (SM.out.kept (below_regrown _ _ _))))
        | (go_at_call_of 20 (Value.agg #[Value.slice a8 Y.length cap8]); exact Calls.regrown_of (HYY.out _ (SY.out.kept (below_regrown _ _ _)) (SZ.out.kept (below_regrown _ _ _))))
        | (go_at_call 21; exact Calls.regrown_of (HS2.out _))
        | (go_at_call 22; exact Calls.regrown_of (HSI.out _ (SP.out.kept (below_regrown _ _ _)) (SQ.out.kept (below_regrown _ _ _))))
        | (go_at_call_of 20 (Value.agg #[Value.slice a27 xs.length cap27]); exact Calls.regrown_of (HSS.out _ (SP.out.kept (below_regrown _ _ _)) (SQ.out.kept (below_regrown _ _ _)))))))
      refine wpQuiet_nil ?_
      intro wF hw'
      have hd : Below wE.heap.size wE wF := below_of_ex hw'
      clear hw'
      clear e3 e8 e10 er0 er1 er2 er3 ek0 ek1 ek2 ek3 em0 em1 em2 em3 en0 en1 en2 en3 e27 e28 c3 c8 c10 r0 r1 r2 r3 k0 k1 k2 k3 m0 m1 m2 m3 n0 n1 n2 n3 c27 c28
      replace hb := hb.trans ((hd).mono hb.size)
      try replace V3 := Lib.hid (V3.out.kept hd)
      try replace V5 := Lib.hid (V5.out.kept hd)
      try replace V8 := Lib.hid (V8.out.kept hd)
      try replace V10 := Lib.hid (V10.out.kept hd)
      try replace V12 := Lib.hid (V12.out.kept hd)
      try replace V14 := Lib.hid (V14.out.kept hd)
      try replace V17 := Lib.hid (V17.out.kept hd)
      try replace V19 := Lib.hid (V19.out.kept hd)
      try replace V21 := Lib.hid (V21.out.kept hd)
      try replace SM := Lib.hid (SM.out.kept hd)
      try replace SX := Lib.hid (SX.out.kept hd)
      try replace SY := Lib.hid (SY.out.kept hd)
      try replace SZ := Lib.hid (SZ.out.kept hd)
      try replace SD := Lib.hid (SD.out.kept hd)
      try replace SP := Lib.hid (SP.out.kept hd)
      try replace SQ := Lib.hid (SQ.out.kept hd)
      clear hd hb5 hb2 hbs hP hg33 HT2 HYY HS2 HSI HSS SY SZ SP SQ HNR
      have c3 := V3.out.cell (i := 0) rfl
      have c5 := V5.out.cell (i := 0) rfl
      cases hcl : clubOk ms with
      | false =>
        replace HVC : Hid (∀ W, SliceAt W 2 Mem.enc a ms → Calls Tryz.prog 23 #[.agg #[.slice a ms.length cap]] W fun e w' => e = .returned (.bool false) ∧ Below W.heap.size W w') := Lib.hid (fun W h => by
          have := HVC.out W h
          rwa [hcl] at this)
        clear hcl HX2 V8 V10 V12 V14 V17 V19 V27 V28
        try clear hne
        go_upto_region 21 with fail
        go_wp2_with fail
        refine (HVC.out _ SM.out).mono ?_
        rintro e wG ⟨rfl, hd⟩
        clear c3 c5 V3 V5 SM SX HVC
        go_wp2_with fail
        go_ret
        exact ⟨rfl, hb.trans (hd.mono hb.size)⟩
      | true =>
        replace HVC : Hid (∀ W, SliceAt W 2 Mem.enc a ms → Calls Tryz.prog 23 #[.agg #[.slice a ms.length cap]] W fun e w' => e = .returned (.bool true) ∧ Below W.heap.size W w') := Lib.hid (fun W h => by
          have := HVC.out W h
          rwa [hcl] at this)
        obtain ⟨hx1, hx2⟩ := HX2.out hcl
        subst hx1
        subst hx2
        have HSC : Hid (∀ W, SliceAt W 2 Mem.enc a5 X → SliceAt W 2 Mem.enc a X → Calls Tryz.prog 20 #[.agg #[.slice a5 X.length cap5], .agg #[.slice a X.length cap]] W fun e w' => e = .returned (.bool true) ∧ Below W.heap.size W w') := Lib.hid (fun W h1 h2 => by
          have := specSameClub_any X X a5 a cap5 cap W h1 h2 hXl hXl
          rwa [sameM_self] at this)
        clear hcl HX2 V8 V10 V12 V14 V17 V19 V27 V28
        try clear hne
        go_upto_region 21 with fail
        go_wp2_with fail
        refine (HVC.out _ SM.out).mono ?_
        rintro e wG ⟨rfl, hd⟩
        replace c3 := cell_kept c3 hd
        replace c5 := cell_kept c5 hd
        replace SX := Lib.hid (SX.out.kept hd)
        replace SM := Lib.hid (SM.out.kept hd)
        replace hb := hb.trans (hd.mono hb.size)
        clear hd HVC V3 V5
        go_wp2_with fail
        refine (HSC.out _ SX.out SM.out).mono ?_
        rintro e wH ⟨rfl, hd⟩
        clear c3 c5 SM SX HSC
        go_wp2_with fail
        go_ret
        exact ⟨rfl, hb.trans (hd.mono hb.size)⟩
end Go.Proofs.YtlbnjdgfggiifaaGreatDoor
