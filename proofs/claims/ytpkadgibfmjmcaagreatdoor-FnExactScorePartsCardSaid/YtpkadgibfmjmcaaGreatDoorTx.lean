/- Plain definitions: texts and numbers in rows, one cell each. No condition. -/
import Derived.Test.YtpkadgibfmjmcaaGreatDoorRow
import Derived.Test.YtpkadgibfmjmcaaGreatDoorText
namespace Go.Proofs.YtpkadgibfmjmcaaGreatDoor
open Go.ChangeShapes Go.WideShapes Go.ChangeAt Go.RowKit Go.Sort

def Tx.enc (s : ByteArray) : List Value := [.string s]
theorem Tx.enc_len (s : ByteArray) : (Tx.enc s).length = 1 := rfl
def I64.enc (x : Int) : List Value := [.int .i64 x]
theorem I64.enc_len (x : Int) : (I64.enc x).length = 1 := rfl
theorem tx_one (s : ByteArray) : ∀ u ∈ Tx.enc s, u.oneCell' = true := by
  intro u hu
  simp only [Tx.enc, List.mem_cons, List.not_mem_nil, or_false] at hu
  subst hu
  rfl
theorem i64_one (x : Int) : ∀ u ∈ I64.enc x, u.oneCell' = true := by
  intro u hu
  simp only [I64.enc, List.mem_cons, List.not_mem_nil, or_false] at hu
  subst hu
  rfl
theorem new_tx (w : World) (x : ByteArray) (e : TypeId) : ∀ j u, (Tx.enc x)[j]? = some u → (w.alloc (.cells #[.string x] e)).cell? ((⟨w.heap.size, 0, none⟩ : Addr).add j) = some u := by
  intro j u hu
  rw [Go.Addr.add_lit, Nat.zero_add]
  match j, hu with
  | 0, hu =>
    simp only [Tx.enc, List.getElem?_cons_zero, Option.some.injEq] at hu
    subst hu
    exact cell_new0 w _ e rfl
  | j + 1, hu => simp [Tx.enc] at hu
theorem new_i64 (w : World) (x : Int) (e : TypeId) : ∀ j u, (I64.enc x)[j]? = some u → (w.alloc (.cells #[.int .i64 x] e)).cell? ((⟨w.heap.size, 0, none⟩ : Addr).add j) = some u := by
  intro j u hu
  rw [Go.Addr.add_lit, Nat.zero_add]
  match j, hu with
  | 0, hu =>
    simp only [I64.enc, List.getElem?_cons_zero, Option.some.injEq] at hu
    subst hu
    exact cell_new0 w _ e rfl
  | j + 1, hu => simp [I64.enc] at hu
theorem infoTx : (Tryz.prog.info? 9).map (fun i => (i.zero, i.size, i.bytes)) = some (some (.string ⟨#[]⟩), 1, 16) := by kernel_rfl
theorem infoI64 : (Tryz.prog.info? 2).map (fun i => (i.zero, i.size, i.bytes)) = some (some (.int .i64 0), 1, 8) := by kernel_rfl
/-- texts in a row of the call's own -/
def TextsPost (w : World) (xs : List ByteArray) (e : Ending) (w' : World) : Prop :=
  ∃ g cap, e = .returned (.slice (some ⟨g, 0, none⟩) xs.length cap) ∧ w'.ownsRow w.heap.size 9 1 (.slice (some ⟨g, 0, none⟩) xs.length cap) xs.length (xs.flatMap Tx.enc) ∧ Below w.heap.size w w'
end Go.Proofs.YtpkadgibfmjmcaaGreatDoor
