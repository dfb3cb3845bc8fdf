/- Contracts: the standard words, the reference's and the program's. Leans on the variable MaxLen of internal/bytealg. -/
import Derived.Test.YtjknpmdmchlfcaaDoorSplI
import Derived.Test.YtjknpmdmchlfcaaDoorTx
namespace Go.Proofs.YtjknpmdmchlfcaaDoor
open Go.ChangeShapes Go.WideShapes Go.ChangeAt Go.RowKit Go.Sort

def stdWords : List ByteArray := [⟨#[97, 110]⟩, ⟨#[97, 110, 116]⟩, ⟨#[97, 110, 116, 115]⟩, ⟨#[97, 114, 101]⟩, ⟨#[97, 115]⟩, ⟨#[97, 116]⟩, ⟨#[97, 116, 101]⟩, ⟨#[101, 97, 114]⟩, ⟨#[101, 97, 114, 110]⟩, ⟨#[101, 97, 116]⟩, ⟨#[101, 97, 116, 115]⟩, ⟨#[101, 110]⟩, ⟨#[101, 114]⟩, ⟨#[101, 115]⟩, ⟨#[110, 101]⟩, ⟨#[110, 101, 97, 114]⟩, ⟨#[110, 101, 115, 116]⟩, ⟨#[110, 101, 116]⟩, ⟨#[114, 97, 116]⟩, ⟨#[114, 97, 116, 101]⟩, ⟨#[114, 101, 115, 116]⟩, ⟨#[115, 97, 116]⟩, ⟨#[115, 101, 97]⟩, ⟨#[115, 101, 97, 116]⟩, ⟨#[115, 101, 116]⟩, ⟨#[116, 97]⟩, ⟨#[116, 97, 114]⟩, ⟨#[116, 101, 97]⟩, ⟨#[116, 101, 110]⟩, ⟨#[116, 101, 114, 110]⟩, ⟨#[116, 101, 115, 116]⟩]
def stdText : ByteArray := ⟨#[97, 110, 32, 97, 110, 116, 32, 97, 110, 116, 115, 32, 97, 114, 101, 32, 97, 115, 32, 97, 116, 32, 97, 116, 101, 32, 101, 97, 114, 32, 101, 97, 114, 110, 32, 101, 97, 116, 32, 101, 97, 116, 115, 32, 101, 110, 32, 101, 114, 32, 101, 115, 32, 110, 101, 32, 110, 101, 97, 114, 32, 110, 101, 115, 116, 32, 110, 101, 116, 32, 114, 97, 116, 32, 114, 97, 116, 101, 32, 114, 101, 115, 116, 32, 115, 97, 116, 32, 115, 101, 97, 32, 115, 101, 97, 116, 32, 115, 101, 116, 32, 116, 97, 32, 116, 97, 114, 32, 116, 101, 97, 32, 116, 101, 110, 32, 116, 101, 114, 110, 32, 116, 101, 115, 116]⟩
theorem std_split : (splitL 32 stdText.data.toList).map mkB = stdWords := by kernel_rfl
theorem own_lit (w : World) (xs : List ByteArray) (t : TypeId) (cs : Array Value) (hc : cs = (xs.map Value.string).toArray) (n : Nat) (hn : n = xs.length) (hl : xs.length ≤ 1099511627776) : (w.alloc (.cells cs t)).ownsRow w.heap.size t 1 (.slice (some ⟨w.heap.size, 0, none⟩) n n) n (xs.flatMap Tx.enc) := by
  subst hc hn
  exact own_new_texts w xs t hl
set_option maxRecDepth 100000 in
set_option maxHeartbeats 2000000 in
theorem l27Words_any (w : World) : Calls Tryd.prog 9 #[] w (TextsPost w stdWords) := by
  go_enter Tryd.func9, Tryd.ntmps9
  go_wp2
  go_ret
  exact ⟨w.heap.size, 31, rfl, own_lit w stdWords _ _ rfl _ rfl (by decide), (Below.refl _ _).alloc (Nat.le_refl _) _⟩
set_option maxRecDepth 100000 in
theorem specStandardWords_any (w : World) : Calls Tryd.prog 4 #[] w (TextsPost w stdWords) := by
  have H := Lib.hid (l27Words_any w)
  go_enter Tryd.func4, Tryd.ntmps4
  go_wp2_with fail
  refine H.out.mono ?_
  rintro e w2 ⟨g, cap, rfl, ho, hd⟩
  go_wp2
  go_ret
  exact ⟨g, cap, rfl, ho, hd⟩
set_option maxRecDepth 100000 in
theorem StandardWords_any (w : World) (he : EnvM w) : Calls Tryd.prog 5 #[] w (TextsPost w stdWords) := by
  have H : Hid (Calls Tryd.prog 10 #[.string stdText, .string ⟨#[32]⟩] w (TextsPost w stdWords)) := Lib.hid (by
    have h := splitM_any stdText 32 w he (by decide)
    rwa [std_split] at h)
  go_enter Tryd.func5, Tryd.ntmps5
  go_wp2_with fail
  refine H.out.mono ?_
  rintro e w2 ⟨g, cap, rfl, ho, hd⟩
  go_wp2
  go_ret
  exact ⟨g, cap, rfl, ho, hd⟩
end Go.Proofs.YtjknpmdmchlfcaaDoor
