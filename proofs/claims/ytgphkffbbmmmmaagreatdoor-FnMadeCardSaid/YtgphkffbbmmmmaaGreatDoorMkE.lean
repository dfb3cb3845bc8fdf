/- Contract: the reference's parts of a text between bytes. For every text of at most 2^20 by · Contract: the reference's number of a text (at most 18 digits, in decimal form). For every · Contracts: the reference writes and reads a tile set's text. -/
import Derived.Test.YtgphkffbbmmmmaaGreatDoorVar
import Derived.Test.YtgphkffbbmmmmaaGreatDoorMkU
import Derived.Handy
import Derived.OwnWalk
import Derived.Deep.DeepMust
import Derived.Laws.AppendOwn
import Derived.Test.YtgphkffbbmmmmaaGreatDoorGsA
import Derived.Test.YtgphkffbbmmmmaaGreatDoorFrame
import Derived.Deep.QuietTactic
import Derived.BigQuiet
import Derived.Deep.CutBlock
import Derived.Deep.DeepCutAuto
import Derived.Test.YtgphkffbbmmmmaaGreatDoorGpI
import Derived.Test.YtgphkffbbmmmmaaGreatDoorMkS
import Derived.Deep.RegionHeld3
namespace Go.Proofs.YtgphkffbbmmmmaaGreatDoor
open Go.ChangeShapes Go.WideShapes Go.ChangeAt Go.RowKit Go.Sort

end Go.Proofs.YtgphkffbbmmmmaaGreatDoor
namespace Go.Proofs.YtgphkffbbmmmmaaGreatDoor
open Go.ChangeShapes Go.WideShapes Go.ChangeAt Go.RowKit Go.Sort

/-- a number, or none, in new memory -/
def NumPost (o:Option Int) (w:World) (e:Ending) (w':World):Prop:=e=.returned (.tuple #[.int .i64 (o.getD 0),.bool o.isSome])∧Below w.heap.size w w'
end Go.Proofs.YtgphkffbbmmmmaaGreatDoor
namespace Go.Proofs.YtgphkffbbmmmmaaGreatDoor
open Go.ChangeShapes Go.WideShapes Go.ChangeAt Go.RowKit Go.Sort

theorem tile_nums {t:Tls} (h:t.ok=true) {i:Nat} (hi:i < t.letters.size):(0≤t.values.getD i 0∧t.values.getD i 0≤20)∧(0≤t.counts.getD i 0∧t.counts.getD i 0≤20)∧i < t.values.length∧i < t.counts.length:=by
 have hg:=Tls.good h
 obtain ⟨hb,hc⟩:=Tls.counts_rng h
 have h2:=hg.counts
 have h3:=hg.values
 exact ⟨hg.range i hi,hc i,by omega,by omega⟩
theorem letter_one {s:ByteArray} {i:Nat} (hi:i < s.size):s.extract i (i+1)=mkB [s.data.toList.getD i 0]:=by
 have hl:i < s.data.toList.length:=by simpa using hi
 have e:(s.extract i (i+1)).data.toList=[s.data.toList.getD i 0]:=by
  rw [show (s.extract i (i+1)).data.toList=(s.data.toList.take (i+1)).drop i from by simp [List.drop_take],List.take_succ_eq_append_getElem hl,List.drop_append_of_le_length (by simp;omega),List.drop_eq_nil_of_le (by simp;omega)]
  rw [List.getD_eq_getElem?_getD,List.getElem?_eq_getElem hl]
  rfl
 rw [← mkB_of (s.extract i (i+1)),e]
theorem tile_text (t:Tls) (i:Nat):mkB [t.letters.data.toList.getD i 0]++mkB (Lib.itoa (t.values.getD i 0))++⟨#[120]⟩++mkB (Lib.itoa (t.counts.getD i 0))=mkB (tileW t i):=by
 unfold tileW
 simp only [cat_mk,mkB_data,List.append_assoc,List.singleton_append]
 rfl
end Go.Proofs.YtgphkffbbmmmmaaGreatDoor
