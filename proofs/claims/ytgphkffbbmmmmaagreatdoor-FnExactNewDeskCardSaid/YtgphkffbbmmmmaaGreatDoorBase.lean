/- Plain definitions and lemmas on memory that the seat's walks share: slices that lie in memory, worlds that keep old memory. No condition. · More on rows: a slice's cells as a row; one cell of a row set. No program. · Contracts of the small functions on bytes, numbers and names (IsName, within, ..), of the program and of the reference. No condition. · Contract of the statements' own markText (m and the decimal digits of a number). · Plain definitions: where a row lies; a row of the call's own bears a store into elder memory. No condition. -/
import Derived.WalkKit
import Derived.ProofKit
import Derived.WalkLawsBesides
import Derived.Outline
import Derived.Lib.Hide
import Derived.BigQuiet
import Derived.Deep.QuietTactic
import Derived.Lib.QuietBelow
import Derived.Handy
import Derived.Test.YtgphkffbbmmmmaaGreatDoorProg
set_option maxRecDepth 100000
set_option maxHeartbeats 1000000
namespace Go.Proofs.YtgphkffbbmmmmaaGreatDoor
open Go.ChangeShapes Go.WideShapes Go.ChangeAt Go.RowKit
/-- a fact, hidden -/
theorem Lh {p:Prop} (h:p):Hid p:=Lib.hid h

/-- The world after some draws. -/
def Drew (w w':World):Prop:=∃ n,w'=w.drewN n
theorem Drew.refl (w:World):Drew w w:=⟨0,rfl⟩
theorem Drew.trans {a b c:World} (h:Drew a b) (k:Drew b c):Drew a c:=by
 obtain ⟨n,rfl⟩:=h
 obtain ⟨m,rfl⟩:=k
 exact ⟨n+m,by rw [World.drewN_drewN]⟩
theorem Drew.drewN {a b:World} (h:Drew a b) (n:Nat):Drew a (b.drewN n):=h.trans ⟨n,rfl⟩
theorem Drew.drew {a b:World} (h:Drew a b):Drew a b.drew:=h.trans ⟨1,rfl⟩
theorem drewN_heap (w:World) (n:Nat):(w.drewN n).heap=w.heap:=by
 cases n<;>rfl
theorem Drew.heap {a b:World} (h:Drew a b):b.heap=a.heap:=by
 obtain ⟨n,rfl⟩:=h
 exact drewN_heap a n
theorem Drew.cell {a b:World} (h:Drew a b) (p:Addr):b.cell? p=a.cell? p:=by simp [World.cell?,h.heap]
theorem Drew.frozen {a b:World} (h:Drew a b) (p:Addr):b.frozen? p=a.frozen? p:=by simp [World.frozen?,h.heap]
theorem Drew.below {a b:World} (h:Drew a b) (B:Nat):Below B a b:=by
 obtain ⟨n,rfl⟩:=h
 induction n with
 | zero=>exact Below.refl _ _
 | succ n ih=>exact ⟨rfl,rfl,rfl,Nat.le_refl _,fun _ _=>rfl⟩
/-- .. and one that leaves the world alone. -/
theorem quiet_of_eq {P:Program} {f:FuncId} {args:Array Value} {w:World} {n:Nat} {v:Value}
  (h:Calls P f args (w.drewN n) fun e w'=>e=.returned v∧w.drewN n=w'):Calls P f args (w.drewN n) fun e w''=>e=.returned v∧∃ m,w''=w.drewN m :=
 h.mono fun _ _ ⟨he,hm⟩=>⟨he,n,hm.symm⟩

theorem ret_bool {a b:Bool} (h:a=b):Ending.returned (.bool a)=.returned (.bool b):=by rw [h]
theorem ret_int {k:IntKind} {a b:Int} (h:a=b):Ending.returned (.int k a)=.returned (.int k b):=by rw [h]

/-- A slice's elements (of sz cells each) lie in memory. -/
def SliceAt {α:Type} (w:World) (sz:Nat) (enc:α→List Value) (a:Option Addr) (xs:List α):Prop :=
 xs=[]∨∃ b off,a=some ⟨b,off,none⟩∧∀ i (h:i < xs.length) j v,(enc xs[i])[j]?=some v→w.cell? ⟨b,off+i * sz+j,none⟩=some v

theorem SliceAt.nil {α:Type} (w:World) (sz:Nat) (enc:α→List Value) (a:Option Addr):SliceAt w sz enc a ([]:List α):=.inl rfl
/-- The cells of the elements, at an address that is known. -/
def CellsAt {α:Type} (w:World) (sz:Nat) (enc:α→List Value) (b off:Nat) (xs:List α):Prop :=
 ∀ i (h:i < xs.length) j v,(enc xs[i])[j]?=some v→w.cell? ⟨b,off+i * sz+j,none⟩=some v
theorem SliceAt.open {α:Type} {w:World} {sz:Nat} {enc:α→List Value} {a:Option Addr} {xs:List α} (h:SliceAt w sz enc a xs) {k:Nat} (hk:k < xs.length) :
  ∃ b off,a=some ⟨b,off,none⟩∧CellsAt w sz enc b off xs:=by
 rcases h with rfl | ⟨b,off,ha,hc⟩
 ·simp at hk
 ·exact ⟨b,off,ha,hc⟩
theorem CellsAt.at0 {α:Type} {w:World} {sz:Nat} {enc:α→List Value} {b off:Nat} {xs:List α} (h:CellsAt w sz enc b off xs) {k:Nat} (hk:k < xs.length) {v:Value} (hv:(enc xs[k])[0]?=some v) :
  w.cell? ⟨b,off+k * sz,none⟩=some v:=h k hk 0 v hv
theorem CellsAt.slice {α:Type} {w:World} {sz:Nat} {enc:α→List Value} {b off:Nat} {xs:List α} (h:CellsAt w sz enc b off xs):SliceAt w sz enc (some ⟨b,off,none⟩) xs :=
 .inr ⟨b,off,rfl,h⟩

theorem CellsAt.below {α:Type} {w w':World} {sz:Nat} {enc:α→List Value} {b off:Nat} {xs:List α} (h:CellsAt w sz enc b off xs) {B:Nat} (hb:Below B w w') (hB:b < B):CellsAt w' sz enc b off xs :=
 fun i hi j v hv=>(hb.cell (p:=⟨b,off+i * sz+j,none⟩) hB).trans (h i hi j v hv)
theorem cell_new0 (w:World) (cs:Array Value) (t:TypeId) {i:Nat} {v:Value} (h:cs[i]?=some v):(w.alloc (.cells cs t)).cell? ⟨w.heap.size,i,none⟩=some v:=by
 rw [World.cell?_alloc_mark]
 exact h
theorem cell_kept {w w':World} {p:Addr} {v:Value} (h:w.cell? p=some v) (hb:Below w.heap.size w w'):w'.cell? p=some v :=
 (hb.cell (World.block_lt_of_cell? w p h)).trans h
theorem block_lt {w:World} {b o:Nat} {v:Value} (h:w.cell? ⟨b,o,none⟩=some v):b < w.heap.size:=World.block_lt_of_cell? w ⟨b,o,none⟩ h
theorem SliceAt.kept {α:Type} {w w':World} {sz:Nat} {enc:α→List Value} {a:Option Addr} {xs:List α} (h:SliceAt w sz enc a xs) (hb:Below w.heap.size w w'):SliceAt w' sz enc a xs:=by
 rcases h with h | ⟨b,off,ha,hc⟩
 ·exact .inl h
 ·exact .inr ⟨b,off,ha,fun i hi j v hv=>(hb.cell (p:=⟨b,off+i * sz+j,none⟩) (block_lt (hc i hi j v hv))).trans (hc i hi j v hv)⟩
theorem SliceAt.drew {α:Type} {w w':World} {sz:Nat} {enc:α→List Value} {a:Option Addr} {xs:List α} (h:SliceAt w sz enc a xs) (hb:Drew w w'):SliceAt w' sz enc a xs :=
 h.kept (hb.below _)

/-! ### Rows of elements -/
theorem flatMap_len {α:Type} {enc:α→List Value} {sz:Nat} (he:∀ x,(enc x).length=sz) (xs:List α):(xs.flatMap enc).length=xs.length * sz:=by
 induction xs with
 | nil=>simp
 | cons x xs ih=>rw [List.flatMap_cons,List.length_append,he,ih,List.length_cons,Nat.add_mul];omega
theorem flatMap_get {α:Type} {enc:α→List Value} {sz:Nat} (he:∀ x,(enc x).length=sz) (xs:List α) {i:Nat} (hi:i < xs.length) {j:Nat} (hj:j < sz) :
  (xs.flatMap enc)[i * sz+j]?=(enc xs[i])[j]?:=by
 induction xs generalizing i with
 | nil=>simp at hi
 | cons x xs ih =>
  rw [List.flatMap_cons]
  cases i with
  | zero=>rw [List.getElem?_append_left (by rw [he];omega)];simp
  | succ i =>
   rw [List.getElem?_append_right (by rw [he,Nat.succ_mul];omega),he]
   have e:(i+1) * sz+j - sz=i * sz+j:=by rw [Nat.succ_mul];omega
   rw [e,ih (by simpa using hi)]
   rfl
theorem own_slice {α:Type} {enc:α→List Value} {sz:Nat} (he:∀ x,(enc x).length=sz) {w:World} {base:Nat} {e:TypeId} {a:Option Addr} {cap n:Nat} {xs:List α}
  (h:w.ownsRow base e sz (.slice a n cap) n (xs.flatMap enc)) (hn:n=xs.length):SliceAt w sz enc a xs:=by
 obtain ⟨hl,h2⟩:=h
 rcases h2 with ⟨_,h0⟩ | ⟨g,cap',cur,hv,hb,hg,hc,hm,hs,ht⟩
 ·left
  cases xs with
  | nil=>rfl
  | cons x xs=>simp at hn;omega
 ·right
  simp only [Value.slice.injEq] at hv
  obtain ⟨rfl,_,_⟩:=hv
  refine ⟨g,0,rfl,fun i hi j v hv=>?_⟩
  have hj:j < sz:=by
   have:=(List.getElem?_eq_some_iff.1 hv).1
   rwa [he] at this
  have h1:=flatMap_get he xs hi hj
  rw [hv,← ht,List.getElem?_take] at h1
  split at h1
  ·rw [show (⟨g,0+i * sz+j,none⟩:Addr)=⟨g,i * sz+j,none⟩ from by simp,cell_of_row w g (i * sz+j) cur e (0,0) hg]
   simpa using h1
  ·cases h1

/-- cells laid over a row, one behind the other -/
def setR:List Value→Nat→List Value→List Value
 | L,_,[]=>L
 | L,p,v :: vs=>setR (L.set p v) (p+1) vs
theorem setR_append (vs:List Value):∀ (A B:List Value) (p:Nat),A.length=p→vs.length≤B.length→setR (A++B) p vs=A++(vs++B.drop vs.length):=by
 induction vs with
 | nil=>intro A B p _ _;simp [setR]
 | cons v vs ih =>
  intro A B p hA hB
  cases B with
  | nil=>simp at hB
  | cons b B =>
   have e:(A++b :: B).set p v=(A++[v])++B:=by
    rw [List.set_append_right _ _ (by omega),hA,Nat.sub_self]
    simp
   rw [setR,e,ih (A++[v]) B (p+1) (by simp [hA]) (by simpa using hB)]
   simp
/-- One element more is laid into a row that was made. -/
theorem row_step {α:Type} {enc:α→List Value} {sz:Nat} (he:∀ x,(enc x).length=sz) (xs:List α) (Z:List Value) (hZ:Z.length=xs.length * sz) {k:Nat} (hk:k < xs.length) :
  setR ((xs.take k).flatMap enc++Z.drop (k * sz)) (k * sz) (enc xs[k])=(xs.take (k+1)).flatMap enc++Z.drop ((k+1) * sz):=by
 have h1:((xs.take k).flatMap enc).length=k * sz:=by rw [flatMap_len he,List.length_take];congr 1;omega
 have h2:sz≤(Z.drop (k * sz)).length:=by
  rw [List.length_drop,hZ,← Nat.sub_mul]
  exact Nat.le_mul_of_pos_left sz (by omega)
 rw [setR_append _ _ _ _ h1 (by rw [he];exact h2),List.take_succ_eq_append_getElem hk,List.flatMap_append,he,List.drop_drop]
 simp [Nat.succ_mul]
theorem row_end {α:Type} {enc:α→List Value} {sz:Nat} (xs:List α) (Z:List Value) (hZ:Z.length=xs.length * sz) {k:Nat} (hk:¬ k < xs.length) :
  (xs.take k).flatMap enc++Z.drop (k * sz)=xs.flatMap enc:=by
 rw [List.take_of_length_le (by omega),List.drop_eq_nil_of_le (by rw [hZ];exact Nat.mul_le_mul_right _ (by omega)),List.append_nil]

theorem grown_of_below {w w':World} {row:Option Nat} (hb:Below w.heap.size w w'):w.grownBy w' row:=⟨hb.os,hb.tape,hb.output,hb.size,fun k hk _=>hb.block k hk⟩
theorem own_below {w w':World} {base:Nat} {e:TypeId} {sz:Nat} {v:Value} {n:Nat} {xs:List Value} (h:w.ownsRow base e sz v n xs) (hb:Below w.heap.size w w'):w'.ownsRow base e sz v n xs:=by
 refine h.kept (row:=none) (grown_of_below hb) ?_
 cases hv:v.ownBlock<;>simp
theorem own_has {w:World} {base:Nat} {e:TypeId} {sz g n cap:Nat} {xs:List Value} (h:w.ownsRow base e sz (.slice (some ⟨g,0,none⟩) n cap) n xs) {j:Nat} (hj:j < n * sz):∃ v,w.cell? ⟨g,j,none⟩=some v:=by
 rw [h.cellAt j hj]
 exact ⟨_,List.getElem?_eq_getElem (by rw [h.1];exact hj)⟩
theorem below_grown {B:Nat} {a w w':World} {g:Nat} (h:Below B a w) (hB:B≤w.heap.size) (hg:w.grownBy w' (some g)) (hr:B≤g):Below B a w' :=
 h.grown hg hB (fun k hk=>by cases hk;exact hr)
/-- a row that is read by one who does not write it stays -/
theorem own_mono {w:World} {base base':Nat} {e:TypeId} {sz:Nat} {v:Value} {n:Nat} {xs:List Value} (h:w.ownsRow base e sz v n xs) (hb:base'≤base):w.ownsRow base' e sz v n xs:=by
 obtain ⟨h1,h2⟩:=h
 refine ⟨h1,?_⟩
 rcases h2 with h2 | ⟨g,cap,cur,hv,hg,r⟩
 ·exact .inl h2
 ·exact .inr ⟨g,cap,cur,hv,Nat.le_trans hb hg,r⟩

/-- stores into cells, one behind the other -/
def storesAt (w:World) (g:Nat):Nat→List Value→World
 | _,[]=>w
 | p,v :: vs=>storesAt (w.setCell ⟨g,p,none⟩ v) g (p+1) vs
theorem grownBy_trans {a b c:World} {r:Option Nat} (h:a.grownBy b r) (k:b.grownBy c r):a.grownBy c r :=
 ⟨k.os.trans h.os,k.tape.trans h.tape,k.output.trans h.output,Nat.le_trans h.size k.size,fun i hi hr=>(k.block i (Nat.lt_of_lt_of_le hi h.size) hr).trans (h.block i hi hr)⟩
theorem own_stores {base:Nat} {e:TypeId} {sz g n cap:Nat} (vs:List Value):∀ {w:World} {L:List Value} (p:Nat),w.ownsRow base e sz (.slice (some ⟨g,0,none⟩) n cap) n L →
  (storesAt w g p vs).ownsRow base e sz (.slice (some ⟨g,0,none⟩) n cap) n (setR L p vs)∧w.grownBy (storesAt w g p vs) (some g):=by
 induction vs with
 | nil=>intro w L p h;exact ⟨h,⟨rfl,rfl,rfl,Nat.le_refl _,fun _ _ _=>rfl⟩⟩
 | cons v vs ih =>
  intro w L p h
  obtain ⟨h1,h2⟩:=h.stored p v
  obtain ⟨h3,h4⟩:=ih (p+1) h1
  exact ⟨h3,grownBy_trans h2 h4⟩
theorem below_of_ex {w w':World} (h:∃ p:Regrown,w'=Go.Sort.grow (redrawn w p.d) p.os):Below w.heap.size w w':=by
 obtain ⟨p,rfl⟩:=h
 exact below_regrown w p.d p.os
/-- the sum of the elements' sizes -/
def szAll {α:Type} (f:α→Nat):List α→Nat
 | []=>0
 | m :: ms=>f m+szAll f ms
/-- an owned row that was written, and nothing else -/
def MarkPost (w:World) (base:Nat) (e:TypeId) (sz:Nat) (v:Value) (n:Nat) (cs:List Value) (c:Int) (en:Ending) (w':World):Prop :=
 en=.returned (.int .i64 c)∧w'.ownsRow base e sz v n cs∧w.grownBy w' v.ownBlock
theorem own_as {w:World} {base:Nat} {e:TypeId} {sz:Nat} {v:Value} {n:Nat} {L L':List Value} (h:w.ownsRow base e sz v n L) (he:L=L'):w.ownsRow base e sz v n L':=he ▸ h
end Go.Proofs.YtgphkffbbmmmmaaGreatDoor

namespace Go.Proofs.YtgphkffbbmmmmaaGreatDoor
open Go.ChangeShapes Go.WideShapes Go.ChangeAt Go.RowKit Go.Sort

/-- What an owned row gives: the element's cells. -/
theorem own_cells {α:Type} {enc:α→List Value} {sz:Nat} (he:∀ x,(enc x).length=sz) {w:World} {base:Nat} {e:TypeId} {g cap n:Nat} {xs:List α}
  (h:w.ownsRow base e sz (.slice (some ⟨g,0,none⟩) n cap) n (xs.flatMap enc)) (hn:n=xs.length) {i:Nat} (hi:i < xs.length) {j:Nat} {v:Value} (hv:(enc xs[i])[j]?=some v) :
  w.cell? ⟨g,i * sz+j,none⟩=some v:=by
 have hj:j < sz:=by
  have:=(List.getElem?_eq_some_iff.1 hv).1
  rwa [he] at this
 have hlt:i * sz+j < n * sz:=by
  have h1:(i+1) * sz≤n * sz:=Nat.mul_le_mul_right _ (by omega)
  rw [Nat.succ_mul] at h1
  omega
 rw [h.cellAt _ hlt,flatMap_get he xs hi hj,hv]
end Go.Proofs.YtgphkffbbmmmmaaGreatDoor

namespace Go.Proofs.YtgphkffbbmmmmaaGreatDoor
open Go.ChangeShapes Go.WideShapes Go.ChangeAt Go.RowKit

def smallB (c:Int):Bool:=decide (97≤c) && decide (c≤122)
def digitB (c:Int):Bool:=decide (48≤c) && decide (c≤57)
def withinB (x lo hi:Int):Bool:=decide (lo≤x) && decide (x≤hi)

theorem small_any (c:Int) (w:World):Calls Tryz.prog 159 #[.int .u8 c] w fun e w'=>e=.returned (.bool (smallB c))∧w=w':=by
 go_enter Tryz.func159,Tryz.ntmps159
 go_wp2
 all_goals (go_ret;exact ⟨ret_bool (by unfold smallB;rw [Bool.eq_iff_iff];simp only [Bool.and_eq_true,decide_eq_true_eq,Bool.false_eq_true,false_iff];omega),rfl⟩)
theorem l01Small_any (c:Int) (w:World):Calls Tryz.prog 100 #[.int .u8 c] w fun e w'=>e=.returned (.bool (smallB c))∧w=w':=by
 go_enter Tryz.func100,Tryz.ntmps100
 go_wp2
 all_goals (go_ret;exact ⟨ret_bool (by unfold smallB;rw [Bool.eq_iff_iff];simp only [Bool.and_eq_true,decide_eq_true_eq,Bool.false_eq_true,false_iff];omega),rfl⟩)
theorem l01Digit_any (c:Int) (w:World):Calls Tryz.prog 175 #[.int .u8 c] w fun e w'=>e=.returned (.bool (digitB c))∧w=w':=by
 go_enter Tryz.func175,Tryz.ntmps175
 go_wp2
 all_goals (go_ret;exact ⟨ret_bool (by unfold digitB;rw [Bool.eq_iff_iff];simp only [Bool.and_eq_true,decide_eq_true_eq,Bool.false_eq_true,false_iff];omega),rfl⟩)
theorem within_any (x lo hi:Int) (w:World):Calls Tryz.prog 30 #[.int .i64 x,.int .i64 lo,.int .i64 hi] w fun e w'=>e=.returned (.bool (withinB x lo hi))∧w=w':=by
 go_enter Tryz.func30,Tryz.ntmps30
 go_wp2
 all_goals (go_ret;exact ⟨ret_bool (by unfold withinB;rw [Bool.eq_iff_iff];simp only [Bool.and_eq_true,decide_eq_true_eq,Bool.false_eq_true,false_iff];omega),rfl⟩)
theorem l00In_any (x lo hi:Int) (w:World):Calls Tryz.prog 24 #[.int .i64 x,.int .i64 lo,.int .i64 hi] w fun e w'=>e=.returned (.bool (withinB x lo hi))∧w=w':=by
 go_enter Tryz.func24,Tryz.ntmps24
 go_wp2
 all_goals (go_ret;exact ⟨ret_bool (by unfold withinB;rw [Bool.eq_iff_iff];simp only [Bool.and_eq_true,decide_eq_true_eq,Bool.false_eq_true,false_iff];omega),rfl⟩)

theorem take_all_succ {l:List UInt8} {p:UInt8→Bool} {k:Nat} (h:k < l.length):(l.take (k+1)).all p=((l.take k).all p && p l[k]):=by
 rw [List.take_succ_eq_append_getElem h,List.all_append]
 simp
theorem all_false_of {l:List UInt8} {p:UInt8→Bool} {k:Nat} (h:k < l.length) (hp:p l[k]=false):l.all p=false:=by
 rw [List.all_eq_false]
 exact ⟨l[k],List.getElem_mem h,by simp [hp]⟩
theorem bytes_get (s:ByteArray) (k:Nat) (h:k < s.size):s.data.toList[k]'(by simpa using h)=s[k]:=rfl
end Go.Proofs.YtgphkffbbmmmmaaGreatDoor

namespace Go.Proofs.YtgphkffbbmmmmaaGreatDoor
open Go.ChangeShapes Go.WideShapes Go.ChangeAt Go.RowKit Go.Sort

def mtDig (k:Nat) (out:List UInt8):List UInt8 :=
 if k=0 then out else mtDig (k / 10) (UInt8.ofNat (48+k % 10) :: out)
 termination_by k
 decreasing_by omega
def mtL (k:Nat):List UInt8:=if k=0 then [109,48] else 109 :: mtDig k []
def mtext (k:Nat):ByteArray:=⟨(mtL k).toArray⟩

theorem bs_app (a b:List UInt8):(⟨a.toArray⟩:ByteArray)++⟨b.toArray⟩=⟨(a++b).toArray⟩:=by
 apply ByteArray.ext
 simp
theorem bs_cons (x:Int) (n:Nat) (out:List UInt8) (h:x.toNat=n):Value.string (strOfNums [x]++⟨out.toArray⟩)=Value.string ⟨(UInt8.ofNat n :: out).toArray⟩:=by
 subst h
 rw [show strOfNums [x]=⟨[UInt8.ofNat x.toNat].toArray⟩ from rfl,bs_app]
 rfl
theorem markText_any (k:Nat) (w:World) (hk:k≤1099511627776) :
  Calls Tryz.prog 81 #[.int .i64 k] w fun e w'=>e=.returned (.string (mtext k))∧Below w.heap.size w w':=by
 by_cases h0:k=0
 ·subst h0
  go_enter Tryz.func81,Tryz.ntmps81
  go_wp2
  go_ret
  exact ⟨rfl,Below.refl _ _⟩
 ·have h1:¬ (k:Int)≤0:=by omega
  go_enter Tryz.func81,Tryz.ntmps81
  go_wp2
  go_loopw [0,3] (fun a s wr=>∃ (j:Nat) (out:List UInt8),a=.int .i64 j∧s=.string ⟨out.toArray⟩∧out.length+j≤k∧Hid (mtDig j out=mtDig k [])∧Below w.heap.size w wr) (fun a _ _=>(intOf a).toNat)
  case atStart=>exact ⟨k,[],rfl,rfl,by simp,rfl,Below.refl _ _⟩
  case round =>
   obtain ⟨j,out,rfl,rfl,hj,he,hb⟩:=hrel
   by_cases hp:0 < j
   ·have he2:mtDig j out=mtDig (j / 10) (UInt8.ofNat (48+j % 10) :: out):=by rw [mtDig,if_neg (by omega)]
    have HE:Hid (mtDig (j / 10) (UInt8.ofNat (48+j % 10) :: out)=mtDig k []):=he2.symm.trans he.out
    clear he he2
    have hcv:=run_convert_bytes_arg (P:=Tryz.prog) (wr.alloc (.cells #[.int .u8 (48+(j:Int) % 10)] 5)) 49 5 Tryz.underlying49 Tryz.underlying5 wr.heap.size 0 1 1 [48+(j:Int) % 10] rfl
     (fun i hi=>by
      obtain rfl:i=0:=by omega
      exact cell_new0 _ _ _ rfl) 9 Tryz.underlying9
    have hlo:¬ 9223372036854775807 < (strOfNums [48+(j:Int) % 10]).size+out.length:=by
     rw [strOfNums_size]
     simp only [List.length_cons,List.length_nil]
     omega
    go_wp2
    go_roundw
    case rel=>exact ⟨j / 10,UInt8.ofNat (48+j % 10) :: out,by go_num,bs_cons _ _ _ (by omega),by simp only [List.length_cons];omega,HE,hb.alloc hb.size _⟩
    case measure=>simp [intOf];omega
   ·go_wp2
    go_ret
    refine ⟨?_,hb⟩
    obtain rfl:j=0:=by omega
    have h:=he.out
    rw [mtDig,if_pos rfl] at h
    have h2:mtext k=⟨#[109]⟩++⟨out.toArray⟩:=by
     unfold mtext mtL
     rw [if_neg h0,← h]
     exact (bs_app [109] out).symm
    rw [h2]
    rfl
theorem markText_int (x:Int) (w:World) (h0:0≤x) (h1:x≤1099511627776) :
  Calls Tryz.prog 81 #[.int .i64 x] w fun e w'=>e=.returned (.string (mtext x.toNat))∧Below w.heap.size w w':=by
 obtain ⟨k,rfl⟩:=Int.eq_ofNat_of_zero_le h0
 rw [Int.toNat_natCast]
 exact markText_any k w (by omega)
end Go.Proofs.YtgphkffbbmmmmaaGreatDoor

namespace Go.Proofs.YtgphkffbbmmmmaaGreatDoor
open Go.ChangeShapes Go.WideShapes Go.ChangeAt Go.RowKit Go.Sort

/-- where a row lies, and its capacity -/
structure Rwa where
 a:Option Addr
 c:Nat
theorem row_store {w w':World} {base g:Nat} {e:TypeId} {sz n:Nat} {v:Value} {L:List Value} (h:w.ownsRow base e sz v n L) (hg:w.grownBy w' (some g)) (hlt:g < base):w'.ownsRow base e sz v n L :=
 h.kept hg (.inr fun k=>by have:=(h.lt g k).1;omega)
end Go.Proofs.YtgphkffbbmmmmaaGreatDoor
