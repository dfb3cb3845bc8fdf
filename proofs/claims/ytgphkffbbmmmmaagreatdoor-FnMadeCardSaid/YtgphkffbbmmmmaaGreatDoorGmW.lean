/- Contracts: the statements' own marks of a game, and whether they are held. No condition but that lengths are small. -/
import Derived.Test.YtgphkffbbmmmmaaGreatDoorGam
namespace Go.Proofs.YtgphkffbbmmmmaaGreatDoor
open Go.ChangeShapes Go.WideShapes Go.ChangeAt Go.RowKit Go.Sort

/-! ### Rows of the call's own, or empty ones -/
def TZ (w:World) (base:Nat) (a:Option Addr) (c:Nat) (ms:List ByteArray):Prop:=ms=[]∨w.ownsRow base 9 1 (.slice a ms.length c) ms.length (ms.flatMap Tx.enc)
def IZ (w:World) (base:Nat) (a:Option Addr) (c:Nat) (ms:List Int):Prop:=ms=[]∨w.ownsRow base 2 1 (.slice a ms.length c) ms.length (ms.flatMap I64.enc)
/-- where a row lies, if it has elements -/
def effA {α:Type} (a:Option Addr) (ms:List α):Option Addr:=if ms.isEmpty then none else a
theorem effA_some {α:Type} (a:Option Addr) {ms:List α} (h:ms≠[]):effA a ms=a:=by
 unfold effA
 rw [if_neg (by simpa using h)]
theorem effA_len {α β:Type} (a:Option Addr) {ms:List α} {ns:List β} (h:ms.length=ns.length):effA a ms=effA a ns:=by
 cases ms with
 | nil=>cases ns with
  | nil=>rfl
  | cons=>simp at h
 | cons=>cases ns with
  | nil=>simp at h
  | cons=>rfl
theorem offA_none (b:Option Addr):offA none b:=fun _ h=>by cases h
theorem offA_none2 (a:Option Addr):offA a none:=fun _ _ h=>by cases h
theorem offA.symm {a b:Option Addr} (h:offA a b):offA b a:=fun g h1 h2=>h g h2 h1
theorem offA.eff {α β:Type} {a b:Option Addr} (h:offA a b) (ms:List α) (ns:List β):offA (effA a ms) (effA b ns):=by
 unfold effA
 split
 ·exact offA_none _
 ·split
  ·exact offA_none2 _
  ·exact h
theorem TZ.at {w:World} {base c:Nat} {a:Option Addr} {ms:List ByteArray} (h:TZ w base a c ms):SliceAt w 1 Tx.enc a ms:=by
 rcases h with rfl | h
 ·exact SliceAt.nil _ _ _ _
 ·exact own_slice Tx.enc_len h rfl
theorem IZ.at {w:World} {base c:Nat} {a:Option Addr} {ms:List Int} (h:IZ w base a c ms):SliceAt w 1 I64.enc a ms:=by
 rcases h with rfl | h
 ·exact SliceAt.nil _ _ _ _
 ·exact own_slice I64.enc_len h rfl
theorem TZ.kept {w w':World} {base c:Nat} {a:Option Addr} {ms:List ByteArray} (h:TZ w base a c ms) (hb:Below w.heap.size w w'):TZ w' base a c ms:=h.imp_right fun h=>own_below h hb
theorem IZ.kept {w w':World} {base c:Nat} {a:Option Addr} {ms:List Int} (h:IZ w base a c ms) (hb:Below w.heap.size w w'):IZ w' base a c ms:=h.imp_right fun h=>own_below h hb
theorem TZ.mono {w:World} {base base' c:Nat} {a:Option Addr} {ms:List ByteArray} (h:TZ w base a c ms) (hb:base'≤base):TZ w base' a c ms:=h.imp_right fun h=>own_mono h hb
theorem IZ.mono {w:World} {base base' c:Nat} {a:Option Addr} {ms:List Int} (h:IZ w base a c ms) (hb:base'≤base):IZ w base' a c ms:=h.imp_right fun h=>own_mono h hb
theorem own_lt {w:World} {base:Nat} {e:TypeId} {sz n c:Nat} {L:List Value} {a:Option Addr} (h:w.ownsRow base e sz (.slice a n c) n L):∀ g,a.map (·.block)=some g→base≤g∧g < w.heap.size:=by
 intro g hg
 cases a with
 | none=>cases hg
 | some x=>exact h.lt g hg
theorem TZ.lt {w:World} {base c:Nat} {a:Option Addr} {ms:List ByteArray} (h:TZ w base a c ms):∀ g,(effA a ms).map (·.block)=some g→base≤g∧g < w.heap.size:=by
 rcases h with rfl | h
 ·intro g hg;cases hg
 ·by_cases he:ms=[]
  ·intro g hg;subst he;cases hg
  ·rw [effA_some a he];exact own_lt h
theorem IZ.lt {w:World} {base c:Nat} {a:Option Addr} {ms:List Int} (h:IZ w base a c ms):∀ g,(effA a ms).map (·.block)=some g→base≤g∧g < w.heap.size:=by
 rcases h with rfl | h
 ·intro g hg;cases hg
 ·by_cases he:ms=[]
  ·intro g hg;subst he;cases hg
  ·rw [effA_some a he];exact own_lt h
/-- what lies in a block is another block than one behind -/
theorem off_of_lt {a b:Option Addr} {n:Nat} (ha:∀ g,a.map (·.block)=some g→g < n) (hb:∀ g,b.map (·.block)=some g→n≤g):offA a b:=fun g h1 h2=>by have:=ha g h1;have:=hb g h2;omega

/-! ### What a call may write -/
structure Wrote (lo:Nat) (S:List (Option Addr)) (w w':World):Prop where
 below:Below lo w w'
 own:∀ {base:Nat} {e:TypeId} {sz n c:Nat} {L:List Value} {a:Option Addr},(∀ s∈S,offA s a)→w.ownsRow base e sz (.slice a n c) n L→w'.ownsRow base e sz (.slice a n c) n L
theorem Wrote.of_below {lo:Nat} {S:List (Option Addr)} {w w':World} (h:Below w.heap.size w w') (hl:lo≤w.heap.size):Wrote lo S w w':=⟨h.mono hl,fun _ ho=>own_below ho h⟩
theorem Wrote.of_grown {lo:Nat} {w w':World} {a:Option Addr} {n c:Nat} (h:w.grownBy w' (Value.slice a n c).ownBlock) (hl:lo≤w.heap.size) (hg:∀ g,a.map (·.block)=some g→lo≤g):Wrote lo [a] w w':=by
 have ho:∀ k,(Value.slice a n c).ownBlock=some k→a.map (·.block)=some k:=by
  intro k hk
  cases a with
  | none=>cases hk
  | some x=>exact hk
 refine ⟨(Below.refl lo w).grown h hl (fun k hk=>hg k (ho k hk)),?_⟩
 intro base e sz n2 c2 L b hb hown
 refine ⟨hown.1,?_⟩
 rcases hown.2 with hn | ⟨g,cap,cur,hv,hge,hgg,rest⟩
 ·exact .inl hn
 ·refine .inr ⟨g,cap,cur,hv,hge,?_,rest⟩
  rw [h.block g (Array.getElem?_eq_some_iff.1 hgg).1 (fun e=>?_)]
  ·exact hgg
  ·have e2:=ho g e.symm
   have e3:b=some ⟨g,0,none⟩:=by
    simp only [Value.slice.injEq] at hv
    exact hv.1
   exact hb a (List.mem_singleton.2 rfl) g e2 (by rw [e3];rfl)
theorem Wrote.trans {lo:Nat} {S T:List (Option Addr)} {a b c:World} (h:Wrote lo S a b) (k:Wrote lo T b c):Wrote lo (S++T) a c :=
 ⟨h.below.trans k.below,fun hs ho=>k.own (fun s hm=>hs s (List.mem_append_right _ hm)) (h.own (fun s hm=>hs s (List.mem_append_left _ hm)) ho)⟩
theorem Wrote.size {lo:Nat} {S:List (Option Addr)} {w w':World} (h:Wrote lo S w w'):w.heap.size≤w'.heap.size:=h.below.size
theorem TZ.wrote {w w':World} {base c lo:Nat} {a:Option Addr} {ms:List ByteArray} {S:List (Option Addr)} (h:TZ w base a c ms) (hw:Wrote lo S w w') (ho:∀ s∈S,offA s (effA a ms)):TZ w' base a c ms:=by
 by_cases he:ms=[]
 ·exact .inl he
 ·rw [effA_some a he] at ho
  exact h.imp_right fun h=>hw.own ho h
theorem IZ.wrote {w w':World} {base c lo:Nat} {a:Option Addr} {ms:List Int} {S:List (Option Addr)} (h:IZ w base a c ms) (hw:Wrote lo S w w') (ho:∀ s∈S,offA s (effA a ms)):IZ w' base a c ms:=by
 by_cases he:ms=[]
 ·exact .inl he
 ·rw [effA_some a he] at ho
  exact h.imp_right fun h=>hw.own ho h
theorem VarAt.wrote {w w':World} {g lo:Nat} {t:TypeId} {cs:List Value} {S:List (Option Addr)} (h:VarAt w g t cs) (hw:Wrote lo S w w') (ho:∀ s∈S,offA s (some ⟨g,0,none⟩)):VarAt w' g t cs:=hw.own ho h

/-! ### Marks of a row -/
/-- its rows are of the call's own, or empty -/
structure Stp.Z (x:Stp) (q:StA) (base:Nat) (w:World):Prop where
 values:IZ w base q.tiles.values.a q.tiles.values.c x.tiles.values
 counts:IZ w base q.tiles.counts.a q.tiles.counts.c x.tiles.counts
 lexicon:TZ w base q.lexicon.a q.lexicon.c x.lexicon
/-- they lie in blocks of their own -/
structure Stp.Off (x:Stp) (q:StA):Prop where
 vc:offA (effA q.tiles.values.a x.tiles.values) (effA q.tiles.counts.a x.tiles.counts)
 vl:offA (effA q.tiles.values.a x.tiles.values) (effA q.lexicon.a x.lexicon)
 cl:offA (effA q.tiles.counts.a x.tiles.counts) (effA q.lexicon.a x.lexicon)
def Stp.effs (x:Stp) (q:StA):List (Option Addr):=[effA q.tiles.values.a x.tiles.values,effA q.tiles.counts.a x.tiles.counts,effA q.lexicon.a x.lexicon]
theorem Stp.Z.kept {x:Stp} {q:StA} {base:Nat} {w w':World} (h:x.Z q base w) (hb:Below w.heap.size w w'):x.Z q base w':=⟨h.values.kept hb,h.counts.kept hb,h.lexicon.kept hb⟩
theorem Stp.Z.mono {x:Stp} {q:StA} {base base':Nat} {w:World} (h:x.Z q base w) (hb:base'≤base):x.Z q base' w:=⟨h.values.mono hb,h.counts.mono hb,h.lexicon.mono hb⟩
theorem Stp.Z.at {x:Stp} {q:StA} {base:Nat} {w:World} (h:x.Z q base w):x.At q w:=⟨⟨h.values.at,h.counts.at⟩,h.lexicon.at⟩
theorem Stp.Z.of {x:Stp} {q:StA} {base:Nat} {w:World} (h:x.Own q base w):x.Z q base w:=⟨.inr h.1.1,.inr h.1.2,.inr h.2⟩
theorem Stp.Off.of {x:Stp} {q:StA} (h:q.apart):x.Off q:=⟨h.1.eff _ _,h.2.1.eff _ _,h.2.2.eff _ _⟩
theorem Stp.Z.wrote {x:Stp} {q:StA} {base lo:Nat} {w w':World} {S:List (Option Addr)} (h:x.Z q base w) (hw:Wrote lo S w w') (ho:∀ s∈S,∀ t∈x.effs q,offA s t):x.Z q base w' :=
 ⟨h.values.wrote hw (fun s hs=>ho s hs _ (by simp [Stp.effs])),h.counts.wrote hw (fun s hs=>ho s hs _ (by simp [Stp.effs])),h.lexicon.wrote hw (fun s hs=>ho s hs _ (by simp [Stp.effs]))⟩
theorem Stp.Z.lt {x:Stp} {q:StA} {base:Nat} {w:World} (h:x.Z q base w):∀ t∈x.effs q,∀ g,t.map (·.block)=some g→base≤g∧g < w.heap.size:=by
 intro t ht
 simp only [Stp.effs,List.mem_cons,List.not_mem_nil,or_false] at ht
 rcases ht with rfl | rfl | rfl
 ·exact h.values.lt
 ·exact h.counts.lt
 ·exact h.lexicon.lt

structure Gam.Z (x:Gam) (q:GaA) (base:Nat) (w:World):Prop where
 setup:x.setup.Z q.setup base w
 racks:TZ w base q.racks.a q.racks.c x.racks
 scores:IZ w base q.scores.a q.scores.c x.scores
 clocks:IZ w base q.clocks.a q.clocks.c x.clocks
structure Gam.Off (x:Gam) (q:GaA):Prop where
 setup:x.setup.Off q.setup
 sr:∀ t∈x.setup.effs q.setup,offA t (effA q.racks.a x.racks)
 ss:∀ t∈x.setup.effs q.setup,offA t (effA q.scores.a x.scores)
 sc:∀ t∈x.setup.effs q.setup,offA t (effA q.clocks.a x.clocks)
 rs:offA (effA q.racks.a x.racks) (effA q.scores.a x.scores)
 rc:offA (effA q.racks.a x.racks) (effA q.clocks.a x.clocks)
 cs:offA (effA q.scores.a x.scores) (effA q.clocks.a x.clocks)
def Gam.effs (x:Gam) (q:GaA):List (Option Addr):=x.setup.effs q.setup++[effA q.racks.a x.racks,effA q.scores.a x.scores,effA q.clocks.a x.clocks]
theorem Gam.Z.kept {x:Gam} {q:GaA} {base:Nat} {w w':World} (h:x.Z q base w) (hb:Below w.heap.size w w'):x.Z q base w':=⟨h.setup.kept hb,h.racks.kept hb,h.scores.kept hb,h.clocks.kept hb⟩
theorem Gam.Z.mono {x:Gam} {q:GaA} {base base':Nat} {w:World} (h:x.Z q base w) (hb:base'≤base):x.Z q base' w:=⟨h.setup.mono hb,h.racks.mono hb,h.scores.mono hb,h.clocks.mono hb⟩
theorem Gam.Z.at {x:Gam} {q:GaA} {base:Nat} {w:World} (h:x.Z q base w):x.At q w:=⟨h.setup.at,h.racks.at,h.scores.at,h.clocks.at⟩
theorem Gam.Z.of {x:Gam} {q:GaA} {base:Nat} {w:World} (h:x.Own q base w):x.Z q base w:=⟨.of h.1,.inr h.2.1,.inr h.2.2.1,.inr h.2.2.2⟩
theorem Gam.Off.of {x:Gam} {q:GaA} (h:q.apart):x.Off q:=by
 obtain ⟨a,b,c,d,e,f,g⟩:=h
 refine ⟨.of a,?_,?_,?_,d.eff _ _,f.eff _ _,g.eff _ _⟩
 all_goals
  intro t ht
  simp only [Stp.effs,List.mem_cons,List.not_mem_nil,or_false] at ht
 ·rcases ht with rfl | rfl | rfl
  ·exact b.1.eff _ _
  ·exact b.2.1.eff _ _
  ·exact b.2.2.eff _ _
 ·rcases ht with rfl | rfl | rfl
  ·exact c.1.eff _ _
  ·exact c.2.1.eff _ _
  ·exact c.2.2.eff _ _
 ·rcases ht with rfl | rfl | rfl
  ·exact e.1.eff _ _
  ·exact e.2.1.eff _ _
  ·exact e.2.2.eff _ _
theorem Gam.Z.lt {x:Gam} {q:GaA} {base:Nat} {w:World} (h:x.Z q base w):∀ t∈x.effs q,∀ g,t.map (·.block)=some g→base≤g∧g < w.heap.size:=by
 intro t ht
 rcases List.mem_append.1 ht with ht | ht
 ·exact h.setup.lt t ht
 ·simp only [List.mem_cons,List.not_mem_nil,or_false] at ht
  rcases ht with rfl | rfl | rfl
  ·exact h.racks.lt
  ·exact h.scores.lt
  ·exact h.clocks.lt
theorem Gam.Z.wrote {x:Gam} {q:GaA} {base lo:Nat} {w w':World} {S:List (Option Addr)} (h:x.Z q base w) (hw:Wrote lo S w w') (ho:∀ s∈S,∀ t∈x.effs q,offA s t):x.Z q base w' :=
 ⟨h.setup.wrote hw (fun s hs t ht=>ho s hs t (List.mem_append_left _ ht)),h.racks.wrote hw (fun s hs=>ho s hs _ (by simp [Gam.effs])),h.scores.wrote hw (fun s hs=>ho s hs _ (by simp [Gam.effs])),h.clocks.wrote hw (fun s hs=>ho s hs _ (by simp [Gam.effs]))⟩
end Go.Proofs.YtgphkffbbmmmmaaGreatDoor
