/- Contracts: the statements' own marks of a game, and whether they are held. No condition but that lengths are small. -/
import Derived.Test.YtgphkffbbmmmmaaGreatDoorGam
set_option maxRecDepth 100000
set_option maxHeartbeats 4000000
namespace Go.Proofs.YtgphkffbbmmmmaaGreatDoor
open Go.ChangeShapes Go.WideShapes Go.ChangeAt Go.RowKit Go.Sort

/-! ### Rows of the call's own, or empty ones -/
def TZ (w:World) (base:Nat) (a:Option Addr) (c:Nat) (ms:List ByteArray):Prop:=ms=[]∨w.ownsRow base 9 1 (.slice a ms.length c) ms.length (ms.flatMap Tx.enc)
def IZ (w:World) (base:Nat) (a:Option Addr) (c:Nat) (ms:List Int):Prop:=ms=[]∨w.ownsRow base 2 1 (.slice a ms.length c) ms.length (ms.flatMap I64.enc)
/-- where a row lies, if it has elements -/
def effA {α:Type} (a:Option Addr) (ms:List α):Option Addr:=if ms.isEmpty then none else a
theorem effA_some {α:Type} (a:Option Addr) {ms:List α} (h:ms≠[]):effA a ms=a:=by
 unfold effA
 rw [if_neg (by simpa using h)]
theorem effA_len {α β:Type} (a:Option Addr) {ms:List α} {ns:List β} (h:ms.length=ns.length):effA a ms=effA a ns:=by
 cases ms with
 | nil=>cases ns with
  | nil=>rfl
  | cons=>simp at h
 | cons=>cases ns with
  | nil=>simp at h
  | cons=>rfl
theorem offA_none (b:Option Addr):offA none b:=fun _ h=>by cases h
theorem offA_none2 (a:Option Addr):offA a none:=fun _ _ h=>by cases h
theorem offA.symm {a b:Option Addr} (h:offA a b):offA b a:=fun g h1 h2=>h g h2 h1
theorem offA.eff {α β:Type} {a b:Option Addr} (h:offA a b) (ms:List α) (ns:List β):offA (effA a ms) (effA b ns):=by
 unfold effA
 split
 ·exact offA_none _
 ·split
  ·exact offA_none2 _
  ·exact h
theorem TZ.at {w:World} {base c:Nat} {a:Option Addr} {ms:List ByteArray} (h:TZ w base a c ms):SliceAt w 1 Tx.enc a ms:=by
 rcases h with rfl | h
 ·exact SliceAt.nil _ _ _ _
 ·exact own_slice Tx.enc_len h rfl
theorem IZ.at {w:World} {base c:Nat} {a:Option Addr} {ms:List Int} (h:IZ w base a c ms):SliceAt w 1 I64.enc a ms:=by
 rcases h with rfl | h
 ·exact SliceAt.nil _ _ _ _
 ·exact own_slice I64.enc_len h rfl
theorem TZ.kept {w w':World} {base c:Nat} {a:Option Addr} {ms:List ByteArray} (h:TZ w base a c ms) (hb:Below w.heap.size w w'):TZ w' base a c ms:=h.imp_right fun h=>own_below h hb
theorem IZ.kept {w w':World} {base c:Nat} {a:Option Addr} {ms:List Int} (h:IZ w base a c ms) (hb:Below w.heap.size w w'):IZ w' base a c ms:=h.imp_right fun h=>own_below h hb
theorem TZ.mono {w:World} {base base' c:Nat} {a:Option Addr} {ms:List ByteArray} (h:TZ w base a c ms) (hb:base'≤base):TZ w base' a c ms:=h.imp_right fun h=>own_mono h hb
theorem IZ.mono {w:World} {base base' c:Nat} {a:Option Addr} {ms:List Int} (h:IZ w base a c ms) (hb:base'≤base):IZ w base' a c ms:=h.imp_right fun h=>own_mono h hb
theorem own_lt {w:World} {base:Nat} {e:TypeId} {sz n c:Nat} {L:List Value} {a:Option Addr} (h:w.ownsRow base e sz (.slice a n c) n L):∀ g,a.map (·.block)=some g→base≤g∧g < w.heap.size:=by
 intro g hg
 cases a with
 | none=>cases hg
 | some x=>exact h.lt g hg
theorem TZ.lt {w:World} {base c:Nat} {a:Option Addr} {ms:List ByteArray} (h:TZ w base a c ms):∀ g,(effA a ms).map (·.block)=some g→base≤g∧g < w.heap.size:=by
 rcases h with rfl | h
 ·intro g hg;cases hg
 ·by_cases he:ms=[]
  ·intro g hg;subst he;cases hg
  ·rw [effA_some a he];exact own_lt h
theorem IZ.lt {w:World} {base c:Nat} {a:Option Addr} {ms:List Int} (h:IZ w base a c ms):∀ g,(effA a ms).map (·.block)=some g→base≤g∧g < w.heap.size:=by
 rcases h with rfl | h
 ·intro g hg;cases hg
 ·by_cases he:ms=[]
  ·intro g hg;subst he;cases hg
  ·rw [effA_some a he];exact own_lt h
/-- what lies in a block is another block than one behind -/
theorem off_of_lt {a b:Option Addr} {n:Nat} (ha:∀ g,a.map (·.block)=some g→g < n) (hb:∀ g,b.map (·.block)=some g→n≤g):offA a b:=fun g h1 h2=>by have:=ha g h1;have:=hb g h2;omega

/-! ### What a call may write -/
structure Wrote (lo:Nat) (S:List (Option Addr)) (w w':World):Prop where
 below:Below lo w w'
 own:∀ {base:Nat} {e:TypeId} {sz n c:Nat} {L:List Value} {a:Option Addr},(∀ s∈S,offA s a)→w.ownsRow base e sz (.slice a n c) n L→w'.ownsRow base e sz (.slice a n c) n L
theorem Wrote.of_below {lo:Nat} {S:List (Option Addr)} {w w':World} (h:Below w.heap.size w w') (hl:lo≤w.heap.size):Wrote lo S w w':=⟨h.mono hl,fun _ ho=>own_below ho h⟩
theorem Wrote.of_grown {lo:Nat} {w w':World} {a:Option Addr} {n c:Nat} (h:w.grownBy w' (Value.slice a n c).ownBlock) (hl:lo≤w.heap.size) (hg:∀ g,a.map (·.block)=some g→lo≤g):Wrote lo [a] w w':=by
 have ho:∀ k,(Value.slice a n c).ownBlock=some k→a.map (·.block)=some k:=by
  intro k hk
  cases a with
  | none=>cases hk
  | some x=>exact hk
 refine ⟨(Below.refl lo w).grown h hl (fun k hk=>hg k (ho k hk)),?_⟩
 intro base e sz n2 c2 L b hb hown
 refine ⟨hown.1,?_⟩
 rcases hown.2 with hn | ⟨g,cap,cur,hv,hge,hgg,rest⟩
 ·exact .inl hn
 ·refine .inr ⟨g,cap,cur,hv,hge,?_,rest⟩
  rw [h.block g (Array.getElem?_eq_some_iff.1 hgg).1 (fun e=>?_)]
  ·exact hgg
  ·have e2:=ho g e.symm
   have e3:b=some ⟨g,0,none⟩:=by
    simp only [Value.slice.injEq] at hv
    exact hv.1
   exact hb a (List.mem_singleton.2 rfl) g e2 (by rw [e3];rfl)
theorem Wrote.trans {lo:Nat} {S T:List (Option Addr)} {a b c:World} (h:Wrote lo S a b) (k:Wrote lo T b c):Wrote lo (S++T) a c :=
 ⟨h.below.trans k.below,fun hs ho=>k.own (fun s hm=>hs s (List.mem_append_right _ hm)) (h.own (fun s hm=>hs s (List.mem_append_left _ hm)) ho)⟩
theorem Wrote.size {lo:Nat} {S:List (Option Addr)} {w w':World} (h:Wrote lo S w w'):w.heap.size≤w'.heap.size:=h.below.size
theorem TZ.wrote {w w':World} {base c lo:Nat} {a:Option Addr} {ms:List ByteArray} {S:List (Option Addr)} (h:TZ w base a c ms) (hw:Wrote lo S w w') (ho:∀ s∈S,offA s (effA a ms)):TZ w' base a c ms:=by
 by_cases he:ms=[]
 ·exact .inl he
 ·rw [effA_some a he] at ho
  exact h.imp_right fun h=>hw.own ho h
theorem IZ.wrote {w w':World} {base c lo:Nat} {a:Option Addr} {ms:List Int} {S:List (Option Addr)} (h:IZ w base a c ms) (hw:Wrote lo S w w') (ho:∀ s∈S,offA s (effA a ms)):IZ w' base a c ms:=by
 by_cases he:ms=[]
 ·exact .inl he
 ·rw [effA_some a he] at ho
  exact h.imp_right fun h=>hw.own ho h
theorem VarAt.wrote {w w':World} {g lo:Nat} {t:TypeId} {cs:List Value} {S:List (Option Addr)} (h:VarAt w g t cs) (hw:Wrote lo S w w') (ho:∀ s∈S,offA s (some ⟨g,0,none⟩)):VarAt w' g t cs:=hw.own ho h

/-! ### Marks of a row -/
theorem markTZ_any (ms:List ByteArray) (a:Option Addr) (cap base:Nat) (c0:Int) (w:World) (hm:TZ w base a cap ms) (hlo:base≤w.heap.size) (hl:ms.length≤1048576) (h0:0≤c0) (h1:c0≤1073741824) :
  Calls Tryz.prog 40 #[.slice a ms.length cap,.int .i64 c0] w fun e w'=>e=.returned (.int .i64 (c0+ms.length))∧TZ w' base a cap (Tx.marks c0 ms.length)∧Wrote base [effA a ms] w w':=by
 by_cases he:ms=[]
 ·subst he
  clear hm
  go_enter Tryz.func40,Tryz.ntmps40
  go_wp2
  refine wp_loop_rounds 1 ?_
  rw [rounds_succ]
  go_wp2
  go_ret
  exact ⟨by simp,.inl (by simp [Tx.marks]),Wrote.of_below (Below.refl _ _) hlo⟩
 ·have ho:w.ownsRow base 9 1 (.slice a ms.length cap) ms.length (ms.flatMap Tx.enc):=hm.resolve_left he
  refine (markStringS_any ms a cap base c0 w ho (by omega) h0 (by omega)).mono ?_
  rintro e w' ⟨rfl,h2,hg⟩
  refine ⟨rfl,.inr ?_,?_⟩
  ·rw [Tx.marks_len]
   exact h2
  ·rw [effA_some a he]
   exact Wrote.of_grown hg hlo (fun g h=>(own_lt ho g h).1)
theorem markIZ_any (ms:List Int) (a:Option Addr) (cap base:Nat) (c0:Int) (w:World) (hm:IZ w base a cap ms) (hlo:base≤w.heap.size) (hl:ms.length≤1048576) (h0:0≤c0) (h1:c0≤1073741824) :
  Calls Tryz.prog 41 #[.slice a ms.length cap,.int .i64 c0] w fun e w'=>e=.returned (.int .i64 (c0+ms.length))∧IZ w' base a cap (I64.marks c0 ms.length)∧Wrote base [effA a ms] w w':=by
 by_cases he:ms=[]
 ·subst he
  clear hm
  go_enter Tryz.func41,Tryz.ntmps41
  go_wp2
  refine wp_loop_rounds 1 ?_
  rw [rounds_succ]
  go_wp2
  go_ret
  exact ⟨by simp,.inl (by simp [I64.marks]),Wrote.of_below (Below.refl _ _) hlo⟩
 ·have ho:w.ownsRow base 2 1 (.slice a ms.length cap) ms.length (ms.flatMap I64.enc):=hm.resolve_left he
  refine (markInt64S_any ms a cap base c0 w ho (by omega) h0 (by omega)).mono ?_
  rintro e w' ⟨rfl,h2,hg⟩
  refine ⟨rfl,.inr ?_,?_⟩
  ·rw [I64.marks_len]
   exact h2
  ·rw [effA_some a he]
   exact Wrote.of_grown hg hlo (fun g h=>(own_lt ho g h).1)
theorem markLexZ_any (ms:List ByteArray) (a:Option Addr) (cap base:Nat) (c0:Int) (w:World) (hm:TZ w base a cap ms) (hlo:base≤w.heap.size) (hl:ms.length≤1048576) (h0:0≤c0) (h1:c0≤1073741824) :
  Calls Tryz.prog 80 #[.agg #[.slice a ms.length cap],.int .i64 c0] w fun e w'=>e=.returned (.int .i64 (c0+ms.length))∧TZ w' base a cap (Tx.marks c0 ms.length)∧Wrote base [effA a ms] w w':=by
 have hb:Below w.heap.size w (w.alloc (.cells #[.slice a ms.length cap] 27)):=(Below.refl _ _).alloc (Nat.le_refl _) _
 have HM:=Lh (hm.kept hb)
 clear hm
 go_enter Tryz.func80,Tryz.ntmps80
 go_wp2_with fail
 refine (markTZ_any ms a cap base c0 _ HM.out (Nat.le_trans hlo hb.size) hl h0 h1).mono ?_
 rintro e w2 ⟨rfl,h2,hw⟩
 have H2:=Lh h2
 have HW:=Lh hw
 clear h2 hw HM
 go_wp2
 go_ret
 exact ⟨rfl,H2.out,(Wrote.of_below (S:=[]) hb hlo).trans HW.out⟩
theorem markTilesZ_any (x:Tls) (q:TlA) (base:Nat) (c0:Int) (w:World) (hv:IZ w base q.values.a q.values.c x.values) (hc:IZ w base q.counts.a q.counts.c x.counts) (hA:offA (effA q.values.a x.values) (effA q.counts.a x.counts)) (hlo:base≤w.heap.size) (hsm:x.small) (h0:0≤c0) (h1:c0≤1048576) :
  Calls Tryz.prog 79 #[.agg #[.string x.letters,.slice q.values.a x.values.length q.values.c,.slice q.counts.a x.counts.length q.counts.c,.int .i64 x.blanks],.int .i64 c0] w fun e w'=>e=.returned (.int .i64 (c0+x.values.length+x.counts.length))∧IZ w' base q.values.a q.values.c (I64.marks c0 x.values.length)∧IZ w' base q.counts.a q.counts.c (I64.marks (c0+x.values.length) x.counts.length)∧Wrote base [effA q.values.a x.values,effA q.counts.a x.counts] w w':=by
 obtain ⟨hs1,hs2⟩:=hsm
 have hb:Below w.heap.size w (w.alloc (.cells #[.string x.letters,.slice q.values.a x.values.length q.values.c,.slice q.counts.a x.counts.length q.counts.c,.int .i64 x.blanks] 24)):=(Below.refl _ _).alloc (Nat.le_refl _) _
 have VT:=Lh (VarAt.new w 24 [.string x.letters,.slice q.values.a x.values.length q.values.c,.slice q.counts.a x.counts.length q.counts.c,.int .i64 x.blanks])
 have OV:offA (effA q.values.a x.values) (some ⟨w.heap.size,0,none⟩):=off_of_lt (fun g h=>(hv.lt g h).2) (fun g h=>by cases h;exact Nat.le_refl _)
 have HV:=Lh (hv.kept hb)
 have HC:=Lh (hc.kept hb)
 have HA:=Lh hA
 have HOV:=Lh OV
 have hW:=Wrote.of_below (S:=[]) hb hlo
 clear hv hc hA OV
 go_enter Tryz.func79,Tryz.ntmps79
 go_upto_region 1 with fail
 generalize w.alloc (.cells #[.string x.letters,.slice q.values.a x.values.length q.values.c,.slice q.counts.a x.counts.length q.counts.c,.int .i64 x.blanks] 24)=w1 at *
 have c1:=VT.out.cell (i:=1) rfl
 go_wp2_with fail
 refine (markIZ_any x.values q.values.a q.values.c base c0 _ HV.out (Nat.le_trans hlo hb.size) (by omega) h0 (by omega)).mono ?_
 rintro e w2 ⟨rfl,h2,hw⟩
 clear c1 HV
 have HV:=Lh h2
 replace VT:=Lh (VT.out.wrote hw (by simpa using HOV.out))
 replace HC:=Lh (HC.out.wrote hw (by simpa using HA.out))
 replace hW:=hW.trans hw
 clear h2 hw
 have c2:=VT.out.cell (i:=2) rfl
 go_wp2_with fail
 refine (markIZ_any x.counts q.counts.a q.counts.c base (c0+x.values.length) _ HC.out (Nat.le_trans hlo hW.size) (by omega) (by omega) (by omega)).mono ?_
 rintro e w3 ⟨rfl,h2,hw⟩
 clear c2 HC
 have HC:=Lh h2
 replace HV:=Lh (HV.out.wrote hw (by
  rw [effA_len q.values.a (I64.marks_len c0 x.values.length)]
  simpa using HA.out.symm))
 replace hW:=hW.trans hw
 have HW:=Lh hW
 clear h2 hw VT hW
 go_wp2
 go_ret
 exact ⟨rfl,HV.out,HC.out,HW.out⟩

/-! ### Marks of a setup -/
/-- its rows are of the call's own, or empty -/
structure Stp.Z (x:Stp) (q:StA) (base:Nat) (w:World):Prop where
 values:IZ w base q.tiles.values.a q.tiles.values.c x.tiles.values
 counts:IZ w base q.tiles.counts.a q.tiles.counts.c x.tiles.counts
 lexicon:TZ w base q.lexicon.a q.lexicon.c x.lexicon
/-- they lie in blocks of their own -/
structure Stp.Off (x:Stp) (q:StA):Prop where
 vc:offA (effA q.tiles.values.a x.tiles.values) (effA q.tiles.counts.a x.tiles.counts)
 vl:offA (effA q.tiles.values.a x.tiles.values) (effA q.lexicon.a x.lexicon)
 cl:offA (effA q.tiles.counts.a x.tiles.counts) (effA q.lexicon.a x.lexicon)
def Tls.marked (x:Tls) (c:Int):Tls:={ x with values:=I64.marks c x.values.length,counts:=I64.marks (c+x.values.length) x.counts.length }
def Stp.marked (x:Stp) (c:Int):Stp:={ x with tiles:=x.tiles.marked c,lexicon:=Tx.marks (c+x.tiles.values.length+x.tiles.counts.length) x.lexicon.length }
def Stp.effs (x:Stp) (q:StA):List (Option Addr):=[effA q.tiles.values.a x.tiles.values,effA q.tiles.counts.a x.tiles.counts,effA q.lexicon.a x.lexicon]
theorem Stp.Z.kept {x:Stp} {q:StA} {base:Nat} {w w':World} (h:x.Z q base w) (hb:Below w.heap.size w w'):x.Z q base w':=⟨h.values.kept hb,h.counts.kept hb,h.lexicon.kept hb⟩
theorem Stp.Z.mono {x:Stp} {q:StA} {base base':Nat} {w:World} (h:x.Z q base w) (hb:base'≤base):x.Z q base' w:=⟨h.values.mono hb,h.counts.mono hb,h.lexicon.mono hb⟩
theorem Stp.Z.at {x:Stp} {q:StA} {base:Nat} {w:World} (h:x.Z q base w):x.At q w:=⟨⟨h.values.at,h.counts.at⟩,h.lexicon.at⟩
theorem Stp.Z.of {x:Stp} {q:StA} {base:Nat} {w:World} (h:x.Own q base w):x.Z q base w:=⟨.inr h.1.1,.inr h.1.2,.inr h.2⟩
theorem Stp.Off.of {x:Stp} {q:StA} (h:q.apart):x.Off q:=⟨h.1.eff _ _,h.2.1.eff _ _,h.2.2.eff _ _⟩
theorem Stp.Z.wrote {x:Stp} {q:StA} {base lo:Nat} {w w':World} {S:List (Option Addr)} (h:x.Z q base w) (hw:Wrote lo S w w') (ho:∀ s∈S,∀ t∈x.effs q,offA s t):x.Z q base w' :=
 ⟨h.values.wrote hw (fun s hs=>ho s hs _ (by simp [Stp.effs])),h.counts.wrote hw (fun s hs=>ho s hs _ (by simp [Stp.effs])),h.lexicon.wrote hw (fun s hs=>ho s hs _ (by simp [Stp.effs]))⟩
theorem Stp.effs_marked (x:Stp) (q:StA) (c:Int):(x.marked c).effs q=x.effs q:=by
 unfold Stp.effs Stp.marked Tls.marked
 simp only
 rw [effA_len q.tiles.values.a (I64.marks_len c x.tiles.values.length),effA_len q.tiles.counts.a (I64.marks_len (c+x.tiles.values.length) x.tiles.counts.length),effA_len q.lexicon.a (Tx.marks_len (c+x.tiles.values.length+x.tiles.counts.length) x.lexicon.length)]
theorem Stp.Z.lt {x:Stp} {q:StA} {base:Nat} {w:World} (h:x.Z q base w):∀ t∈x.effs q,∀ g,t.map (·.block)=some g→base≤g∧g < w.heap.size:=by
 intro t ht
 simp only [Stp.effs,List.mem_cons,List.not_mem_nil,or_false] at ht
 rcases ht with rfl | rfl | rfl
 ·exact h.values.lt
 ·exact h.counts.lt
 ·exact h.lexicon.lt

theorem markSetupZ_any (x:Stp) (q:StA) (base:Nat) (c0:Int) (w:World) (hz:x.Z q base w) (hA:x.Off q) (hlo:base≤w.heap.size) (hsm:x.small) (h0:0≤c0) (h1:c0≤1048576) :
  Calls Tryz.prog 39 #[.agg #[.string x.tiles.letters,.slice q.tiles.values.a x.tiles.values.length q.tiles.values.c,.slice q.tiles.counts.a x.tiles.counts.length q.tiles.counts.c,.int .i64 x.tiles.blanks,.slice q.lexicon.a x.lexicon.length q.lexicon.c,.int .i64 x.board.size,.string x.board.premium,.string x.board.cells,.int .i64 x.seconds,.int .i64 x.rule],.int .i64 c0] w fun e w'=>e=.returned (.int .i64 (c0+x.tiles.values.length+x.tiles.counts.length+x.lexicon.length))∧(x.marked c0).Z q base w'∧Wrote base (x.effs q) w w':=by
 obtain ⟨⟨hs1,hs2⟩,hs3⟩:=hsm
 have hb:Below w.heap.size w (w.alloc (.cells #[.string x.tiles.letters,.slice q.tiles.values.a x.tiles.values.length q.tiles.values.c,.slice q.tiles.counts.a x.tiles.counts.length q.tiles.counts.c,.int .i64 x.tiles.blanks,.slice q.lexicon.a x.lexicon.length q.lexicon.c,.int .i64 x.board.size,.string x.board.premium,.string x.board.cells,.int .i64 x.seconds,.int .i64 x.rule] 31)):=(Below.refl _ _).alloc (Nat.le_refl _) _
 have V:=Lh (VarAt.new w 31 [.string x.tiles.letters,.slice q.tiles.values.a x.tiles.values.length q.tiles.values.c,.slice q.tiles.counts.a x.tiles.counts.length q.tiles.counts.c,.int .i64 x.tiles.blanks,.slice q.lexicon.a x.lexicon.length q.lexicon.c,.int .i64 x.board.size,.string x.board.premium,.string x.board.cells,.int .i64 x.seconds,.int .i64 x.rule])
 have HOV:Hid (∀ s∈x.effs q,offA s (some ⟨w.heap.size,0,none⟩)):=Lh (fun s hs=>off_of_lt (fun g h=>(hz.lt s hs g h).2) (fun g h=>by cases h;exact Nat.le_refl _))
 have HZ:=Lh (hz.kept hb)
 have HA:=Lh hA
 have hW:=Wrote.of_below (S:=[]) hb hlo
 clear hz hA
 go_enter Tryz.func39,Tryz.ntmps39
 go_upto_region 1 with fail
 generalize w.alloc (.cells #[.string x.tiles.letters,.slice q.tiles.values.a x.tiles.values.length q.tiles.values.c,.slice q.tiles.counts.a x.tiles.counts.length q.tiles.counts.c,.int .i64 x.tiles.blanks,.slice q.lexicon.a x.lexicon.length q.lexicon.c,.int .i64 x.board.size,.string x.board.premium,.string x.board.cells,.int .i64 x.seconds,.int .i64 x.rule] 31)=w1 at *

 have k0:=V.out.cell (i:=0) rfl
 have k1:=V.out.cell (i:=1) rfl
 have k2:=V.out.cell (i:=2) rfl
 have k3:=V.out.cell (i:=3) rfl
 go_wp2_with fail
 refine (markTilesZ_any x.tiles q.tiles base c0 _ HZ.out.values HZ.out.counts HA.out.vc (Nat.le_trans hlo hb.size) ⟨hs1,hs2⟩ h0 h1).mono ?_
 rintro e w2 ⟨rfl,h2,h3,hw⟩
 clear k0 k1 k2 k3
 have HV:=Lh h2
 have HC:=Lh h3
 replace V:=Lh (V.out.wrote hw (fun s hs=>HOV.out s (by simp only [Stp.effs,List.mem_cons,List.not_mem_nil,or_false] at hs ⊢;rcases hs with h | h<;>simp [h])))
 have HL:=Lh (HZ.out.lexicon.wrote hw (fun s hs=>by
  simp only [List.mem_cons,List.not_mem_nil,or_false] at hs
  rcases hs with rfl | rfl
  ·exact HA.out.vl
  ·exact HA.out.cl))
 replace hW:=hW.trans hw
 clear h2 h3 hw HZ
 have c4:=V.out.cell (i:=4) rfl
 go_wp2_with fail
 refine (markLexZ_any x.lexicon q.lexicon.a q.lexicon.c base (c0+x.tiles.values.length+x.tiles.counts.length) _ HL.out (Nat.le_trans hlo hW.size) hs3 (by omega) (by omega)).mono ?_
 rintro e w3 ⟨rfl,h2,hw⟩
 clear c4 HL
 have HL:=Lh h2
 replace HV:=Lh (HV.out.wrote hw (fun s hs=>by
  rw [List.mem_singleton.1 hs,effA_len q.tiles.values.a (I64.marks_len c0 x.tiles.values.length)]
  exact HA.out.vl.symm))
 replace HC:=Lh (HC.out.wrote hw (fun s hs=>by
  rw [List.mem_singleton.1 hs,effA_len q.tiles.counts.a (I64.marks_len (c0+x.tiles.values.length) x.tiles.counts.length)]
  exact HA.out.cl.symm))
 have HW:=Lh (hW.trans hw)
 clear h2 hw hW V
 go_wp2
 go_ret
 exact ⟨rfl,⟨HV.out,HC.out,HL.out⟩,HW.out⟩

/-! ### Marks of a game -/
structure Gam.Z (x:Gam) (q:GaA) (base:Nat) (w:World):Prop where
 setup:x.setup.Z q.setup base w
 racks:TZ w base q.racks.a q.racks.c x.racks
 scores:IZ w base q.scores.a q.scores.c x.scores
 clocks:IZ w base q.clocks.a q.clocks.c x.clocks
structure Gam.Off (x:Gam) (q:GaA):Prop where
 setup:x.setup.Off q.setup
 sr:∀ t∈x.setup.effs q.setup,offA t (effA q.racks.a x.racks)
 ss:∀ t∈x.setup.effs q.setup,offA t (effA q.scores.a x.scores)
 sc:∀ t∈x.setup.effs q.setup,offA t (effA q.clocks.a x.clocks)
 rs:offA (effA q.racks.a x.racks) (effA q.scores.a x.scores)
 rc:offA (effA q.racks.a x.racks) (effA q.clocks.a x.clocks)
 cs:offA (effA q.scores.a x.scores) (effA q.clocks.a x.clocks)
def Gam.cnt (x:Gam):Nat:=x.setup.tiles.values.length+x.setup.tiles.counts.length+x.setup.lexicon.length+x.racks.length+x.scores.length+x.clocks.length
def Gam.marked (x:Gam) (c:Int):Gam:={ x with setup:=x.setup.marked c,racks:=Tx.marks (c+x.setup.tiles.values.length+x.setup.tiles.counts.length+x.setup.lexicon.length) x.racks.length,scores:=I64.marks (c+x.setup.tiles.values.length+x.setup.tiles.counts.length+x.setup.lexicon.length+x.racks.length) x.scores.length,clocks:=I64.marks (c+x.setup.tiles.values.length+x.setup.tiles.counts.length+x.setup.lexicon.length+x.racks.length+x.scores.length) x.clocks.length }
def Gam.effs (x:Gam) (q:GaA):List (Option Addr):=x.setup.effs q.setup++[effA q.racks.a x.racks,effA q.scores.a x.scores,effA q.clocks.a x.clocks]
theorem Gam.Z.kept {x:Gam} {q:GaA} {base:Nat} {w w':World} (h:x.Z q base w) (hb:Below w.heap.size w w'):x.Z q base w':=⟨h.setup.kept hb,h.racks.kept hb,h.scores.kept hb,h.clocks.kept hb⟩
theorem Gam.Z.mono {x:Gam} {q:GaA} {base base':Nat} {w:World} (h:x.Z q base w) (hb:base'≤base):x.Z q base' w:=⟨h.setup.mono hb,h.racks.mono hb,h.scores.mono hb,h.clocks.mono hb⟩
theorem Gam.Z.at {x:Gam} {q:GaA} {base:Nat} {w:World} (h:x.Z q base w):x.At q w:=⟨h.setup.at,h.racks.at,h.scores.at,h.clocks.at⟩
theorem Gam.Z.of {x:Gam} {q:GaA} {base:Nat} {w:World} (h:x.Own q base w):x.Z q base w:=⟨.of h.1,.inr h.2.1,.inr h.2.2.1,.inr h.2.2.2⟩
theorem Gam.Off.of {x:Gam} {q:GaA} (h:q.apart):x.Off q:=by
 obtain ⟨a,b,c,d,e,f,g⟩:=h
 refine ⟨.of a,?_,?_,?_,d.eff _ _,f.eff _ _,g.eff _ _⟩
 all_goals
  intro t ht
  simp only [Stp.effs,List.mem_cons,List.not_mem_nil,or_false] at ht
 ·rcases ht with rfl | rfl | rfl
  ·exact b.1.eff _ _
  ·exact b.2.1.eff _ _
  ·exact b.2.2.eff _ _
 ·rcases ht with rfl | rfl | rfl
  ·exact c.1.eff _ _
  ·exact c.2.1.eff _ _
  ·exact c.2.2.eff _ _
 ·rcases ht with rfl | rfl | rfl
  ·exact e.1.eff _ _
  ·exact e.2.1.eff _ _
  ·exact e.2.2.eff _ _
theorem Gam.Z.lt {x:Gam} {q:GaA} {base:Nat} {w:World} (h:x.Z q base w):∀ t∈x.effs q,∀ g,t.map (·.block)=some g→base≤g∧g < w.heap.size:=by
 intro t ht
 rcases List.mem_append.1 ht with ht | ht
 ·exact h.setup.lt t ht
 ·simp only [List.mem_cons,List.not_mem_nil,or_false] at ht
  rcases ht with rfl | rfl | rfl
  ·exact h.racks.lt
  ·exact h.scores.lt
  ·exact h.clocks.lt
theorem Gam.Z.wrote {x:Gam} {q:GaA} {base lo:Nat} {w w':World} {S:List (Option Addr)} (h:x.Z q base w) (hw:Wrote lo S w w') (ho:∀ s∈S,∀ t∈x.effs q,offA s t):x.Z q base w' :=
 ⟨h.setup.wrote hw (fun s hs t ht=>ho s hs t (List.mem_append_left _ ht)),h.racks.wrote hw (fun s hs=>ho s hs _ (by simp [Gam.effs])),h.scores.wrote hw (fun s hs=>ho s hs _ (by simp [Gam.effs])),h.clocks.wrote hw (fun s hs=>ho s hs _ (by simp [Gam.effs]))⟩
theorem markGameZ_any (x:Gam) (q:GaA) (base:Nat) (w:World) (hz:x.Z q base w) (hA:x.Off q) (hlo:base≤w.heap.size) (hsm:x.small) :
  Calls Tryz.prog 9 #[.agg #[.string x.setup.tiles.letters,.slice q.setup.tiles.values.a x.setup.tiles.values.length q.setup.tiles.values.c,.slice q.setup.tiles.counts.a x.setup.tiles.counts.length q.setup.tiles.counts.c,.int .i64 x.setup.tiles.blanks,.slice q.setup.lexicon.a x.setup.lexicon.length q.setup.lexicon.c,.int .i64 x.setup.board.size,.string x.setup.board.premium,.string x.setup.board.cells,.int .i64 x.setup.seconds,.int .i64 x.setup.rule,.int .i64 x.board.size,.string x.board.premium,.string x.board.cells,.string x.bag,.slice q.racks.a x.racks.length q.racks.c,.slice q.scores.a x.scores.length q.scores.c,.slice q.clocks.a x.clocks.length q.clocks.c,.int .i64 x.player,.int .i64 x.zeros,.int .i64 x.last.kind,.int .i64 x.last.player,.int .i64 x.last.play.row,.int .i64 x.last.play.col,.bool x.last.play.down,.string x.last.play.word,.string x.last.before,.string x.last.drawn,.int .i64 x.last.score,.int .i64 x.last.zeros,.bool x.over],.int .i64 1] w fun e w'=>e=.returned (.int .i64 (1+(x.cnt:Nat)))∧(x.marked 1).Z q base w'∧Wrote base (x.effs q) w w':=by
 obtain ⟨hs0,hs1,hs2,hs3⟩:=hsm
 have hs4:=hs0.1.1
 have hs5:=hs0.1.2
 have hs6:=hs0.2
 have hb:Below w.heap.size w (w.alloc (.cells #[.string x.setup.tiles.letters,.slice q.setup.tiles.values.a x.setup.tiles.values.length q.setup.tiles.values.c,.slice q.setup.tiles.counts.a x.setup.tiles.counts.length q.setup.tiles.counts.c,.int .i64 x.setup.tiles.blanks,.slice q.setup.lexicon.a x.setup.lexicon.length q.setup.lexicon.c,.int .i64 x.setup.board.size,.string x.setup.board.premium,.string x.setup.board.cells,.int .i64 x.setup.seconds,.int .i64 x.setup.rule,.int .i64 x.board.size,.string x.board.premium,.string x.board.cells,.string x.bag,.slice q.racks.a x.racks.length q.racks.c,.slice q.scores.a x.scores.length q.scores.c,.slice q.clocks.a x.clocks.length q.clocks.c,.int .i64 x.player,.int .i64 x.zeros,.int .i64 x.last.kind,.int .i64 x.last.player,.int .i64 x.last.play.row,.int .i64 x.last.play.col,.bool x.last.play.down,.string x.last.play.word,.string x.last.before,.string x.last.drawn,.int .i64 x.last.score,.int .i64 x.last.zeros,.bool x.over] 37)):=(Below.refl _ _).alloc (Nat.le_refl _) _
 have V:=Lh (VarAt.new w 37 [.string x.setup.tiles.letters,.slice q.setup.tiles.values.a x.setup.tiles.values.length q.setup.tiles.values.c,.slice q.setup.tiles.counts.a x.setup.tiles.counts.length q.setup.tiles.counts.c,.int .i64 x.setup.tiles.blanks,.slice q.setup.lexicon.a x.setup.lexicon.length q.setup.lexicon.c,.int .i64 x.setup.board.size,.string x.setup.board.premium,.string x.setup.board.cells,.int .i64 x.setup.seconds,.int .i64 x.setup.rule,.int .i64 x.board.size,.string x.board.premium,.string x.board.cells,.string x.bag,.slice q.racks.a x.racks.length q.racks.c,.slice q.scores.a x.scores.length q.scores.c,.slice q.clocks.a x.clocks.length q.clocks.c,.int .i64 x.player,.int .i64 x.zeros,.int .i64 x.last.kind,.int .i64 x.last.player,.int .i64 x.last.play.row,.int .i64 x.last.play.col,.bool x.last.play.down,.string x.last.play.word,.string x.last.before,.string x.last.drawn,.int .i64 x.last.score,.int .i64 x.last.zeros,.bool x.over])
 have HOV:Hid (∀ s∈x.effs q,offA s (some ⟨w.heap.size,0,none⟩)):=Lh (fun s hs=>off_of_lt (fun g h=>(hz.lt s hs g h).2) (fun g h=>by cases h;exact Nat.le_refl _))
 have HZ:=Lh (hz.kept hb)
 have HA:=Lh hA
 have hW:=Wrote.of_below (S:=[]) hb hlo
 have HCN:Hid ((x.cnt:Int)=x.setup.tiles.values.length+x.setup.tiles.counts.length+x.setup.lexicon.length+x.racks.length+x.scores.length+x.clocks.length):=Lh (by unfold Gam.cnt;push_cast;rfl)
 clear hz hA
 go_enter Tryz.func9,Tryz.ntmps9
 go_upto_region 1 with fail
 generalize w.alloc (.cells #[.string x.setup.tiles.letters,.slice q.setup.tiles.values.a x.setup.tiles.values.length q.setup.tiles.values.c,.slice q.setup.tiles.counts.a x.setup.tiles.counts.length q.setup.tiles.counts.c,.int .i64 x.setup.tiles.blanks,.slice q.setup.lexicon.a x.setup.lexicon.length q.setup.lexicon.c,.int .i64 x.setup.board.size,.string x.setup.board.premium,.string x.setup.board.cells,.int .i64 x.setup.seconds,.int .i64 x.setup.rule,.int .i64 x.board.size,.string x.board.premium,.string x.board.cells,.string x.bag,.slice q.racks.a x.racks.length q.racks.c,.slice q.scores.a x.scores.length q.scores.c,.slice q.clocks.a x.clocks.length q.clocks.c,.int .i64 x.player,.int .i64 x.zeros,.int .i64 x.last.kind,.int .i64 x.last.player,.int .i64 x.last.play.row,.int .i64 x.last.play.col,.bool x.last.play.down,.string x.last.play.word,.string x.last.before,.string x.last.drawn,.int .i64 x.last.score,.int .i64 x.last.zeros,.bool x.over] 37)=w1 at *

 have c0:=V.out.cell (i:=0) rfl
 have c1:=V.out.cell (i:=1) rfl
 have c2:=V.out.cell (i:=2) rfl
 have c3:=V.out.cell (i:=3) rfl
 have c4:=V.out.cell (i:=4) rfl
 have c5:=V.out.cell (i:=5) rfl
 have c6:=V.out.cell (i:=6) rfl
 have c7:=V.out.cell (i:=7) rfl
 have c8:=V.out.cell (i:=8) rfl
 have c9:=V.out.cell (i:=9) rfl
 go_wp2_with fail
 refine (markSetupZ_any x.setup q.setup base 1 _ HZ.out.setup HA.out.setup (Nat.le_trans hlo hb.size) hs0 (by omega) (by omega)).mono ?_
 rintro e w2 ⟨rfl,h2,hw⟩
 clear c0 c1 c2 c3 c4 c5 c6 c7 c8 c9
 have HS:=Lh h2
 replace V:=Lh (V.out.wrote hw (fun s hs=>HOV.out s (List.mem_append_left _ hs)))
 have HR:=Lh (HZ.out.racks.wrote hw HA.out.sr)
 have HO:=Lh (HZ.out.scores.wrote hw HA.out.ss)
 have HC:=Lh (HZ.out.clocks.wrote hw HA.out.sc)
 replace hW:=hW.trans hw
 clear h2 hw HZ
 have c14:=V.out.cell (i:=14) rfl
 go_wp2_with fail
 refine (markTZ_any x.racks q.racks.a q.racks.c base (1+x.setup.tiles.values.length+x.setup.tiles.counts.length+x.setup.lexicon.length) _ HR.out (Nat.le_trans hlo hW.size) hs1 (by omega) (by omega)).mono ?_
 rintro e w3 ⟨rfl,h2,hw⟩
 clear c14 HR
 have HR:=Lh h2
 replace HS:=Lh (HS.out.wrote hw (fun s hs t ht=>by
  rw [Stp.effs_marked] at ht
  rw [List.mem_singleton.1 hs]
  exact (HA.out.sr t ht).symm))
 replace V:=Lh (V.out.wrote hw (fun s hs=>HOV.out s (by rw [List.mem_singleton.1 hs];simp [Gam.effs])))
 replace HO:=Lh (HO.out.wrote hw (fun s hs=>by rw [List.mem_singleton.1 hs];exact HA.out.rs))
 replace HC:=Lh (HC.out.wrote hw (fun s hs=>by rw [List.mem_singleton.1 hs];exact HA.out.rc))
 replace hW:=hW.trans hw
 clear h2 hw
 have c15:=V.out.cell (i:=15) rfl
 go_wp2_with fail
 refine (markIZ_any x.scores q.scores.a q.scores.c base (1+x.setup.tiles.values.length+x.setup.tiles.counts.length+x.setup.lexicon.length+x.racks.length) _ HO.out (Nat.le_trans hlo hW.size) hs2 (by omega) (by omega)).mono ?_
 rintro e w4 ⟨rfl,h2,hw⟩
 clear c15 HO
 have HO:=Lh h2
 replace HS:=Lh (HS.out.wrote hw (fun s hs t ht=>by
  rw [Stp.effs_marked] at ht
  rw [List.mem_singleton.1 hs]
  exact (HA.out.ss t ht).symm))
 replace V:=Lh (V.out.wrote hw (fun s hs=>HOV.out s (by rw [List.mem_singleton.1 hs];simp [Gam.effs])))
 replace HR:=Lh (HR.out.wrote hw (fun s hs=>by rw [List.mem_singleton.1 hs,effA_len q.racks.a (Tx.marks_len _ x.racks.length)];exact HA.out.rs.symm))
 replace HC:=Lh (HC.out.wrote hw (fun s hs=>by rw [List.mem_singleton.1 hs];exact HA.out.cs))
 replace hW:=hW.trans hw
 clear h2 hw
 have c16:=V.out.cell (i:=16) rfl
 go_wp2_with fail
 refine (markIZ_any x.clocks q.clocks.a q.clocks.c base (1+x.setup.tiles.values.length+x.setup.tiles.counts.length+x.setup.lexicon.length+x.racks.length+x.scores.length) _ HC.out (Nat.le_trans hlo hW.size) hs3 (by omega) (by omega)).mono ?_
 rintro e w5 ⟨rfl,h2,hw⟩
 clear c16 HC
 have HC:=Lh h2
 replace HS:=Lh (HS.out.wrote hw (fun s hs t ht=>by
  rw [Stp.effs_marked] at ht
  rw [List.mem_singleton.1 hs]
  exact (HA.out.sc t ht).symm))
 replace HR:=Lh (HR.out.wrote hw (fun s hs=>by rw [List.mem_singleton.1 hs,effA_len q.racks.a (Tx.marks_len _ x.racks.length)];exact HA.out.rc.symm))
 replace HO:=Lh (HO.out.wrote hw (fun s hs=>by rw [List.mem_singleton.1 hs,effA_len q.scores.a (I64.marks_len _ x.scores.length)];exact HA.out.cs.symm))
 have HW:=Lh (hW.trans hw)
 clear h2 hw hW V
 go_wp2
 go_ret
 refine ⟨?_,⟨HS.out,HR.out,HO.out,HC.out⟩,?_⟩
 ·rw [HCN.out]
  exact congrArg (fun z:Int=>Ending.returned (.int .i64 z)) (by omega)
 ·have h:=HW.out
  simpa [Gam.effs,List.append_assoc] using h


/-! ### Marks that are held -/
theorem heldLexG_any (n:Nat) (a:Option Addr) (cap:Nat) (c0:Int) (w:World) (hm:SliceAt w 1 Tx.enc a (Tx.marks c0 n)) (hl:n≤1048576) (h0:0≤c0) (h1:c0≤1073741824) :
  Calls Tryz.prog 83 #[.agg #[.slice a n cap],.int .i64 c0] w fun e w'=>e=.returned (.int .i64 (c0+n))∧Below w.heap.size w w':=by
 have hb:Below w.heap.size w (w.alloc (.cells #[.slice a n cap] 27)):=(Below.refl _ _).alloc (Nat.le_refl _) _
 have HM:=Lh (hm.kept hb)
 have hn:¬ c0+(n:Int) < 0:=by omega
 clear hm
 go_enter Tryz.func83,Tryz.ntmps83
 go_wp2_with fail
 refine (heldStringS_any n a cap c0 _ HM.out (by omega) h0 (by omega)).mono ?_
 rintro e w2 ⟨rfl,hd⟩
 replace hb:=hb.trans (hd.mono hb.size)
 clear hd HM
 go_wp2
 go_ret
 exact ⟨rfl,hb⟩
theorem heldTilesG_any (x:Tls) (q:TlA) (c0:Int) (w:World) (hv:SliceAt w 1 I64.enc q.values.a (I64.marks c0 x.values.length)) (hc:SliceAt w 1 I64.enc q.counts.a (I64.marks (c0+x.values.length) x.counts.length)) (hsm:x.small) (h0:0≤c0) (h1:c0≤1048576) :
  Calls Tryz.prog 82 #[.agg #[.string x.letters,.slice q.values.a x.values.length q.values.c,.slice q.counts.a x.counts.length q.counts.c,.int .i64 x.blanks],.int .i64 c0] w fun e w'=>e=.returned (.int .i64 (c0+x.values.length+x.counts.length))∧Below w.heap.size w w':=by
 obtain ⟨hs1,hs2⟩:=hsm
 have hb:Below w.heap.size w (w.alloc (.cells #[.string x.letters,.slice q.values.a x.values.length q.values.c,.slice q.counts.a x.counts.length q.counts.c,.int .i64 x.blanks] 24)):=(Below.refl _ _).alloc (Nat.le_refl _) _
 have VT:=Lh (VarAt.new w 24 [.string x.letters,.slice q.values.a x.values.length q.values.c,.slice q.counts.a x.counts.length q.counts.c,.int .i64 x.blanks])
 have HV:=Lh (hv.kept hb)
 have HC:=Lh (hc.kept hb)
 have n1:¬ c0+(x.values.length:Int) < 0:=by omega
 have n2:¬ c0+(x.values.length:Int)+(x.counts.length:Int) < 0:=by omega
 clear hv hc
 go_enter Tryz.func82,Tryz.ntmps82
 go_upto_region 1 with fail
 generalize w.alloc (.cells #[.string x.letters,.slice q.values.a x.values.length q.values.c,.slice q.counts.a x.counts.length q.counts.c,.int .i64 x.blanks] 24)=w1 at *
 have c1:=VT.out.cell (i:=1) rfl
 go_wp2_with fail
 refine (heldInt64S_any x.values.length q.values.a q.values.c c0 _ HV.out (by omega) h0 (by omega)).mono ?_
 rintro e w2 ⟨rfl,hd⟩
 clear c1 HV
 replace hb:=hb.trans (hd.mono hb.size)
 replace VT:=Lh (VT.out.kept hd)
 replace HC:=Lh (HC.out.kept hd)
 clear hd
 have c2:=VT.out.cell (i:=2) rfl
 go_wp2_with fail
 refine (heldInt64S_any x.counts.length q.counts.a q.counts.c (c0+x.values.length) _ HC.out (by omega) (by omega) (by omega)).mono ?_
 rintro e w3 ⟨rfl,hd⟩
 replace hb:=hb.trans (hd.mono hb.size)
 clear hd c2 HC VT
 go_wp2
 go_ret
 exact ⟨rfl,hb⟩
theorem heldSetupG_any (x:Stp) (q:StA) (c0:Int) (w:World) (ha:(x.marked c0).At q w) (hsm:x.small) (h0:0≤c0) (h1:c0≤1048576) :
  Calls Tryz.prog 42 #[.agg #[.string x.tiles.letters,.slice q.tiles.values.a x.tiles.values.length q.tiles.values.c,.slice q.tiles.counts.a x.tiles.counts.length q.tiles.counts.c,.int .i64 x.tiles.blanks,.slice q.lexicon.a x.lexicon.length q.lexicon.c,.int .i64 x.board.size,.string x.board.premium,.string x.board.cells,.int .i64 x.seconds,.int .i64 x.rule],.int .i64 c0] w fun e w'=>e=.returned (.int .i64 (c0+x.tiles.values.length+x.tiles.counts.length+x.lexicon.length))∧Below w.heap.size w w':=by
 obtain ⟨⟨hs1,hs2⟩,hs3⟩:=hsm
 have hb:Below w.heap.size w (w.alloc (.cells #[.string x.tiles.letters,.slice q.tiles.values.a x.tiles.values.length q.tiles.values.c,.slice q.tiles.counts.a x.tiles.counts.length q.tiles.counts.c,.int .i64 x.tiles.blanks,.slice q.lexicon.a x.lexicon.length q.lexicon.c,.int .i64 x.board.size,.string x.board.premium,.string x.board.cells,.int .i64 x.seconds,.int .i64 x.rule] 31)):=(Below.refl _ _).alloc (Nat.le_refl _) _
 have V:=Lh (VarAt.new w 31 [.string x.tiles.letters,.slice q.tiles.values.a x.tiles.values.length q.tiles.values.c,.slice q.tiles.counts.a x.tiles.counts.length q.tiles.counts.c,.int .i64 x.tiles.blanks,.slice q.lexicon.a x.lexicon.length q.lexicon.c,.int .i64 x.board.size,.string x.board.premium,.string x.board.cells,.int .i64 x.seconds,.int .i64 x.rule])
 have HA:=Lh (Stp.At.kept ha hb)
 have n1:¬ c0+(x.tiles.values.length:Int)+(x.tiles.counts.length:Int) < 0:=by omega
 have n2:¬ c0+(x.tiles.values.length:Int)+(x.tiles.counts.length:Int)+(x.lexicon.length:Int) < 0:=by omega
 clear ha
 go_enter Tryz.func42,Tryz.ntmps42
 go_upto_region 1 with fail
 generalize w.alloc (.cells #[.string x.tiles.letters,.slice q.tiles.values.a x.tiles.values.length q.tiles.values.c,.slice q.tiles.counts.a x.tiles.counts.length q.tiles.counts.c,.int .i64 x.tiles.blanks,.slice q.lexicon.a x.lexicon.length q.lexicon.c,.int .i64 x.board.size,.string x.board.premium,.string x.board.cells,.int .i64 x.seconds,.int .i64 x.rule] 31)=w1 at *

 have k0:=V.out.cell (i:=0) rfl
 have k1:=V.out.cell (i:=1) rfl
 have k2:=V.out.cell (i:=2) rfl
 have k3:=V.out.cell (i:=3) rfl
 go_wp2_with fail
 refine (heldTilesG_any x.tiles q.tiles c0 _ HA.out.1.1 HA.out.1.2 ⟨hs1,hs2⟩ h0 h1).mono ?_
 rintro e w2 ⟨rfl,hd⟩
 clear k0 k1 k2 k3
 replace HA:=Lh (Stp.At.kept HA.out hd)
 replace hb:=hb.trans (hd.mono hb.size)
 replace V:=Lh (V.out.kept hd)
 clear hd
 have c4:=V.out.cell (i:=4) rfl
 go_wp2_with fail
 refine (heldLexG_any x.lexicon.length q.lexicon.a q.lexicon.c (c0+x.tiles.values.length+x.tiles.counts.length) _ HA.out.2 hs3 (by omega) (by omega)).mono ?_
 rintro e w3 ⟨rfl,hd⟩
 replace hb:=hb.trans (hd.mono hb.size)
 clear hd c4 HA V
 go_wp2
 go_ret
 exact ⟨rfl,hb⟩
theorem heldGameG_any (x:Gam) (q:GaA) (w:World) (ha:(x.marked 1).At q w) (hsm:x.small) :
  Calls Tryz.prog 10 #[.agg #[.string x.setup.tiles.letters,.slice q.setup.tiles.values.a x.setup.tiles.values.length q.setup.tiles.values.c,.slice q.setup.tiles.counts.a x.setup.tiles.counts.length q.setup.tiles.counts.c,.int .i64 x.setup.tiles.blanks,.slice q.setup.lexicon.a x.setup.lexicon.length q.setup.lexicon.c,.int .i64 x.setup.board.size,.string x.setup.board.premium,.string x.setup.board.cells,.int .i64 x.setup.seconds,.int .i64 x.setup.rule,.int .i64 x.board.size,.string x.board.premium,.string x.board.cells,.string x.bag,.slice q.racks.a x.racks.length q.racks.c,.slice q.scores.a x.scores.length q.scores.c,.slice q.clocks.a x.clocks.length q.clocks.c,.int .i64 x.player,.int .i64 x.zeros,.int .i64 x.last.kind,.int .i64 x.last.player,.int .i64 x.last.play.row,.int .i64 x.last.play.col,.bool x.last.play.down,.string x.last.play.word,.string x.last.before,.string x.last.drawn,.int .i64 x.last.score,.int .i64 x.last.zeros,.bool x.over],.int .i64 1] w fun e w'=>e=.returned (.int .i64 (1+(x.cnt:Nat)))∧Below w.heap.size w w':=by
 obtain ⟨hs0,hs1,hs2,hs3⟩:=hsm
 have hs4:=hs0.1.1
 have hs5:=hs0.1.2
 have hs6:=hs0.2
 have hb:Below w.heap.size w (w.alloc (.cells #[.string x.setup.tiles.letters,.slice q.setup.tiles.values.a x.setup.tiles.values.length q.setup.tiles.values.c,.slice q.setup.tiles.counts.a x.setup.tiles.counts.length q.setup.tiles.counts.c,.int .i64 x.setup.tiles.blanks,.slice q.setup.lexicon.a x.setup.lexicon.length q.setup.lexicon.c,.int .i64 x.setup.board.size,.string x.setup.board.premium,.string x.setup.board.cells,.int .i64 x.setup.seconds,.int .i64 x.setup.rule,.int .i64 x.board.size,.string x.board.premium,.string x.board.cells,.string x.bag,.slice q.racks.a x.racks.length q.racks.c,.slice q.scores.a x.scores.length q.scores.c,.slice q.clocks.a x.clocks.length q.clocks.c,.int .i64 x.player,.int .i64 x.zeros,.int .i64 x.last.kind,.int .i64 x.last.player,.int .i64 x.last.play.row,.int .i64 x.last.play.col,.bool x.last.play.down,.string x.last.play.word,.string x.last.before,.string x.last.drawn,.int .i64 x.last.score,.int .i64 x.last.zeros,.bool x.over] 37)):=(Below.refl _ _).alloc (Nat.le_refl _) _
 have V:=Lh (VarAt.new w 37 [.string x.setup.tiles.letters,.slice q.setup.tiles.values.a x.setup.tiles.values.length q.setup.tiles.values.c,.slice q.setup.tiles.counts.a x.setup.tiles.counts.length q.setup.tiles.counts.c,.int .i64 x.setup.tiles.blanks,.slice q.setup.lexicon.a x.setup.lexicon.length q.setup.lexicon.c,.int .i64 x.setup.board.size,.string x.setup.board.premium,.string x.setup.board.cells,.int .i64 x.setup.seconds,.int .i64 x.setup.rule,.int .i64 x.board.size,.string x.board.premium,.string x.board.cells,.string x.bag,.slice q.racks.a x.racks.length q.racks.c,.slice q.scores.a x.scores.length q.scores.c,.slice q.clocks.a x.clocks.length q.clocks.c,.int .i64 x.player,.int .i64 x.zeros,.int .i64 x.last.kind,.int .i64 x.last.player,.int .i64 x.last.play.row,.int .i64 x.last.play.col,.bool x.last.play.down,.string x.last.play.word,.string x.last.before,.string x.last.drawn,.int .i64 x.last.score,.int .i64 x.last.zeros,.bool x.over])
 have HA:=Lh (Gam.At.kept ha hb)
 have HCN:Hid ((x.cnt:Int)=x.setup.tiles.values.length+x.setup.tiles.counts.length+x.setup.lexicon.length+x.racks.length+x.scores.length+x.clocks.length):=Lh (by unfold Gam.cnt;push_cast;rfl)
 have n1:¬ (1:Int)+(x.setup.tiles.values.length:Int)+(x.setup.tiles.counts.length:Int)+(x.setup.lexicon.length:Int) < 0:=by omega
 have n2:¬ (1:Int)+(x.setup.tiles.values.length:Int)+(x.setup.tiles.counts.length:Int)+(x.setup.lexicon.length:Int)+(x.racks.length:Int) < 0:=by omega
 have n3:¬ (1:Int)+(x.setup.tiles.values.length:Int)+(x.setup.tiles.counts.length:Int)+(x.setup.lexicon.length:Int)+(x.racks.length:Int)+(x.scores.length:Int) < 0:=by omega
 have n4:¬ (1:Int)+(x.setup.tiles.values.length:Int)+(x.setup.tiles.counts.length:Int)+(x.setup.lexicon.length:Int)+(x.racks.length:Int)+(x.scores.length:Int)+(x.clocks.length:Int) < 0:=by omega
 clear ha
 go_enter Tryz.func10,Tryz.ntmps10
 go_upto_region 1 with fail
 generalize w.alloc (.cells #[.string x.setup.tiles.letters,.slice q.setup.tiles.values.a x.setup.tiles.values.length q.setup.tiles.values.c,.slice q.setup.tiles.counts.a x.setup.tiles.counts.length q.setup.tiles.counts.c,.int .i64 x.setup.tiles.blanks,.slice q.setup.lexicon.a x.setup.lexicon.length q.setup.lexicon.c,.int .i64 x.setup.board.size,.string x.setup.board.premium,.string x.setup.board.cells,.int .i64 x.setup.seconds,.int .i64 x.setup.rule,.int .i64 x.board.size,.string x.board.premium,.string x.board.cells,.string x.bag,.slice q.racks.a x.racks.length q.racks.c,.slice q.scores.a x.scores.length q.scores.c,.slice q.clocks.a x.clocks.length q.clocks.c,.int .i64 x.player,.int .i64 x.zeros,.int .i64 x.last.kind,.int .i64 x.last.player,.int .i64 x.last.play.row,.int .i64 x.last.play.col,.bool x.last.play.down,.string x.last.play.word,.string x.last.before,.string x.last.drawn,.int .i64 x.last.score,.int .i64 x.last.zeros,.bool x.over] 37)=w1 at *

 have c0:=V.out.cell (i:=0) rfl
 have c1:=V.out.cell (i:=1) rfl
 have c2:=V.out.cell (i:=2) rfl
 have c3:=V.out.cell (i:=3) rfl
 have c4:=V.out.cell (i:=4) rfl
 have c5:=V.out.cell (i:=5) rfl
 have c6:=V.out.cell (i:=6) rfl
 have c7:=V.out.cell (i:=7) rfl
 have c8:=V.out.cell (i:=8) rfl
 have c9:=V.out.cell (i:=9) rfl
 go_wp2_with fail
 refine (heldSetupG_any x.setup q.setup 1 _ HA.out.1 hs0 (by omega) (by omega)).mono ?_
 rintro e w2 ⟨rfl,hd⟩
 clear c0 c1 c2 c3 c4 c5 c6 c7 c8 c9
 replace HA:=Lh (Gam.At.kept HA.out hd)
 replace hb:=hb.trans (hd.mono hb.size)
 replace V:=Lh (V.out.kept hd)
 clear hd
 have c14:=V.out.cell (i:=14) rfl
 go_wp2_with fail
 refine (heldStringS_any x.racks.length q.racks.a q.racks.c (1+x.setup.tiles.values.length+x.setup.tiles.counts.length+x.setup.lexicon.length) _ HA.out.2.1 (by omega) (by omega) (by omega)).mono ?_
 rintro e w3 ⟨rfl,hd⟩
 replace HA:=Lh (Gam.At.kept HA.out hd)
 clear c14
 replace hb:=hb.trans (hd.mono hb.size)
 replace V:=Lh (V.out.kept hd)
 clear hd
 have c15:=V.out.cell (i:=15) rfl
 go_wp2_with fail
 refine (heldInt64S_any x.scores.length q.scores.a q.scores.c (1+x.setup.tiles.values.length+x.setup.tiles.counts.length+x.setup.lexicon.length+x.racks.length) _ HA.out.2.2.1 (by omega) (by omega) (by omega)).mono ?_
 rintro e w4 ⟨rfl,hd⟩
 replace HA:=Lh (Gam.At.kept HA.out hd)
 clear c15
 replace hb:=hb.trans (hd.mono hb.size)
 replace V:=Lh (V.out.kept hd)
 clear hd
 have c16:=V.out.cell (i:=16) rfl
 go_wp2_with fail
 refine (heldInt64S_any x.clocks.length q.clocks.a q.clocks.c (1+x.setup.tiles.values.length+x.setup.tiles.counts.length+x.setup.lexicon.length+x.racks.length+x.scores.length) _ HA.out.2.2.2 (by omega) (by omega) (by omega)).mono ?_
 rintro e w5 ⟨rfl,hd⟩
 replace hb:=hb.trans (hd.mono hb.size)
 clear hd c16 HA V
 go_wp2
 go_ret
 refine ⟨?_,hb⟩
 rw [HCN.out]
 exact congrArg (fun z:Int=>Ending.returned (.int .i64 z)) (by omega)
end Go.Proofs.YtgphkffbbmmmmaaGreatDoor
