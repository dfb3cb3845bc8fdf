/- The world that the door's run leaves, with Go's tables of math/bits, strconv, unicode/utf8 and unicode: what is laid in it, and what is read from what is laid. No other condition. -/
import Derived.Test.YtalnbgcdhcnjfaaGreatDoorDoor
import Derived.Test.YtalnbgcdhcnjfaaGreatDoorCEnv
import Derived.Test.YtalnbgcdhcnjfaaGreatDoorDoA
import Derived.Test.YtalnbgcdhcnjfaaGreatDoorRows
import Derived.Lib.LaidTab
set_option maxRecDepth 1000000
namespace Go.Proofs.YtalnbgcdhcnjfaaGreatDoor
open Go.ChangeShapes Go.WideShapes Go.ChangeAt Go.RowKit Go.Sort Go.Joins Go.Deep Go.Lib

theorem laidVars_swap {P:Program} {w:World} {b c:String × DataW Unit}:∀ (l:List (String × DataW Unit)) (ps:List MemPlace),DataW.LaidVars P w (l++[b,c]) ps→∃ ps',DataW.LaidVars P w (l++[c,b]) ps'∧ps.Perm ps'
 | [],ps,h=>by
  obtain ⟨n1,d1⟩:=b
  obtain ⟨n2,d2⟩:=c
  obtain ⟨g1,t1,cs1,f1,p1,q1,b1,b2,b3,b4,hl2,rfl⟩:=h
  obtain ⟨g2,t2,cs2,f2,p2,q2,c1,c2,c3,c4,hl3,rfl⟩:=hl2
  obtain rfl:q2=[]:=hl3
  exact ⟨_,⟨g2,t2,cs2,f2,p2,_,c1,c2,c3,c4,⟨g1,t1,cs1,f1,p1,[],b1,b2,b3,b4,rfl,rfl⟩,rfl⟩,by rw [List.append_nil,List.append_nil];exact List.perm_append_comm⟩
 | a :: l,ps,h=>by
  obtain ⟨n0,d0⟩:=a
  obtain ⟨g0,t0,cs0,f0,p0,q0,a1,a2,a3,a4,hl1,rfl⟩:=h
  obtain ⟨q',h1,h2⟩:=laidVars_swap l q0 hl1
  exact ⟨_,⟨g0,t0,cs0,f0,p0,q',a1,a2,a3,a4,h1,rfl⟩,List.Perm.append_left _ h2⟩
theorem laid_swapN {P:Program} {w:World} {b c:String × DataW Unit} (l:List (String × DataW Unit)) (h:laidMet P (l++[b,c]) w):laidMet P (l++[c,b]) w:=by
 obtain ⟨ps,hl,hn,hc⟩:=h
 obtain ⟨ps',h1,h2⟩:=laidVars_swap l ps hl
 exact ⟨ps',h1,h2.nodup_iff.1 hn,fun b off hm=>hc b off (h2.mem_iff.2 hm)⟩
def six:List (String × DataW Unit):=[("math/bits.deBruijn32tab",Rows.laid_math_bits_deBruijn32tab),("math/bits.deBruijn64tab",Rows.laid_math_bits_deBruijn64tab),("internal/strconv.uint64pow10",Rows.laid_internal_strconv_uint64pow10),("unicode/utf8.acceptRanges",Rows.laid_unicode_utf8_acceptRanges),("unicode.CaseRanges",Rows.laid_unicode_CaseRanges),("unicode/utf8.first",Rows.laid_unicode_utf8_first)]
theorem door_six_met (os:Os) (args:Array Value):laidMet Tryz.prog six ((doorCase os).forCall (fun _ _=>0) ⟨#[],args,[]⟩).memory:=by
 have:=laidMet_with_case (ρ:=Tryz.lays159_ren) n274 (Tryz.lays159).t206 caseExtra (w:=((doorCase os).forCall (fun _ _=>0) ⟨#[],args,[]⟩).memory)
  (l:=[("math/bits.deBruijn32tab",Rows.laid_math_bits_deBruijn32tab),("math/bits.deBruijn64tab",Rows.laid_math_bits_deBruijn64tab),("internal/strconv.uint64pow10",Rows.laid_internal_strconv_uint64pow10),("unicode/utf8.acceptRanges",Rows.laid_unicode_utf8_acceptRanges),("unicode/utf8.first",Rows.laid_unicode_utf8_first)])
  10 (by kernel_rfl) (by kernel_rfl) (by kernel_rfl) (doorFirst default).heap.size (Tryz.lays159_ren.t 208) (of_decide_eq_true (by kernel_rfl)) (by kernel_rfl) (by kernel_rfl) (by kernel_rfl)
 unfold six
 rw [show Rows.laid_unicode_CaseRanges=Lib.caseData from case_eq]
 exact laid_swapN [("math/bits.deBruijn32tab",Rows.laid_math_bits_deBruijn32tab),("math/bits.deBruijn64tab",Rows.laid_math_bits_deBruijn64tab),("internal/strconv.uint64pow10",Rows.laid_internal_strconv_uint64pow10),("unicode/utf8.acceptRanges",Rows.laid_unicode_utf8_acceptRanges)] this
theorem gPow:Tryz.prog.globalNamed "internal/strconv.uint64pow10" = some 1:=by kernel_rfl
theorem tPow:(Tryz.prog.globals[1]?).map (·.type)=some 224:=by kernel_rfl
theorem tab_of_six {W:World} (h:laidMet Tryz.prog six W):Tab W:=by
 have h2:laidMet Tryz.prog (("internal/strconv.uint64pow10",Lib.tabData .u64 Lib.pow10Tab) :: six.drop 3) W:=laidMet.tail (laidMet.tail h)
 exact Lib.tabIs_of_head gPow tPow Tryz.underlying224 Tryz.underlying188 (by kernel_rfl) (by kernel_rfl) h2
theorem cenv_of_six {W:World} (h:laidMet Tryz.prog six W):CEnv W :=
 cenv_of_met h (by unfold six;exact List.mem_cons_of_mem _ (List.mem_cons_of_mem _ (List.mem_cons_of_mem _ List.mem_cons_self))) (by unfold six;exact List.mem_cons_of_mem _ (List.mem_cons_of_mem _ (List.mem_cons_of_mem _ (List.mem_cons_of_mem _ List.mem_cons_self)))) (by unfold six;exact List.mem_cons_of_mem _ (List.mem_cons_of_mem _ (List.mem_cons_of_mem _ (List.mem_cons_of_mem _ (List.mem_cons_of_mem _ List.mem_cons_self)))))
theorem six_DeskText {W:World} (h:laidMetH Tryz.prog Rows.fnExactDeskTextRow.laid W):laidMet Tryz.prog six W:=by
 rw [MakeChecks.laidMetH_plain _ _ _ (by kernel_rfl)] at h
 exact h
end Go.Proofs.YtalnbgcdhcnjfaaGreatDoor
