/- What the rows' lists of package-level variables give the walks of layer 2. -/
import Derived.Test.YtneekcggbnodnaaGreatDoorLBase
import Derived.Test.YtneekcggbnodnaaGreatDoorRows
import Derived.Stop.LaidErr
import Derived.Lib.LaidTab
import Derived.Lib.LaidU8T
import Derived.PinnedBridge
import Derived.KernelRfl
import Derived.Shelf.Strings.Shaped
namespace Go.Proofs.YtneekcggbnodnaaGreatDoor
open Go Go.RowKit Go.Lib

theorem gSynT : (Tryz.prog.globals[1]?).map (·.type) = some 355 := by kernel_rfl
theorem gRanT : (Tryz.prog.globals[2]?).map (·.type) = some 355 := by kernel_rfl
theorem gPowT : (Tryz.prog.globals[3]?).map (·.type) = some 395 := by kernel_rfl
theorem cellsErr : Tryz.prog.cellsOf 410 = 1 := by kernel_rfl
theorem cellsStr : Tryz.prog.cellsOf 9 = 1 := by kernel_rfl
theorem cellsU64 : Tryz.prog.cellsOf 83 = 1 := by kernel_rfl
theorem cellsPow : Tryz.prog.cellsOf 395 = 20 := by kernel_rfl
theorem starErr : "*" ++ "errors.errorString" = "*errors.errorString" := by decide
theorem rowErr (u : TypeId) (h : Tryz.prog.typeName? 3 u = some "*errors.errorString") : u = 408 :=
  typeName_ptr_named (nm := "errors.errorString") (by rw [starErr]; kernel_rfl) (by kernel_rfl) (by decide) u (by rw [starErr]; exact h)
theorem syn_of {r : List (String × DataW Unit)} {W : World} (h : laidMet Tryz.prog (("strconv.ErrSyntax", Rows.laid_strconv_ErrSyntax) :: r) W) : ∃ tp p, W.var? Tryz.prog "strconv.ErrSyntax" = some #[.iface tp p] := by
  obtain ⟨a0, s0, hv0, -, -, -⟩ := laid_sentinel h gSyn gSynT Tryz.underlying355 rowErr Tryz.underlying408 Tryz.underlying410 rfl rfl Tryz.underlying9 cellsErr cellsStr
  exact ⟨_, _, hv0⟩
theorem ran_of {r : List (String × DataW Unit)} {W : World} (h : laidMet Tryz.prog (("strconv.ErrRange", Rows.laid_strconv_ErrRange) :: r) W) : ∃ tp p, W.var? Tryz.prog "strconv.ErrRange" = some #[.iface tp p] := by
  obtain ⟨a0, s0, hv0, -, -, -⟩ := laid_sentinel h gRan gRanT Tryz.underlying355 rowErr Tryz.underlying408 Tryz.underlying410 rfl rfl Tryz.underlying9 cellsErr cellsStr
  exact ⟨_, _, hv0⟩
theorem pow_of {r : List (String × DataW Unit)} {W : World} (h : laidMet Tryz.prog (("internal/strconv.uint64pow10", Rows.laid_internal_strconv_uint64pow10) :: r) W) : Lib.TabIs Tryz.prog W "internal/strconv.uint64pow10" .u64 Lib.pow10Tab :=
  Lib.tabIs_of_head gPow gPowT Tryz.underlying395 Tryz.underlying83 cellsU64 cellsPow h
theorem caseX : CaseExtra Tryz.prog Tryz.lays159_ren := ⟨by kernel_rfl, by kernel_rfl, by kernel_rfl, by kernel_rfl, by kernel_rfl, by kernel_rfl⟩
theorem u8X : U8Extra Tryz.prog Tryz.lays159_ren := ⟨by kernel_rfl, by kernel_rfl, by kernel_rfl, by kernel_rfl, by kernel_rfl, by kernel_rfl, by kernel_rfl⟩
theorem case_of {W : World} (h : VarReads Tryz.prog W "unicode.CaseRanges" Rows.laid_unicode_CaseRanges) : CaseVar 4 caseA W :=
  caseVar_of_reads (ρ := Tryz.lays159_ren) { Tryz.lays159 with } Tryz.lays159.t206 caseX (by rw [← Pinned.caseRanges_eq]; exact h)
theorem acc_eq : (Rows.laid_unicode_utf8_acceptRanges : DataW Unit) = acceptData := by kernel_rfl
theorem utf_of {W : World} (h1 : VarReads Tryz.prog W "unicode/utf8.first" Rows.laid_unicode_utf8_first) (h2 : VarReads Tryz.prog W "unicode/utf8.acceptRanges" Rows.laid_unicode_utf8_acceptRanges) : Lib.Utf8Tabs 5 6 W :=
  utf8Tabs_of_readsT (ρ := Tryz.lays159_ren) { Tryz.lays159 with } u8X (by rw [← Pinned.utf8First_eq]; exact h1) (by rw [← acc_eq]; exact h2)
theorem max_of {W : World} (h : W.ShapedOpen Tryz.prog) : ∃ m, W.cell? ⟨0, 0, none⟩ = some (.int .i64 m) :=
  Go.Proofs.cell_of_shapedOpen_int (zero := #[.int .i64 0]) (t := 3) h (of_decide_eq_true (by kernel_rfl)) (by kernel_rfl) rfl (by kernel_rfl) (by kernel_rfl) Tryz.underlying3
theorem glob_of_laid8 {W : World} {a b : String × DataW Unit} (h : laidMet Tryz.prog [a, b, ("internal/strconv.uint64pow10", Rows.laid_internal_strconv_uint64pow10), ("unicode/utf8.acceptRanges", Rows.laid_unicode_utf8_acceptRanges), ("strconv.ErrRange", Rows.laid_strconv_ErrRange), ("strconv.ErrSyntax", Rows.laid_strconv_ErrSyntax), ("unicode.CaseRanges", Rows.laid_unicode_CaseRanges), ("unicode/utf8.first", Rows.laid_unicode_utf8_first)] W) (hs : W.ShapedOpen Tryz.prog) : Glob W :=
  ⟨pow_of h.tail.tail, syn_of h.tail.tail.tail.tail.tail, ran_of h.tail.tail.tail.tail, case_of (Lib.laidMet.reads h (by simp)), max_of hs, utf_of (Lib.laidMet.reads h (by simp)) (Lib.laidMet.reads h (by simp))⟩
end Go.Proofs.YtneekcggbnodnaaGreatDoor
