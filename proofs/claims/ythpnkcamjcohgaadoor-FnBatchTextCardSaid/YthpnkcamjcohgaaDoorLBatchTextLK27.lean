/- Numerals by the library's functions: its contracts in this seat's words. -/
import Derived.Test.YthpnkcamjcohgaaDoorLBatchTextLK25
import Derived.Test.YthpnkcamjcohgaaDoorLBatchTextLK26
import Derived.Lib.LaidTab
import Derived.LaidSub
import Derived.MakeChecks
namespace Go.Proofs.YthpnkcamjcohgaaDoor
set_option linter.unusedVariables false
set_option linter.unusedSimpArgs false
open Go.RowKit

theorem fmt_c (n : Int) (w : World) (h0 : -9223372036854775808 ≤ n) (h1 : n ≤ 9223372036854775807) (hT : Tab10 w) :
    Calls Tryd.prog 62 #[.int .i64 n, .int .i64 10] w fun e w' => e = .returned (.string (dec n)) ∧ Ext w w' := by
  refine (Tryd.strconv_FormatInt_10 n h0 h1 w hT).mono ?_
  rintro e w' ⟨rfl, k, os, rfl⟩
  exact ⟨rfl, Lib.below_grow _ w (Nat.le_refl _) k os⟩
theorem tab10_of {L : List (String × DataW Unit)} {w : World} (h : laidMetH Tryd.prog L w) (he : L.filter (fun x => x.1 == "internal/strconv.uint64pow10") = [("internal/strconv.uint64pow10", Lib.tabData .u64 Lib.pow10Tab)]) : Tab10 w := by
  have h2 := h.filter (fun x => x.1 == "internal/strconv.uint64pow10")
  rw [he, MakeChecks.laidMetH_plain _ _ _ rfl] at h2
  exact Lib.tabIs_of_head (g := 0) (t := 223) (e := 44) (n := 20) (by kernel_rfl) (by kernel_rfl) Tryd.underlying223 Tryd.underlying44 (by kernel_rfl) (by kernel_rfl) h2
end Go.Proofs.YthpnkcamjcohgaaDoor
