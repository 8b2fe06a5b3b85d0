/- The library's errors of numbers, from the row's list; batches compared by the laws. -/
import Derived.Test.YthpnkcamjcohgaaDoorLBatchTextLK43
import Derived.Stop.LaidErr
namespace Go.Proofs.YthpnkcamjcohgaaDoor
set_option linter.unusedVariables false
set_option linter.unusedSimpArgs false
open Go.RowKit

theorem starErr : "*" ++ "errors.errorString" = "*errors.errorString" := by decide
theorem rowErr (u : TypeId) (h : Tryd.prog.typeName? 3 u = some "*errors.errorString") : u = 256 :=
  typeName_ptr_named (nm := "errors.errorString") (by rw [starErr]; kernel_rfl) (by kernel_rfl) (by decide) u (by rw [starErr]; exact h)
theorem errC_of {L : List (String × DataW Unit)} {w : World} {t1 t2 : List UInt8} (h : laidMetH Tryd.prog L w)
    (e1 : L.filter (fun x => x.1 == "strconv.ErrSyntax") = [("strconv.ErrSyntax", .iface "*errors.errorString" (.ptr (.agg [.lit (.string t1)])))])
    (e2 : L.filter (fun x => x.1 == "strconv.ErrRange") = [("strconv.ErrRange", .iface "*errors.errorString" (.ptr (.agg [.lit (.string t2)])))]) : ErrC w := by
  have h1 := h.filter (fun x => x.1 == "strconv.ErrSyntax")
  rw [e1, MakeChecks.laidMetH_plain _ _ _ rfl] at h1
  have h2 := h.filter (fun x => x.1 == "strconv.ErrRange")
  rw [e2, MakeChecks.laidMetH_plain _ _ _ rfl] at h2
  obtain ⟨a1, s1, hv1, _⟩ := laid_sentinel (g := 2) (ti := 145) (tp := 256) (te := 258) (ts := 9) h1 (by kernel_rfl) (by kernel_rfl) Tryd.underlying145 rowErr Tryd.underlying256 Tryd.underlying258 rfl rfl Tryd.underlying9 (by kernel_rfl) (by kernel_rfl)
  obtain ⟨a2, s2, hv2, _⟩ := laid_sentinel (g := 3) (ti := 145) (tp := 256) (te := 258) (ts := 9) h2 (by kernel_rfl) (by kernel_rfl) Tryd.underlying145 rowErr Tryd.underlying256 Tryd.underlying258 rfl rfl Tryd.underlying9 (by kernel_rfl) (by kernel_rfl)
  exact ⟨⟨_, _, hv1⟩, _, _, hv2⟩
end Go.Proofs.YthpnkcamjcohgaaDoor
