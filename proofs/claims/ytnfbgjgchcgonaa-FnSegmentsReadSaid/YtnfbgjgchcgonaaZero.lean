
/- A string of zero bytes. -/
import Derived.Test.YtnfbgjgchcgonaaBytes
import Derived.Test.YtnfbgjgchcgonaaBlk
namespace Go.Proofs.Ytnfbgjgchcgonaa
set_option linter.unusedVariables false
set_option linter.unusedSimpArgs false
open Go.RowKit

theorem zeroStr (g n : Nat) (w : World) (hb : Blk w g (madeCells #[.int .u8 0] n) 5) : (convert 22 9 (.slice (some ⟨g, 0, none⟩) n n)).run Try.prog w = .ok (.string ⟨(List.replicate n (0 : UInt8)).toArray⟩) w := by
  have := run_convert_bytes_back (P := Try.prog) w 22 9 5 ⟨g, 0, none⟩ n (List.replicate n 0) (by kernel_rfl) (by kernel_rfl) (by kernel_rfl) (fun j hj => by
    have hj2 : j < n := by simpa using hj
    rw [addr_add, Nat.zero_add]
    refine hb.cell ?_
    rw [made_get hj2]
    simp [Nat.mod_one])
  simpa using this
end Go.Proofs.Ytnfbgjgchcgonaa
