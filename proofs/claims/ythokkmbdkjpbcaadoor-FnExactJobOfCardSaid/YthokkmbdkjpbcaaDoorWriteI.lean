
/- How the program writes a segment. -/
import Derived.Test.YthokkmbdkjpbcaaDoorWrite
import Derived.Test.YthokkmbdkjpbcaaDoorWidths
import Derived.Lib.SlBytesRow
/-! How the program writes a segment. -/
namespace Go.Proofs.YthokkmbdkjpbcaaDoor
set_option linter.unusedVariables false
set_option linter.unusedSimpArgs false
open Go.RowKit

theorem Blk.grew {w w' : World} {v v' : Value} {g : Nat} {cs : Array Value} {t : TypeId} (h : Blk w g cs t) (k : Grew v w w' v') (hne : v.ownBlock ≠ some g) : Blk w' g cs t :=
  (k.by_.block g h.lt (fun e => hne e.symm)).trans h
/-- What a grown row leaves alone: all blocks from n0 on, where the row lay below n0. -/
theorem gcell {v o : Value} {W wr : World} {n0 : Nat} (h : Grew v W wr o) (hv : ∀ k, v.ownBlock = some k → k < n0) :
    (∀ b o, n0 ≤ b → b < W.heap.size → wr.cell? ⟨b, o, none⟩ = W.cell? ⟨b, o, none⟩) ∧ (∀ b o, n0 ≤ b → b < W.heap.size → wr.frozen? ⟨b, o, none⟩ = W.frozen? ⟨b, o, none⟩) ∧ (∀ k, k < W.heap.size → k < wr.heap.size) ∧ W.heap.size ≤ wr.heap.size := by
  have hb : ∀ b, n0 ≤ b → b < W.heap.size → wr.heap[b]? = W.heap[b]? := fun b h1 h2 => h.by_.block b h2 fun e => by have := hv b e.symm; omega
  exact ⟨fun b o h1 h2 => World.cell?_of_block (a := ⟨b, o, none⟩) (hb b h1 h2), fun b o h1 h2 => World.frozen?_of_block (a := ⟨b, o, none⟩) (hb b h1 h2), fun k hk => Nat.lt_of_lt_of_le hk h.by_.size, h.by_.size⟩
theorem IntsAt.grew {v o : Value} {W wr : World} {n0 : Nat} {p : Option Addr} {xs : List Int} (hx : IntsAt W p xs) (h : Grew v W wr o) (hv : ∀ k, v.ownBlock = some k → k < n0) (hp : ∀ b o, p = some ⟨b, o, none⟩ → n0 ≤ b) : IntsAt wr p xs := fun i hi => by
  obtain ⟨b, o', e, hb, hc⟩ := hx i hi
  exact ⟨b, o', e, Nat.lt_of_lt_of_le hb h.by_.size, by rw [(gcell h hv).1 b _ (hp _ _ e) hb]; exact hc⟩

def iBase (m : Int) : Int := if m = 1 then 10 else if m = 2 then 45 else if m = 3 then 32 else 256
theorem iBase_bd (m : Int) : 0 ≤ iBase m ∧ iBase m ≤ 256 := by
  unfold iBase
  (repeat' split) <;> omega
theorem numF_i {m : Int} {t : ByteArray} {a j : Nat} (hm : 1 ≤ m ∧ m ≤ 4) (hj : j ≤ (grp m).toNat) : numF (iBase m) m t a j = numF (grpBase m) m t a j := by
  have : m = 1 ∨ m = 2 ∨ m = 3 ∨ m = 4 := by omega
  rcases this with rfl | rfl | rfl | rfl
  · rfl
  · rfl
  · exact numF_base j hj
  · rfl
theorem rB_next (m : Int) (t : ByteArray) (f a : Nat) (h : a < t.size) : rB m t f (a + gN m t a) = rB m t f (a + (grp m).toNat) := by
  by_cases e : gN m t a = (grp m).toNat
  · rw [e]
  · have : t.size ≤ a + gN m t a := by unfold gN at *; omega
    have h2 : t.size ≤ a + (grp m).toNat := by unfold gN at *; omega
    rw [rB_end _ _ _ _ this, rB_end _ _ _ _ h2]
theorem modeWidths_grp {m : Int} (hm : 1 ≤ m ∧ m ≤ 3) : ((modeWidths m).length : Int) = grp m := by
  have : m = 1 ∨ m = 2 ∨ m = 3 := by omega
  rcases this with rfl | rfl | rfl <;> rfl
theorem modeWidths_wid {m g : Int} (hm : 1 ≤ m ∧ m ≤ 3) (hg : 1 ≤ g ∧ g ≤ grp m) : (modeWidths m).getD (g - 1).toNat 0 = wid m g := by
  have : m = 1 ∨ m = 2 ∨ m = 3 := by omega
  rcases this with rfl | rfl | rfl
  · have hg2 : grp 1 = 3 := rfl
    have : g = 1 ∨ g = 2 ∨ g = 3 := by omega
    rcases this with rfl | rfl | rfl <;> rfl
  · have hg2 : grp 2 = 2 := rfl
    have : g = 1 ∨ g = 2 := by omega
    rcases this with rfl | rfl <;> rfl
  · have hg2 : grp 3 = 1 := rfl
    have : g = 1 := by omega
    subst this; rfl

theorem lGroup_c (m : Int) (cs : ByteArray) (p : Option Addr) (n c : Nat) (w : World) (hm : 1 ≤ m ∧ m ≤ 3) (hn : n = (modeWidths m).length) :
    Calls Tryd.prog 262 #[.agg #[.string cs, .slice p n c]] w fun e w' => e = .returned (.int .i64 (grp m)) ∧ Ext w w' := by
  have h1 := modeWidths_grp hm
  have h2 := grp_bd m
  have h3 : (n : Int) = grp m := by rw [hn]; exact h1
  rw [← h3]
  exact listedGroup_c cs p n c w (by omega)
theorem lWidth_c (m g : Int) (cs : ByteArray) (p : Option Addr) (n c : Nat) (w : World) (hm : 1 ≤ m ∧ m ≤ 3) (hn : n = (modeWidths m).length) (hi : IntsAt w p (modeWidths m)) (hg : 1 ≤ g ∧ g ≤ grp m) :
    Calls Tryd.prog 264 #[.agg #[.string cs, .slice p n c], .int .i64 g] w fun e w' => e = .returned (.int .i64 (wid m g)) ∧ Ext w w' := by
  have h1 := modeWidths_grp hm
  have h2 := grp_bd m
  rw [← modeWidths_wid hm hg]
  exact listedWidth_c cs p _ n c g w hi hn (by omega) (by omega)
theorem lValue_c (m b : Int) (p : Option Addr) (n c : Nat) (w : World) (hm : 1 ≤ m ∧ m ≤ 3) (hb : 0 ≤ b ∧ b ≤ 255) :
    Calls Tryd.prog 263 #[.agg #[.string (modeSet m), .slice p n c], .int .i64 b] w fun e w' => e = .returned (.int .i64 (charVal m b)) ∧ Ext w w' := by
  rw [charVal_listed hm hb]
  exact listedValue_c _ p n c b w (modeSet_ascii m) (by have := modeSet_size m; omega)
theorem pGroup_c (m : Int) (w : World) (hm : m = 4) : Calls Tryd.prog 267 #[.agg #[]] w fun e w' => e = .returned (.int .i64 (grp m)) ∧ Ext w w' := by
  subst hm; exact plainGroup_c w
theorem pWidth_c (m g : Int) (w : World) (hm : m = 4) : Calls Tryd.prog 269 #[.agg #[], .int .i64 g] w fun e w' => e = .returned (.int .i64 (wid m g)) ∧ Ext w w' := by
  subst hm; exact plainWidth_c g w
theorem pValue_c (m b : Int) (w : World) (hm : m = 4) (hb : 0 ≤ b ∧ b ≤ 255) : Calls Tryd.prog 268 #[.agg #[], .int .i64 b] w fun e w' => e = .returned (.int .i64 (charVal m b)) ∧ Ext w w' := by
  rw [charVal_bytes hm hb]
  exact plainValue_c b w

end Go.Proofs.YthokkmbdkjpbcaaDoor

/-! Reading a segment from bits: the numbers, the plain reading. -/
namespace Go.Proofs.YthokkmbdkjpbcaaDoor
set_option linter.unusedVariables false
set_option linter.unusedSimpArgs false
open Go.RowKit

/-- The number that is written in k bits from a on. -/
def numAt (xs : List Int) (a : Nat) : Nat → Int
  | 0 => 0
  | k + 1 => numAt xs a k * 2 + xs.getD (a + k) 0
theorem numAt_bd {xs : List Int} (h : ∀ x ∈ xs, x = 0 ∨ x = 1) (a : Nat) : ∀ k, a + k ≤ xs.length → 0 ≤ numAt xs a k ∧ numAt xs a k < 2 ^ k := by
  intro k
  induction k with
  | zero => intro _; simp [numAt]
  | succ k ih =>
    intro hk
    have := ih (by omega)
    have hx : xs.getD (a + k) 0 = 0 ∨ xs.getD (a + k) 0 = 1 := by
      rw [List.getD_eq_getElem?_getD, List.getElem?_eq_getElem (by omega)]
      exact h _ (List.getElem_mem _)
    simp only [numAt, Int.pow_succ]
    omega
theorem or_bit (n b : Int) (hn : 0 ≤ n ∧ n < 2305843009213693952) (hb : b = 0 ∨ b = 1) : bits .or .i64 (n * 2) b = n * 2 + b := by
  obtain ⟨k, rfl⟩ : ∃ k : Nat, n = k := ⟨n.toNat, by omega⟩
  obtain ⟨j, rfl⟩ : ∃ j : Nat, b = j := ⟨b.toNat, by omega⟩
  have hj : j < 2 := by omega
  have := bits_or_nat (k * 2) j (by omega) (by omega)
  have h2 := Nat.two_pow_add_eq_or_of_lt (i := 1) (b := j) (by omega) k
  rw [show (k : Int) * 2 = ((k * 2 : Nat) : Int) by omega, this]
  have h3 : k * 2 ||| j = k * 2 + j := by
    have e : 2 ^ 1 * k = k * 2 := by omega
    rw [e] at h2
    exact h2.symm
  rw [h3]
  omega

end Go.Proofs.YthokkmbdkjpbcaaDoor
