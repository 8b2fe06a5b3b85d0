/- Numerals and pieces of strings: plain laws. -/
import Derived.Test.YthpnkcamjcohgaaDoorLBatchTextLK26
import Derived.Lib.ParseIntB
import Derived.Lib.Split
import Derived.Lib.SplitLaws
namespace Go.Proofs.YthpnkcamjcohgaaDoor
set_option linter.unusedVariables false
set_option linter.unusedSimpArgs false
open Go.RowKit

def isDg (b : UInt8) : Prop := 48 ≤ b.toNat ∧ b.toNat ≤ 57
/-- What digits spell behind a number. -/
def nvF (a : Nat) : List UInt8 → Nat
  | [] => a
  | b :: l => nvF (10 * a + (b.toNat - 48)) l
theorem nvF_app : ∀ (l m : List UInt8) (a : Nat), nvF a (l ++ m) = nvF (nvF a l) m
  | [], _, _ => rfl
  | b :: l, m, a => nvF_app l m _
theorem nvF_ge : ∀ (l : List UInt8) (a : Nat), a ≤ nvF a l
  | [], _ => Nat.le_refl _
  | b :: l, a => Nat.le_trans (by omega) (nvF_ge l (10 * a + (b.toNat - 48)))
theorem dg_of (d : Nat) (h : d < 10) : (UInt8.ofNat (48 + d)).toNat = 48 + d := by simp; omega
/-- A numeral without superfluous zeros. -/
def Numl (l : List UInt8) : Prop := l ≠ [] ∧ (∀ b ∈ l, isDg b) ∧ (1 < l.length → l.head? ≠ some 48)
theorem dec_num (n : Nat) : nvF 0 (Lib.decDigits n) = n ∧ Numl (Lib.decDigits n) ∧ (n ≠ 0 → (Lib.decDigits n).head? ≠ some 48) := by
  induction n using Nat.strongRecOn with
  | _ n ih =>
    by_cases h : n < 10
    · rw [Lib.decDigits, dif_pos h]
      refine ⟨?_, ⟨by simp, ?_, by simp⟩, fun h0 e => ?_⟩
      · show 10 * 0 + ((UInt8.ofNat (48 + n)).toNat - 48) = n
        rw [dg_of n h]; omega
      · intro b hb
        rw [List.mem_singleton.1 hb]
        unfold isDg
        rw [dg_of n h]; omega
      · have e2 : UInt8.ofNat (48 + n) = 48 := by simpa using e
        have := dg_of n h
        rw [e2] at this
        simp at this
        omega
    · obtain ⟨h1, ⟨h2, h3, h4⟩, h5⟩ := ih (n / 10) (by omega)
      rw [Lib.decDigits, dif_neg h]
      have hd : n % 10 < 10 := Nat.mod_lt _ (by decide)
      have hh : (Lib.decDigits (n / 10) ++ [UInt8.ofNat (48 + n % 10)]).head? = (Lib.decDigits (n / 10)).head? := by
        cases hl : Lib.decDigits (n / 10) with
        | nil => exact absurd hl h2
        | cons => rfl
      refine ⟨?_, ⟨by simp, ?_, fun _ => ?_⟩, fun _ => ?_⟩
      · rw [nvF_app, h1]
        show 10 * (n / 10) + ((UInt8.ofNat (48 + n % 10)).toNat - 48) = n
        rw [dg_of _ hd]; omega
      · intro b hb
        rcases List.mem_append.1 hb with hb | hb
        · exact h3 b hb
        · rw [List.mem_singleton.1 hb]
          unfold isDg
          rw [dg_of _ hd]; omega
      · rw [hh]; exact h5 (by omega)
      · rw [hh]; exact h5 (by omega)
theorem num_dec : ∀ (k : Nat) (l : List UInt8), l.length = k → Numl l → Lib.decDigits (nvF 0 l) = l := by
  intro k
  induction k with
  | zero => intro l hl h; exact absurd (List.length_eq_zero_iff.1 hl) h.1
  | succ k ih =>
    intro l hl h
    obtain ⟨h1, h2, h3⟩ := h
    have hsp : l.dropLast ++ [l.getLast h1] = l := List.dropLast_concat_getLast h1
    have hlen : l.dropLast.length = k := by rw [List.length_dropLast]; omega
    generalize l.getLast h1 = b at *
    generalize l.dropLast = m at *
    subst hsp
    have hb : isDg b := h2 b (by simp)
    rw [nvF_app]
    show Lib.decDigits (10 * nvF 0 m + (b.toNat - 48)) = m ++ [b]
    unfold isDg at hb
    have hbe : UInt8.ofNat (48 + (b.toNat - 48)) = b := by
      have : 48 + (b.toNat - 48) = b.toNat := by omega
      rw [this]; simp
    by_cases hm : m = []
    · subst hm
      show Lib.decDigits (10 * 0 + (b.toNat - 48)) = [b]
      rw [Nat.mul_zero, Nat.zero_add, Lib.decDigits, dif_pos (by omega), hbe]
    · have hh : (m ++ [b]).head? = m.head? := by
        cases m with
        | nil => exact absurd rfl hm
        | cons => rfl
      have hmp : 0 < m.length := List.length_pos_iff.2 hm
      have hne : m.head? ≠ some 48 := by rw [← hh]; exact h3 (by simp; omega)
      have hN : Numl m := ⟨hm, fun c hc => h2 c (by simp [hc]), fun _ => hne⟩
      have hr := ih m hlen hN
      have h0 : nvF 0 m ≠ 0 := fun e => by
        rw [e] at hr
        rw [← hr] at hne
        exact hne (by rw [Lib.decDigits, dif_pos (by omega)]; rfl)
      have hge : ¬ 10 * nvF 0 m + (b.toNat - 48) < 10 := by omega
      have e1 : (10 * nvF 0 m + (b.toNat - 48)) / 10 = nvF 0 m := by omega
      have e2 : (10 * nvF 0 m + (b.toNat - 48)) % 10 = b.toNat - 48 := by omega
      rw [Lib.decDigits, dif_neg hge, e1, e2, hr, hbe]
theorem dec_list (n : Nat) : (dec n).data.toList = Lib.decDigits n := by
  unfold dec
  rw [Lib.itoa_nonneg]
theorem dec_eq {s : ByteArray} {n : Nat} (h : s.data.toList = Lib.decDigits n) : s = dec n := by
  apply ByteArray.ext
  apply Array.toList_inj.1
  rw [h, dec_list]
/-- A string is the numeral of a number just where it is one without superfluous zeros. -/
theorem is_dec {s : ByteArray} : (∃ n : Nat, s = dec n) ↔ Numl s.data.toList := by
  constructor
  · rintro ⟨n, rfl⟩
    rw [dec_list]
    exact (dec_num n).2.1
  · intro h
    exact ⟨nvF 0 s.data.toList, dec_eq (num_dec _ _ rfl h).symm⟩
theorem dec_val {n : Nat} : nvF 0 (dec n).data.toList = n := by rw [dec_list]; exact (dec_num n).1
theorem dec_inj {m n : Nat} (h : dec m = dec n) : m = n := by
  have h1 := dec_val (n := m)
  rw [h, dec_val] at h1
  exact h1.symm
/-- How the library reads digits. -/
theorem parseM_ok (M : Nat) (hM : M ≤ 18446744073709551615) : ∀ (l : List UInt8) (a : Nat), (∀ b ∈ l, isDg b) → nvF a l ≤ M → Lib.parseUintM M a l = .ok (nvF a l)
  | [], _, _, _ => rfl
  | b :: l, a, h, hv => by
    have hb := h b (by simp)
    have hg := nvF_ge l (10 * a + (b.toNat - 48))
    have hv' : nvF (10 * a + (b.toNat - 48)) l ≤ M := hv
    unfold isDg at hb
    rw [Lib.parseUintM, if_pos hb, if_neg (by omega), if_neg (by omega), Nat.mul_comm a 10]
    exact parseM_ok M hM l _ (fun c hc => h c (by simp [hc])) hv
theorem parseM_back (M : Nat) : ∀ (l : List UInt8) (a u : Nat), Lib.parseUintM M a l = .ok u → (∀ b ∈ l, isDg b) ∧ u = nvF a l
  | [], a, u, h => by
    rw [Lib.parseUintM] at h
    cases h
    exact ⟨by simp, rfl⟩
  | b :: l, a, u, h => by
    rw [Lib.parseUintM] at h
    split at h
    · rename_i hb
      split at h
      · cases h
      · split at h
        · cases h
        · obtain ⟨h1, h2⟩ := parseM_back M l _ u h
          rw [Nat.mul_comm a 10] at h2
          exact ⟨fun c hc => by
            rcases List.mem_cons.1 hc with rfl | hc
            · exact hb
            · exact h1 c hc, h2⟩
    · cases h
/-- ParseInt at a string that does not begin with a sign. -/
theorem parseI (s : ByteArray) (c : UInt8) (r : List UInt8) (hs : s.data.toList = c :: r) (hc : c.toNat ≠ 43 ∧ c.toNat ≠ 45) :
    (∃ v : Nat, Lib.parseIntB 64 s.data.toList = .ok v ∧ (∀ b ∈ s.data.toList, isDg b) ∧ v = nvF 0 s.data.toList ∧ v ≤ 9223372036854775807) ∨
    ((∀ v, Lib.parseIntB 64 s.data.toList ≠ .ok v) ∧ ¬ ((∀ b ∈ s.data.toList, isDg b) ∧ nvF 0 s.data.toList ≤ 9223372036854775807)) := by
  have hne : s.data.toList ≠ [] := by rw [hs]; simp
  have hn : ¬ (c.toNat = 43 ∨ c.toNat = 45) := by omega
  have hd : Lib.parseIntB 64 s.data.toList = match Lib.parseUintB 64 s.data.toList with
    | .ok u => if 2 ^ (64 - 1) ≤ u then .range else .ok (u : Int)
    | .range => .range
    | x => Lib.parseIntB 64 [] := by
    rw [hs]
    unfold Lib.parseIntB
    simp only [hc.1, hc.2, or_self, if_false, not_false_eq_true, true_and, false_and]
    cases Lib.parseUintB 64 (c :: r) <;> rfl
  have hu : Lib.parseUintB 64 s.data.toList = Lib.parseUintM (2 ^ 64 - 1) 0 s.data.toList := if_neg hne
  rw [hu] at hd
  generalize s.data.toList = l at *
  by_cases h : (∀ b ∈ l, isDg b) ∧ nvF 0 l ≤ 9223372036854775807
  · refine .inl ⟨nvF 0 l, ?_, h.1, rfl, h.2⟩
    rw [hd, parseM_ok _ (by decide) l 0 h.1 (by have := h.2; omega)]
    show (if 2 ^ (64 - 1) ≤ nvF 0 l then _ else _) = _
    rw [if_neg (by have := h.2; omega)]
  · refine .inr ⟨fun v e => ?_, h⟩
    cases hp : Lib.parseUintM (2 ^ 64 - 1) 0 l with
    | ok u =>
      rw [hp] at hd
      obtain ⟨g1, g2⟩ := parseM_back _ _ _ _ hp
      have hb : ¬ nvF 0 l ≤ 9223372036854775807 := fun g => h ⟨g1, g⟩
      have hd2 : Lib.parseIntB 64 l = if 2 ^ (64 - 1) ≤ u then .range else .ok (u : Int) := hd
      rw [if_pos (by omega), e] at hd2
      cases hd2
    | range => rw [hp, e] at hd; cases hd
    | _ => rw [hp, e] at hd; cases hd
end Go.Proofs.YthpnkcamjcohgaaDoor
