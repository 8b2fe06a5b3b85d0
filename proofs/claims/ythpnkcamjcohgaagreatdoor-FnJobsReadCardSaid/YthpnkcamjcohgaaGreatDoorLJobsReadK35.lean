/- The job that a text tells: plain laws. -/
import Derived.Test.YthpnkcamjcohgaaGreatDoorLJobsReadK34
import Derived.Test.YthpnkcamjcohgaaGreatDoorLJobsReadK17
namespace Go.Proofs.YthpnkcamjcohgaaGreatDoor
set_option linter.unusedVariables false
set_option linter.unusedSimpArgs false
open Go.RowKit

/-- s is the job of the grid. -/
def jobOK (s : ByteArray) (R C : Nat) (xs : List Int) : Prop := okJ R C xs ∧ s = jobT R C xs ∧ s.size ≤ 20000
theorem jobOK.one {s : ByteArray} {R C R' C' : Nat} {xs xs' : List Int} (h : jobOK s R C xs) (h' : jobOK s R' C' xs') : R = R' ∧ C = C' ∧ xs = xs' :=
  job_inj h.1 h'.1 (h.2.1.symm.trans h'.2.1)
theorem bands_pos (C : Nat) (xs : List Int) {R : Nat} (h : 1 ≤ R) : 1 ≤ (bandsTo C xs R).length := (bandsTo_bd C xs R).2.1 h
theorem linesT_len (C : Nat) (xs L : List Int) : (linesT C xs L).length = L.length := by simp [linesT]
/-- What a read text is cut into. -/
theorem jobOK.cut {s p0 : ByteArray} {rest qs : List ByteArray} {R C : Nat} {xs : List Int} (h : jobOK s R C xs) (hm : (p0 :: rest).map (·.data.toList) = spl 10 s.data.toList) (hq : qs.map (·.data.toList) = spl 32 p0.data.toList) :
    qs.map (·.data.toList) = [pgW, (dec R).data.toList, (dec C).data.toList] ∧ ∃ ls : List (List UInt8), 1 ≤ ls.length ∧ rest.map (·.data.toList) = ls ++ [enW, []] ∧ ∀ m, rowsJ m R C ls = some xs := by
  obtain ⟨hok, rfl, _⟩ := h
  rw [job_spl hok, List.map_cons] at hm
  simp only [List.cons.injEq] at hm
  rw [hm.1, head_spl] at hq
  exact ⟨hq, _, by rw [linesT_len]; exact bands_pos C xs hok.r1, hm.2, fun m => rows_all m hok (bandsTo_ok C xs R)⟩
theorem rowsJ_none (m : Bool) (R C : Nat) : ∀ ls : List (List UInt8), ls.foldl (lineJ m R C) none = none
  | [] => rfl
  | _ :: ls => rowsJ_none m R C ls
theorem rowsJ_take {m : Bool} {R C : Nat} {ls : List (List UInt8)} {k : Nat} (hk : k < ls.length) {cs : List Int} (h : rowsJ m R C (ls.take k) = some cs) : rowsJ m R C (ls.take (k + 1)) = lineJ m R C (some cs) (ls[k]'hk) := by
  unfold rowsJ at *
  rw [List.take_succ_eq_append_getElem hk, List.foldl_append, h]
  rfl
theorem rowsJ_fail {m : Bool} {R C : Nat} {ls : List (List UInt8)} {k : Nat} (h : rowsJ m R C (ls.take k) = none) : rowsJ m R C ls = none := by
  unfold rowsJ at *
  rw [← List.take_append_drop k ls, List.foldl_append, h]
  exact rowsJ_none m R C _
theorem stepJ_z1 {m : Bool} {C c c' : Nat} {r r' : List Int} {d d' : List UInt8} {b : UInt8} (h : stepJ m C (some (c, r, d)) b = some (c', r', d')) (hz : z1 r) : z1 r' := by
  rw [stepJ_some] at h
  by_cases h1 : b = 120
  · rw [if_pos h1] at h
    by_cases h2 : Numl d ∧ r = [] ∧ (if m = true then c = 1 else 1 ≤ nvF 0 d ∧ nvF 0 d ≤ 40000)
    · rw [if_pos h2] at h
      simp only [Option.some.injEq, Prod.mk.injEq] at h
      obtain ⟨-, rfl, -⟩ := h
      intro x hx; cases hx
    · rw [if_neg h2] at h; cases h
  · rw [if_neg h1] at h
    by_cases hb : b = 97 ∨ b = 98
    · rw [if_pos hb] at h
      by_cases h2 : Numl d ∧ 1 ≤ nvF 0 d ∧ nvF 0 d + r.length ≤ C
      · rw [if_pos h2] at h
        simp only [Option.some.injEq, Prod.mk.injEq] at h
        obtain ⟨-, rfl, -⟩ := h
        intro x hx
        rw [List.mem_append] at hx
        rcases hx with hx | hx
        · exact hz x hx
        · have := (List.mem_replicate.1 hx).2
          rcases hb with rfl | rfl
          · exact .inl (by rw [this]; rfl)
          · exact .inr (by rw [this]; rfl)
      · rw [if_neg h2] at h; cases h
    · rw [if_neg hb] at h
      by_cases h2 : isDg b ∧ (m = true → d.length < 6)
      · rw [if_pos h2] at h
        simp only [Option.some.injEq, Prod.mk.injEq] at h
        obtain ⟨-, rfl, -⟩ := h
        exact hz
      · rw [if_neg h2] at h; cases h
theorem foldJ_z1 {m : Bool} {C : Nat} : ∀ (l : List UInt8) {c c' : Nat} {r r' : List Int} {d d' : List UInt8}, foldJ m C l (some (c, r, d)) = some (c', r', d') → z1 r → z1 r'
  | [], c, c', r, r', d, d', h, hz => by
    have h : some (c, r, d) = some (c', r', d') := h
    simp only [Option.some.injEq, Prod.mk.injEq] at h
    obtain ⟨-, rfl, -⟩ := h
    exact hz
  | b :: l, c, c', r, r', d, d', h, hz => by
    have h : foldJ m C l (stepJ m C (some (c, r, d)) b) = some (c', r', d') := h
    cases hs : stepJ m C (some (c, r, d)) b with
    | none => rw [hs, foldJ_none] at h; cases h
    | some t =>
      obtain ⟨c1, r1, d1⟩ := t
      rw [hs] at h
      exact foldJ_z1 l h (stepJ_z1 hs hz)
theorem z1_rep {n : Nat} {r : List Int} (h : z1 r) : z1 (List.replicate n r).flatten := fun x hx => by
  obtain ⟨l, hl, hx⟩ := List.mem_flatten.1 hx
  rw [(List.mem_replicate.1 hl).2] at hx
  exact h x hx
theorem z1_app {r s : List Int} (h : z1 r) (h' : z1 s) : z1 (r ++ s) := fun x hx => by
  rcases List.mem_append.1 hx with hx | hx
  · exact h x hx
  · exact h' x hx
/-- What ReadJob tells. -/
def RjE (B : Nat) (s : ByteArray) (e : Ending) (w' : World) : Prop :=
  (∃ (R C : Nat) (xs : List Int) (p : Option Addr) (c : Nat), e = .returned (.tuple #[vGrid R C p xs.length c, .bool true]) ∧ jobOK s R C xs ∧ xs.length ≤ c ∧ OwnInts B w' p xs) ∨
  (e = .returned (.tuple #[vGrid 0 0 none 0 0, .bool false]) ∧ ∀ (R C : Nat) (xs : List Int), ¬ jobOK s R C xs)
theorem RjE.no {B : Nat} {s : ByteArray} {w' : World} (h : ∀ (R C : Nat) (xs : List Int), ¬ jobOK s R C xs) : RjE B s (.returned (.tuple #[vGrid 0 0 none 0 0, .bool false])) w' := .inr ⟨rfl, h⟩
/-- What the line of a band tells. -/
def lineOK (m : Bool) (C : Nat) (l : List UInt8) (n : Nat) (r : List Int) : Prop := (∃ d, foldJ m C l (some (1, [], [])) = some (n, r, d) ∧ (m = true → d = [])) ∧ r.length = C
theorem lineJ_yes {m : Bool} {R C n : Nat} {l : List UInt8} {cs r : List Int} (h : lineOK m C l n r) (hc : cs.length + n * C ≤ R * C) : lineJ m R C (some cs) l = some (cs ++ (List.replicate n r).flatten) := by
  obtain ⟨⟨d, h1, h2⟩, h3⟩ := h
  rw [lineJ_some m R C n cs r d l h1, if_pos ⟨h2, h3, hc⟩]
theorem lineJ_big {m : Bool} {R C n : Nat} {l : List UInt8} {cs r : List Int} (h : lineOK m C l n r) (hc : ¬ cs.length + n * C ≤ R * C) : lineJ m R C (some cs) l = none := by
  obtain ⟨⟨d, h1, h2⟩, h3⟩ := h
  rw [lineJ_some m R C n cs r d l h1, if_neg (fun h => hc h.2.2)]
theorem lineJ_no {m : Bool} {R C : Nat} {l : List UInt8} {cs : List Int} (h : ∀ n r, ¬ lineOK m C l n r) : lineJ m R C (some cs) l = none := by
  cases e : foldJ m C l (some (1, [], [])) with
  | none =>
    have h2 : lineJ m R C (some cs) l = (match foldJ m C l (some (1, [], [])) with
      | some (n, r, d) => if (m = true → d = []) ∧ r.length = C ∧ cs.length + n * C ≤ R * C then some (cs ++ (List.replicate n r).flatten) else none
      | none => none) := rfl
    rw [h2, e]
  | some t =>
    obtain ⟨n, r, d⟩ := t
    rw [lineJ_some m R C n cs r d l e, if_neg]
    exact fun hc => h n r ⟨⟨d, e, hc.1⟩, hc.2.1⟩
theorem lineOK.z {m : Bool} {C n : Nat} {l : List UInt8} {r : List Int} (h : lineOK m C l n r) : z1 r := by
  obtain ⟨⟨d, h1, _⟩, _⟩ := h
  exact foldJ_z1 l h1 (fun x hx => by cases hx)
end Go.Proofs.YthpnkcamjcohgaaGreatDoor
