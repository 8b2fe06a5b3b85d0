/- How the laws' families and grids are read from memory. -/
import Derived.Test.YtekignklnakkaaaGreatDoorLDamagedElementsK00
set_option linter.unusedVariables false
set_option linter.unusedSimpArgs false
namespace Go.Proofs.YtekignklnakkaaaGreatDoor
open Go.RowKit

theorem open_FamilyO {w : World} {cs : List Value} (h : rds w [.str, .i .i64, .st [.i .i64, .i .i64, .i .i64], .sl (.i .i64), .i .i64, .sl (.i .i64)] cs) : ∃ (nm : ByteArray) (K p k q : Int) (ps : Option Addr) (a : Nat) (ss : List Int) (co : Int) (pl : Option Addr) (b : Nat) (ls : List Int), cs = [.string nm, .int .i64 K, .int .i64 p, .int .i64 k, .int .i64 q, .slice ps ss.length a, .int .i64 co, .slice pl ls.length b] ∧ nm.size ≤ maxLen ∧ ss.length ≤ maxLen ∧ ls.length ≤ maxLen ∧ IntsAt w ps ss ∧ IntsAt w pl ls := by
  obtain ⟨nm, _, rfl, hn, h⟩ := rds_str h
  obtain ⟨K, _, rfl, _, h⟩ := rds_int h
  obtain ⟨c1, c2, rfl, hf, h4⟩ := rds_st h
  obtain ⟨p, _, rfl, _, hf⟩ := rds_int hf
  obtain ⟨k, _, rfl, _, hf⟩ := rds_int hf
  obtain ⟨q, _, rfl, _, hf⟩ := rds_int hf
  obtain rfl := rds_nil hf
  obtain ⟨v, _, rfl, hv, h5⟩ := rds_sl h4
  obtain ⟨ps, a, ss, rfl, hl, hx, _⟩ := rd_ints hv
  obtain ⟨co, _, rfl, _, h⟩ := rds_int h5
  obtain ⟨v2, _, rfl, hv2, h6⟩ := rds_sl h
  obtain ⟨pl, b, ls, rfl, hl2, hx2, _⟩ := rd_ints hv2
  obtain rfl := rds_nil h6
  exact ⟨nm, K, p, k, q, ps, a, ss, co, pl, b, ls, rfl, hn, hl, hl2, hx, hx2⟩
theorem open_GridO {w : World} {cs : List Value} (h : rds w [.i .i64, .i .i64, .sl (.i .i64)] cs) : ∃ (r c : Int) (p : Option Addr) (k : Nat) (xs : List Int), cs = [.int .i64 r, .int .i64 c, .slice p xs.length k] ∧ xs.length ≤ maxLen ∧ IntsAt w p xs := by
  obtain ⟨r, _, rfl, _, h⟩ := rds_int h
  obtain ⟨c, _, rfl, _, h⟩ := rds_int h
  obtain ⟨v, _, rfl, hv, h3⟩ := rds_sl h
  obtain ⟨p, k, xs, rfl, hl, hx, _⟩ := rd_ints hv
  obtain rfl := rds_nil h3
  exact ⟨r, c, p, k, xs, rfl, hl, hx⟩
end Go.Proofs.YtekignklnakkaaaGreatDoor
