/- The batch of a text: plain laws. -/
import Derived.Test.YthpnkcamjcohgaaDoorLBatchTextLK39
import Derived.Test.YthpnkcamjcohgaaDoorLBatchTextLK33
namespace Go.Proofs.YthpnkcamjcohgaaDoor
set_option linter.unusedVariables false
set_option linter.unusedSimpArgs false
open Go.RowKit

theorem bytes_eqJ {a b : ByteArray} (h : a.data.toList = b.data.toList) : a = b := ByteArray.ext (Array.toList_inj.1 h)
theorem spl_le (y : UInt8) : ∀ (l : List UInt8), ∀ x ∈ spl y l, x.length ≤ l.length
  | [], x, hx => by
    simp [spl] at hx
    rw [hx]; exact Nat.le_refl _
  | b :: l, x, hx => by
    have ih := spl_le y l
    unfold spl at hx
    split at hx
    · rcases List.mem_cons.1 hx with rfl | hx
      · simp
      · have := ih x hx
        simp; omega
    · split at hx
      · rename_i h t e
        rw [e] at ih
        rcases List.mem_cons.1 hx with rfl | hx
        · have := ih h (by simp)
          simp; omega
        · have := ih x (by simp [hx])
          simp; omega
      · rw [List.mem_singleton.1 hx]; simp
theorem pieces_le {y : UInt8} {s : ByteArray} {ps : List ByteArray} (h : ps.map (·.data.toList) = spl y s.data.toList) : (∀ x ∈ ps, x.size ≤ s.size) ∧ ps.length ≤ s.size + 1 ∧ ps ≠ [] := by
  have hs : s.data.toList.length = s.size := by simp
  refine ⟨fun x hx => ?_, ?_, fun e => ?_⟩
  · have h1 := spl_le y s.data.toList x.data.toList (by rw [← h]; exact List.mem_map_of_mem hx)
    have h2 : x.data.toList.length = x.size := by simp
    omega
  · have h1 := spl_len y s.data.toList
    rw [← h, List.length_map] at h1
    omega
  · rw [e] at h
    exact spl_ne y _ h.symm
theorem batT_list (a : ByteArray) (f st c wd : Int) : (batT a f st c wd).data.toList = a.data.toList ++ 47 :: ((dec f).data.toList ++ 47 :: ((dec st).data.toList ++ 47 :: ((dec c).data.toList ++ 47 :: (dec wd).data.toList))) := by
  unfold batT slB
  simp
theorem dec_no47 (n : Nat) : (47 : UInt8) ∉ (dec n).data.toList := fun h => by
  rw [dec_list] at h
  have := (dec_num n).2.1.2.1 47 h
  unfold isDg at this
  simp at this
theorem pfx_no47 {a : ByteArray} (h : pfxOK a) : (47 : UInt8) ∉ a.data.toList := fun hm => by
  obtain ⟨i, hi, e⟩ := List.mem_iff_getElem.1 hm
  have hi2 : i < a.size := by simpa using hi
  have := h i hi2
  rw [byteAt_eq hi2, ← get_data hi2 hi, e] at this
  simp at this
theorem bat_spl {a : ByteArray} {f st c wd : Int} (h : batOK a f st c wd) : spl 47 (batT a f st c wd).data.toList = [a.data.toList, (dec f).data.toList, (dec st).data.toList, (dec c).data.toList, (dec wd).data.toList] := by
  obtain ⟨na, nb, nd, ne, rfl, rfl, rfl, rfl, _⟩ := bat_nat h.2.2
  rw [batT_list, spl_pre _ (pfx_no47 h.1), spl_pre _ (dec_no47 na), spl_pre _ (dec_no47 nb), spl_pre _ (dec_no47 nd), spl_none (dec_no47 ne)]
theorem map_inj : ∀ {ps qs : List ByteArray}, ps.map (·.data.toList) = qs.map (·.data.toList) → ps = qs
  | [], [], _ => rfl
  | [], _ :: _, h => by simp at h
  | _ :: _, [], h => by simp at h
  | p :: ps, q :: qs, h => by
    simp only [List.map_cons, List.cons.injEq] at h
    rw [bytes_eqJ h.1, map_inj h.2]
theorem rb_pieces {s a : ByteArray} {f st c wd : Int} {ps : List ByteArray} (h : ps.map (·.data.toList) = spl 47 s.data.toList) (hok : batOK a f st c wd) (e : s = batT a f st c wd) : ps = [a, dec f, dec st, dec c, dec wd] := by
  rw [e, bat_spl hok] at h
  exact map_inj h
/-- The text of a batch has been read. -/
def RbE (s : ByteArray) (e : Ending) : Prop :=
  (∃ (a : ByteArray) (f st c wd : Int), e = .returned (.tuple #[vBatch a f st c wd, .bool true]) ∧ batOK a f st c wd ∧ s = batT a f st c wd) ∨
  (e = .returned (.tuple #[vBatch ByteArray.empty 0 0 0 0, .bool false]) ∧ ∀ (a : ByteArray) (f st c wd : Int), batOK a f st c wd → s ≠ batT a f st c wd)
theorem RbE.no {s : ByteArray} (h : ∀ (a : ByteArray) (f st c wd : Int), batOK a f st c wd → s ≠ batT a f st c wd) : RbE s (.returned (.tuple #[vBatch ByteArray.empty 0 0 0 0, .bool false])) := .inr ⟨rfl, h⟩
theorem rb_yes {s p0 : ByteArray} {n1 n2 n3 n4 : Int} (h : [p0, dec n1, dec n2, dec n3, dec n4].map (·.data.toList) = spl 47 s.data.toList) : s = batT p0 n1 n2 n3 n4 := by
  apply bytes_eqJ
  rw [batT_list]
  obtain ⟨l1, e1, h1⟩ := spl_more h.symm
  obtain ⟨l2, e2, h2⟩ := spl_more h1
  obtain ⟨l3, e3, h3⟩ := spl_more h2
  obtain ⟨l4, e4, h4⟩ := spl_more h3
  have e5 := (spl_one h4).1
  rw [e1, e2, e3, e4, e5]
/-- One text tells one batch. -/
theorem rb_one {a a' : ByteArray} {f st c wd f' st' c' wd' : Int} (h : batOK a f st c wd) (h' : batOK a' f' st' c' wd') (e : batT a f st c wd = batT a' f' st' c' wd') : a = a' ∧ f = f' ∧ st = st' ∧ c = c' ∧ wd = wd' := by
  have hp := rb_pieces (s := batT a f st c wd) (ps := [a, dec f, dec st, dec c, dec wd]) (by rw [bat_spl h]; rfl) h' e
  simp only [List.cons.injEq, and_true] at hp
  obtain ⟨na, nb, nd, ne, rfl, rfl, rfl, rfl, _⟩ := bat_nat h.2.2
  obtain ⟨ma, mb, md, me, rfl, rfl, rfl, rfl, _⟩ := bat_nat h'.2.2
  obtain ⟨g0, g1, g2, g3, g4⟩ := hp
  rw [g0, dec_inj g1, dec_inj g2, dec_inj g3, dec_inj g4]
  exact ⟨rfl, rfl, rfl, rfl, rfl⟩
theorem rb_not {s p0 : ByteArray} {m1 m2 m3 m4 : Nat} (h : [p0, dec m1, dec m2, dec m3, dec m4].map (·.data.toList) = spl 47 s.data.toList) (hn : ¬ batOK p0 m1 m2 m3 m4) : ∀ (a : ByteArray) (f st c wd : Int), batOK a f st c wd → s ≠ batT a f st c wd := fun a f st c wd hok e => by
  have hp := rb_pieces h hok e
  simp only [List.cons.injEq, and_true] at hp
  obtain ⟨na, nb, nd, ne, rfl, rfl, rfl, rfl, _⟩ := bat_nat hok.2.2
  obtain ⟨g0, g1, g2, g3, g4⟩ := hp
  rw [g0, dec_inj g1, dec_inj g2, dec_inj g3, dec_inj g4] at hn
  exact hn hok
end Go.Proofs.YthpnkcamjcohgaaDoor
