
/- A drawn list of bits with a segment in it. -/
import Derived.Test.YtnfbgjgchcgonaaDrawSeg
import Derived.Test.YtnfbgjgchcgonaaReadMath
namespace Go.Proofs.Ytnfbgjgchcgonaa
set_option linter.unusedVariables false
set_option linter.unusedSimpArgs false
open Go.RowKit

theorem IntsAt.but {g : Nat} {w w' : World} {p : Option Addr} {xs : List Int} (h : IntsAt w p xs) (hb : But g w w') (hp : ∀ b o, 0 < xs.length → p = some ⟨b, o, none⟩ → b ≠ g) : IntsAt w' p xs := fun i hi => by
  obtain ⟨b, o, h1, h2, h3⟩ := h i hi
  have hk := hb.block b h2 (hp b o (by omega) h1)
  exact ⟨b, o, h1, Nat.lt_of_lt_of_le h2 hb.size, (World.cell?_of_block (a := ⟨b, o + i, none⟩) hk).trans h3⟩
/-- A list and an index have been drawn. -/
def RsE (w : World) (e : Ending) (w' : World) : Prop := ∃ (p : Option Addr) (c : Nat) (xs : List Int) (a : Int), e = .returned (.tuple #[.slice p xs.length c, .int .i64 a]) ∧ (xs.length ≤ 300000 ∧ xs.length ≤ c) ∧ wfs xs ∧ IntsAt w' p xs ∧ Ext w w'
set_option maxHeartbeats 1000000 in
set_option maxRecDepth 100000 in
theorem DrawReadSegment_c (p : Option Addr) (c : Nat) (code : List Int) (w : World) (hx : U8At w p code) (hl : code.length ≤ 4096) :
    Calls Try.prog 23 #[.slice p code.length c] w fun e w' => RsE w e w' := by
  have HX := Lib.hid hx; clear hx
  go_enter Try.func23, Try.ntmps23
  go_wp2_with (first
    | (go_at_call 74; (with_reducible refine (From_c p c code _ (HX.out.ext (by repeat (first | exact Ext.refl _ | assumption | refine Ext.drew ?_ | refine Ext.drewN ?_ _ | refine Ext.iter ?_ _ _ | refine Ext.alloc ?_ _ | refine Ext.setCell ?_ (by first | exact Nat.le_refl _ | (simp <;> omega)) _ | refine Ext.trans2 (by assumption) ?_))) hl).mono ?_); rintro e w1 ⟨⟨g, rfl, hg, hs1⟩, hW1⟩; have hn1 : g < w1.heap.size := (hs1.lt); rw [← hg] at hs1; replace hg := Lib.hid hg)
    | (go_at_call 75; (with_reducible refine (DrawBits_c (g + 1) g 9 _ hs1 (by omega) (by omega)).mono ?_); rintro e w2 ⟨p2, c2, xs, rfl, hxl, hsm, oq2, hs2, hb2⟩; have hz2 := hb2.size; replace hsm := Lib.hid hsm)
    | (go_at_call 76; (with_reducible refine (DrawSeg_c (g + 1) g _ hs2 (by omega)).mono ?_); rintro e w3 ⟨m, t, rfl, ht, hs3, hb3⟩; have hz3 := hb3.size; have oq3 := oq2.but hb3 (by omega); have hbx := Blk.new w3 #[.int .i64 m, .string t] 26; have x0 := hbx.cell (i := 0) (v := .int .i64 m) rfl; have x1 := hbx.cell (i := 1) (v := .string t) rfl))
  have hgw : w.heap.size ≤ g := by have := hg.out; omega
  have hE3 : Ext w w3 := (hW1.but hb2 hgw).but hb3 hgw
  have hE4 : Ext w (w3.alloc (.cells #[.int .i64 m, .string t] 26)) := hE3.alloc _
  have HS3 := Lib.hid (hs3.ext ((Ext.refl w3).alloc (.cells #[.int .i64 m, .string t] 26)))
  have OQ3 := Lib.hid (oq3.ints.ext ((Ext.refl w3).alloc (.cells #[.int .i64 m, .string t] 26)))
  have hgx : w3.heap.size ≠ g := by omega
  generalize hw4 : w3.alloc (.cells #[.int .i64 m, .string t] 26) = w4 at *
  have hz4 : w4.heap.size = w3.heap.size + 1 := by rw [← hw4]; simp
  have hpg : ∀ b o, 0 < xs.length → p2 = some ⟨b, o, none⟩ → b ≠ g := fun b o hn e => by
    obtain ⟨b', o', e', h', _⟩ := oq3 0 hn
    rw [e] at e'
    simp at e'
    omega
  replace hpg := Lib.hid hpg
  clear hs1 hs2 hs3 oq2 oq3 hW1 hb2 hb3 hE3 hw4
  replace hz4 := Lib.hid hz4
  by_cases h1 : isBits xs ∧ IsSeg m t ∧ xs.length ≤ 100
  · obtain ⟨h1, h2, h3⟩ := h1
    have H2 := Lib.hid h2
    have h3' : (xs.length : Int) ≤ 100 := by omega
    have htz : t.size ≤ 255 := by have := h2.2.1; omega
    have hsl := rB_len m t t.size 0
    have hsl2 : (segBits m t).length ≤ 3000 := by simp only [segBits, List.length_append, bitsOf_len]; omega
    have hsl3 : 11 ≤ (segBits m t).length := by simp only [segBits, List.length_append, bitsOf_len]; omega
    have hsb := Lib.hid (segBits_bit (m := m) (t := t))
    have h1b := Lib.hid h1.2
    generalize hSB : segBits m t = SB at *
    have HSB := Lib.hid hSB; clear hSB hsl
    go_wp2_with (first
      | (go_at_call 80; (with_reducible refine (sIsBits_c _ _ _ _ OQ3.out (by omega)).mono ?_); rintro e w5 ⟨⟨hP, rfl⟩ | ⟨hP, rfl⟩, rfl⟩ <;> try contradiction)
      | (go_at_call 20; (with_reducible refine (sIsSegment_c m t _ (by omega)).mono ?_); rintro e w5 ⟨⟨hP5, rfl⟩ | ⟨hP5, rfl⟩, hx5⟩ <;> (try contradiction); obtain ⟨hc5, hf5, hk5, hz5⟩ := ecell hx5; have hx5' := Lib.hid hx5; have y0 := (hbx.ext hx5).cell (i := 0) (v := .int .i64 m) rfl; have y1 := (hbx.ext hx5).cell (i := 1) (v := .string t) rfl)
      | (go_at_call 82; (with_reducible refine (sWrite_c _ _ xs m t _ (OQ3.out.ext hx5'.out) (by omega) H2.out).mono ?_); rw [HSB.out]; rintro e w6 ⟨⟨v6, rfl, hr6⟩, hx6⟩; have hz6 := hx6.below.size)
      | (go_at_call 75; (with_reducible refine (DrawBits_c (g + 1) g 5 _ (HS3.out.ext (hx5'.out.trans hx6)) (by have := hz4.out; omega) (by omega)).mono ?_); rintro e w7 ⟨p7, c7, ys, rfl, hyl, hsm7, oq7, hs7, hb7⟩; have hz7 := hb7.size; replace hsm7 := Lib.hid hsm7; have hr7 := hr6.but hb7 (by have := hz4.out; omega))
      | (at_builtin; go_loud (refine appendLI hr7 oq7.ints (by rw [List.length_append]; omega) (by omega) ?_ rfl rfl); intro v8 w8 hr8 hG8))
    have hgz : g + 1 ≤ w5.heap.size := by have := hz4.out; omega
    have hbl8 : Below w5.heap.size w7 w8 := hG8.below (fun k hk => (hr7.lt k hk).1) (by omega)
    have hs8 := Lib.hid (hs7.low hbl8 hgz)
    have hE8 : Ext w w8 := ((((hE4.trans hx5).trans hx6).but hb7 hgw)).low hbl8 (by have := hE4.below.size; omega)
    have hz8 := hbl8.size
    obtain ⟨p8, c8, rfl, oq8, hc8⟩ := hr8.ownC
    have hLs : ∀ x ∈ xs ++ SB ++ ys, -1 ≤ x ∧ x ≤ 2 := fun x hx => by
      rcases List.mem_append.1 hx with h | h
      · rcases List.mem_append.1 h with h | h
        · have := h1b.out x h; omega
        · have := hsb.out x h; omega
      · exact hsm7.out x h
    have hLl : 11 ≤ (xs ++ SB ++ ys).length ∧ (xs ++ SB ++ ys).length ≤ 200000 := by simp only [List.length_append]; omega
    have HLS := Lib.hid hLs
    generalize xs ++ SB ++ ys = L at *
    have HOQ := Lib.hid oq8
    clear oq8 hLs hr8 hr7 hG8 hbl8 hs7 hb7 hx6 hr6 oq7 hx5 hx5' x0 x1 y0 y1 hbx hc5 hf5 hk5 HSB hE4 HS3 OQ3
    refine (Next_c (g + 1) g 10 _ hs8.out (by omega)).mono ?_
    rintro e w9 ⟨y, rfl, hy0, hy1, -, hs9, hb9⟩
    replace hy1 := hy1 (by omega)
    have hz9 := hb9.size
    have HOQ9 := Lib.hid (HOQ.out.but hb9 (by omega))
    have HS9 := Lib.hid hs9
    have HE9 := Lib.hid (hE8.but hb9 hgw)
    clear hs8 HOQ hs9 hE8 hb9
    have hy : y = 0 ∨ y = 1 ∨ y = 2 ∨ 3 ≤ y := by omega
    rcases hy with rfl | rfl | rfl | hy
    · go_wp2_with fail
      refine (Next_c (g + 1) g _ _ HS9.out (by omega)).mono ?_
      rintro e w10 ⟨k, rfl, hk0, hk1, -, hs10, hb10⟩
      replace hk1 := hk1 (by omega)
      obtain ⟨k, rfl⟩ : ∃ j : Nat, k = j := ⟨k.toNat, by omega⟩
      have hoq10 := HOQ9.out.but hb10 (by omega)
      have HE10 := Lib.hid (HE9.out.but hb10 hgw)
      obtain ⟨b, o, rfl, hB, hblt, q1, q2⟩ := hoq10 k (by omega)
      have hLk := HLS.out (L.getD k 0) (by rw [List.getD_eq_getElem?_getD, List.getElem?_eq_getElem (by omega)]; exact List.getElem_mem _)
      have hset := fun v => hoq10.set (k := k) (b := b) (o := o) rfl (by omega) v
      generalize L.getD k 0 = x at *
      clear hs10 hb10
      replace hset := Lib.hid hset
      have hoq10 := Lib.hid hoq10
      go_wp2_with fail
      go_ret2
      have hv : -1 ≤ 1 - min 1 (max 0 x) ∧ 1 - min 1 (max 0 x) ≤ 2 := by omega
      refine ⟨_, c8, L.set k (1 - min 1 (max 0 x)), xs.length, by rw [List.length_set]; rfl, by rw [List.length_set]; omega, small_wfs fun y hy => ?_, (hset.out _).ints, HE10.out.setCell (by show _ ≤ b; omega) _⟩
      rcases List.mem_or_eq_of_mem_set hy with h | rfl
      · exact HLS.out y h
      · exact hv
    · go_wp2_with (first
        | (go_at_call 90; (with_reducible refine (Next_c (g + 1) g _ _ HS9.out (by omega)).mono ?_); rintro e w10 ⟨k, rfl, hk0, hk1, -, hs10, hb10⟩; replace hk1 := hk1 (by omega); obtain ⟨k, rfl⟩ : ∃ j : Nat, k = j := ⟨k.toNat, by omega⟩; have HO10 := Lib.hid (HOQ9.out.but hb10 (by omega)); have HE10 := Lib.hid (HE9.out.but hb10 hgw); clear hs10 hb10))
      go_ret2
      have hkl : k ≤ L.length := by omega
      refine ⟨p8, c8, L.take k, xs.length, by rw [List.length_take, Nat.min_eq_left hkl]; rfl, ⟨by rw [List.length_take]; omega, by rw [List.length_take]; omega⟩, fun x hx => small_wfs HLS.out x (List.mem_of_mem_take hx), fun i hi => ?_, HE10.out⟩
      rw [List.length_take] at hi
      obtain ⟨b, o, e1, _, e2, e3, _⟩ := HO10.out i (by omega)
      refine ⟨b, o, e1, e2, ?_⟩
      rw [e3, List.getD_eq_getElem?_getD, List.getD_eq_getElem?_getD, List.getElem?_take_of_lt (by omega)]
    · go_wp2_with fail
      refine (Next_c (g + 1) g _ _ (HS9.out.ext ((Ext.refl _).alloc _)) (by omega)).mono ?_
      rintro e w10 ⟨k, rfl, hk0, hk1, -, hs10, hb10⟩
      replace hk1 := hk1 (by omega)
      obtain ⟨bc, bf, bk, bz⟩ := bucell hb10
      have hne : w9.heap.size ≠ g := by omega
      have HO10 := Lib.hid ((HOQ9.out.ext ((Ext.refl _).alloc (.cells #[.int .i64 (-1), .int .i64 L.length, .int .i64 ((L.length : Int) + 1)] 2))).but hb10 (by omega))
      have HE10 := Lib.hid ((HE9.out.alloc _).but hb10 hgw)
      clear hs10 hb10
      have : k = 0 ∨ k = 1 ∨ k = 2 := by omega
      rcases this with rfl | rfl | rfl
      all_goals
        go_wp2_with fail
        go_ret2
        exact ⟨p8, c8, L, _, rfl, ⟨by omega, hc8⟩, small_wfs HLS.out, HO10.out.ints, HE10.out⟩
    · have hd0 : (y == 0) = false := by simp; omega
      have hd1 : (y == 1) = false := by simp; omega
      have hd2 : (y == 2) = false := by simp; omega
      go_wp2_with fail
      go_ret2
      exact ⟨p8, c8, L, _, rfl, ⟨by omega, hc8⟩, small_wfs HLS.out, HOQ9.out.ints, HE9.out⟩
  · have HZ : 4 ≤ 1048576 := by omega
    by_cases h2 : isBits xs
    · by_cases h3 : IsSeg m t
      · have h4 : 100 < xs.length := by
          rcases Nat.lt_or_ge 100 xs.length with h | h
          · exact h
          · exact absurd ⟨h2, h3, h⟩ h1
        have h4' : (100 : Int) < xs.length := by omega
        clear h1
        go_wp2_with (first
          | (go_at_call 80; (with_reducible refine (sIsBits_c _ _ _ _ OQ3.out (by omega)).mono ?_); rintro e w5 ⟨⟨hP, rfl⟩ | ⟨hP, rfl⟩, rfl⟩ <;> try contradiction)
          | (go_at_call 20; (with_reducible refine (sIsSegment_c m t _ (by omega)).mono ?_); rintro e w5 ⟨⟨hP5, rfl⟩ | ⟨hP5, rfl⟩, hx5⟩ <;> (try contradiction); replace hx5 := Lib.hid hx5)
          | (go_at_call 90; (with_reducible refine (Next_c (g + 1) g _ _ (HS3.out.ext hx5.out) (by omega)).mono ?_); rintro e w6 ⟨y, rfl, hy0, hy1, -, hs6, hb6⟩; replace hy1 := hy1 (by omega); replace hb6 := Lib.hid hb6))
        go_ret2
        exact ⟨p2, c2, xs, _, rfl, ⟨by omega, hxl.2⟩, small_wfs hsm.out, (OQ3.out.ext hx5.out).but hb6.out hpg.out, (hE4.trans hx5.out).but hb6.out hgw⟩
      · clear h1
        go_wp2_with (first
          | (go_at_call 80; (with_reducible refine (sIsBits_c _ _ _ _ OQ3.out (by omega)).mono ?_); rintro e w5 ⟨⟨hP, rfl⟩ | ⟨hP, rfl⟩, rfl⟩ <;> try contradiction)
          | (go_at_call 20; (with_reducible refine (sIsSegment_c m t _ (by omega)).mono ?_); rintro e w5 ⟨⟨hP5, rfl⟩ | ⟨hP5, rfl⟩, hx5⟩ <;> (try contradiction); replace hx5 := Lib.hid hx5)
          | (go_at_call 90; (with_reducible refine (Next_c (g + 1) g _ _ (HS3.out.ext hx5.out) (by omega)).mono ?_); rintro e w6 ⟨y, rfl, hy0, hy1, -, hs6, hb6⟩; replace hy1 := hy1 (by omega); replace hb6 := Lib.hid hb6))
        go_ret2
        exact ⟨p2, c2, xs, _, rfl, ⟨by omega, hxl.2⟩, small_wfs hsm.out, (OQ3.out.ext hx5.out).but hb6.out hpg.out, (hE4.trans hx5.out).but hb6.out hgw⟩
    · clear h1
      go_wp2_with (first
        | (go_at_call 80; (with_reducible refine (sIsBits_c _ _ _ _ OQ3.out (by omega)).mono ?_); rintro e w5 ⟨⟨hP, rfl⟩ | ⟨hP, rfl⟩, rfl⟩ <;> try contradiction)
        | (go_at_call 90; (with_reducible refine (Next_c (g + 1) g _ _ HS3.out (by omega)).mono ?_); rintro e w6 ⟨y, rfl, hy0, hy1, -, hs6, hb6⟩; replace hy1 := hy1 (by omega); replace hb6 := Lib.hid hb6))
      go_ret2
      exact ⟨p2, c2, xs, _, rfl, ⟨by omega, hxl.2⟩, small_wfs hsm.out, OQ3.out.but hb6.out hpg.out, hE4.but hb6.out hgw⟩
end Go.Proofs.Ytnfbgjgchcgonaa
