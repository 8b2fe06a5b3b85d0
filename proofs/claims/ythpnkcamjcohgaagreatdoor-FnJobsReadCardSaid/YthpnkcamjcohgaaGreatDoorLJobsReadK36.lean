/- The line of a band, as the program reads it. -/
import Derived.Test.YthpnkcamjcohgaaGreatDoorLJobsReadK31
import Derived.Test.YthpnkcamjcohgaaGreatDoorLJobsReadK35
import Derived.Test.YthpnkcamjcohgaaGreatDoorLJobsReadK32
import Derived.Test.YthpnkcamjcohgaaGreatDoorLJobsReadK26
namespace Go.Proofs.YthpnkcamjcohgaaGreatDoor
set_option linter.unusedVariables false
set_option linter.unusedSimpArgs false
open Go.RowKit

theorem enc_valid : ∀ n : Nat, n < 256 → Utf8.valid (n : Int) = true := fun n h => by simp [Utf8.valid]; omega
theorem enc_lo (n : Nat) (h : n < 128) : (Utf8.encode (n : Int)).data.toList = [UInt8.ofNat n] := by
  unfold Utf8.encode
  simp [enc_valid n (by omega), h]
theorem last_no (t : ByteArray) (h1 : 2 ≤ t.size) (h3 : ∀ h : t.size - 1 < t.size, 128 ≤ (t[t.size - 1]'h).toNat) : ∃ c ∈ t.data.toList, ¬ isDg c := by
  have hp : t.size - 1 < t.size := by omega
  have hp2 : t.size - 1 < t.data.toList.length := by simpa using hp
  refine ⟨t[t.size - 1]'hp, ?_, fun hd => ?_⟩
  · rw [← get_data hp hp2]
    exact List.getElem_mem _
  · have := h3 hp
    unfold isDg at hd
    omega
theorem enc_big (n : Nat) (h : 128 ≤ n) (h2 : n < 256) : (2 ≤ (Utf8.encode (n : Int)).size ∧ (Utf8.encode (n : Int)).size ≤ 4) ∧ ∃ c ∈ (Utf8.encode (n : Int)).data.toList, ¬ isDg c :=
  have hf := encode_facts (n : Int) (enc_valid _ h2) (by omega)
  ⟨⟨hf.1, hf.2.1⟩, last_no _ hf.1 hf.2.2⟩
theorem enc_byte_lo {b : UInt8} (h : b.toNat < 128) : (Utf8.encode (b.toNat : Int)).data.toList = [b] := by
  rw [enc_lo b.toNat h]
  simp
theorem byte_256 (b : UInt8) : b.toNat < 256 := by
  have := b.toNat_lt
  omega
theorem enc_byte_hi {b : UInt8} (h : ¬ b.toNat < 128) : ∃ c ∈ (Utf8.encode (b.toNat : Int)).data.toList, ¬ isDg c := (enc_big _ (Nat.le_of_not_lt h) (byte_256 b)).2
theorem len_size (t : ByteArray) : t.data.toList.length = t.size := by simp
theorem size_one {t : ByteArray} {b : UInt8} (h : t.data.toList = [b]) : 1 ≤ t.size ∧ t.size ≤ 4 := by
  have := len_size t
  rw [h, List.length_singleton] at this
  omega
theorem size_two {t : ByteArray} (h : 2 ≤ t.size ∧ t.size ≤ 4) : 1 ≤ t.size ∧ t.size ≤ 4 := by omega
theorem enc_byte_size (b : UInt8) : 1 ≤ (Utf8.encode (b.toNat : Int)).size ∧ (Utf8.encode (b.toNat : Int)).size ≤ 4 := by
  by_cases h : b.toNat < 128
  · exact size_one (enc_byte_lo h)
  · exact size_two (enc_big _ (Nat.le_of_not_lt h) (byte_256 b)).1
theorem enc_byte (b : UInt8) : (isDg b → (Utf8.encode (b.toNat : Int)).data.toList = [b]) ∧ (¬ isDg b → ∃ c ∈ (Utf8.encode (b.toNat : Int)).data.toList, ¬ isDg c) ∧ 1 ≤ (Utf8.encode (b.toNat : Int)).size ∧ (Utf8.encode (b.toNat : Int)).size ≤ 4 := by
  refine ⟨fun hd => enc_byte_lo (by unfold isDg at hd; omega), fun hd => ?_, enc_byte_size b⟩
  by_cases h : b.toNat < 128
  · exact ⟨b, by rw [enc_byte_lo h]; exact List.mem_singleton.2 rfl, hd⟩
  · exact enc_byte_hi h
theorem foldJ_take {m : Bool} {C : Nat} {l : List UInt8} {k : Nat} (hk : k < l.length) (st : Option (Nat × List Int × List UInt8)) : foldJ m C (l.take (k + 1)) st = stepJ m C (foldJ m C (l.take k) st) (l[k]'hk) := by
  rw [List.take_succ_eq_append_getElem hk, foldJ_app]
  rfl
theorem foldJ_fail {m : Bool} {C : Nat} {l : List UInt8} {k : Nat} {st : Option (Nat × List Int × List UInt8)} (h : foldJ m C (l.take k) st = none) : foldJ m C l st = none := by
  rw [← List.take_append_drop k l, foldJ_app, h, foldJ_none]
theorem lineOK_fail {m : Bool} {C : Nat} {l : List UInt8} {k : Nat} (h : foldJ m C (l.take k) (some (1, [], [])) = none) : ∀ n r, ¬ lineOK m C l n r := fun n r ⟨⟨d, h1, _⟩, _⟩ => by
  rw [foldJ_fail h] at h1; cases h1
/-- What stands ahead of byte k. -/
def RS (C : Nat) (l : List UInt8) (k c : Nat) (r : List Int) (d : ByteArray) : Prop :=
  (foldJ true C (l.take k) (some (1, [], [])) = some (c, r, d.data.toList) ∧ ∀ b ∈ d.data.toList, isDg b) ∨ (foldJ true C (l.take k) (some (1, [], [])) = none ∧ ∃ b ∈ d.data.toList, ¬ isDg b)
theorem RS.start (C : Nat) (l : List UInt8) : RS C l 0 1 [] ByteArray.empty := .inl ⟨rfl, fun b hb => by cases hb⟩
theorem dec_dg (m : Nat) : ∀ b ∈ (dec (m : Int)).data.toList, isDg b := fun b hb => by
  rw [dec_list] at hb
  exact (dec_num m).2.1.2.1 b hb
theorem RS.told {C k c m : Nat} {l : List UInt8} {r : List Int} (h : RS C l k c r (dec (m : Int))) : foldJ true C (l.take k) (some (1, [], [])) = some (c, r, (dec (m : Int)).data.toList) := by
  rcases h with h | ⟨_, b, hb, hd⟩
  · exact h.1
  · exact absurd (dec_dg m b hb) hd
theorem RS.xYes {C k m : Nat} {l : List UInt8} (h : RS C l k 1 [] (dec (m : Int))) (hk : k < l.length) (hx : l[k]'hk = 120) : RS C l (k + 1) m [] ByteArray.empty := by
  refine .inl ⟨?_, fun b hb => by cases hb⟩
  rw [foldJ_take hk, h.told, hx, stepJ_some, if_pos rfl, dec_val, if_pos ⟨is_dec.1 ⟨m, rfl⟩, rfl, rfl⟩]
  rfl
theorem RS.xNo {C k c : Nat} {l : List UInt8} {r : List Int} {d : ByteArray} (h : RS C l k c r d) (hk : k < l.length) (hx : l[k]'hk = 120) (hn : ¬ (Numl d.data.toList ∧ r = [] ∧ c = 1)) : ∀ n r, ¬ lineOK true C l n r := by
  refine lineOK_fail (k := k + 1) ?_
  rw [foldJ_take hk, hx]
  rcases h with ⟨h, _⟩ | ⟨h, _⟩
  · rw [h, stepJ_some, if_pos rfl, if_neg (fun hh => hn ⟨hh.1, hh.2.1, by simpa using hh.2.2⟩)]
  · rw [h]; rfl
theorem RS.abYes {C k c m : Nat} {l : List UInt8} {r : List Int} (h : RS C l k c r (dec (m : Int))) (hk : k < l.length) {x : UInt8} (hx : l[k]'hk = x) (hx2 : x = 97 ∨ x = 98) (h1 : 1 ≤ m) (h2 : m + r.length ≤ C) : RS C l (k + 1) c (r ++ repL m [(x.toNat : Int) - 97]) ByteArray.empty := by
  refine .inl ⟨?_, fun b hb => by cases hb⟩
  have hne : ¬ x = 120 := by rcases hx2 with rfl | rfl <;> decide
  have e : repL m [(x.toNat : Int) - 97] = List.replicate m ((x.toNat : Int) - 97) := by
    unfold repL
    induction m with
    | zero => rfl
    | succ m ih => simp [List.replicate_succ]
  rw [foldJ_take hk, h.told, hx, stepJ_some, if_neg hne, if_pos hx2, dec_val, if_pos ⟨is_dec.1 ⟨m, rfl⟩, h1, h2⟩, e]
  rfl
theorem RS.abNo {C k c : Nat} {l : List UInt8} {r : List Int} {d : ByteArray} (h : RS C l k c r d) (hk : k < l.length) {x : UInt8} (hx : l[k]'hk = x) (hx2 : x = 97 ∨ x = 98) (hn : ¬ ∃ m : Nat, d = dec m ∧ 1 ≤ m ∧ m + r.length ≤ C) : ∀ n r, ¬ lineOK true C l n r := by
  refine lineOK_fail (k := k + 1) ?_
  have hne : ¬ x = 120 := by rcases hx2 with rfl | rfl <;> decide
  rw [foldJ_take hk, hx]
  rcases h with ⟨h, _⟩ | ⟨h, _⟩
  · rw [h, stepJ_some, if_neg hne, if_pos hx2, if_neg]
    rintro ⟨h1, h2, h3⟩
    exact hn ⟨nvF 0 d.data.toList, dec_eq (num_dec _ _ rfl h1).symm, h2, h3⟩
  · rw [h]; rfl
set_option maxRecDepth 100000 in
theorem RS.dig {C k c : Nat} {l : List UInt8} {r : List Int} {d : ByteArray} (h : RS C l k c r d) (hk : k < l.length) {x : UInt8} (hx : l[k]'hk = x) (h1 : ¬ x = 120) (h2 : ¬ (x = 97 ∨ x = 98)) : if (d ++ Utf8.encode (x.toNat : Int)).size ≤ 6 then RS C l (k + 1) c r (d ++ Utf8.encode (x.toNat : Int)) else ∀ n r, ¬ lineOK true C l n r := by
  obtain ⟨e1, e2, e3, e4⟩ := enc_byte x
  have hdl : d.data.toList.length = d.size := by simp
  rw [ByteArray.size_append]
  have hst : foldJ true C (l.take (k + 1)) (some (1, [], [])) = stepJ true C (foldJ true C (l.take k) (some (1, [], []))) x := by rw [foldJ_take hk, hx]
  clear e3 e4
  have h' : (foldJ true C (l.take k) (some (1, [], [])) = some (c, r, d.data.toList) ∧ ∀ b ∈ d.data.toList, isDg b) ∨ (foldJ true C (l.take k) (some (1, [], [])) = none ∧ ∃ b ∈ d.data.toList, ¬ isDg b) := h
  clear h
  generalize Utf8.encode (x.toNat : Int) = t at *
  rcases h' with ⟨h, hd⟩ | ⟨h, b, hb, hbd⟩
  · rw [h, stepJ_some, if_neg h1, if_neg h2] at hst
    by_cases hxd : isDg x
    · have e1 := e1 hxd
      have hz : t.size = 1 := by
        have : t.data.toList.length = t.size := by simp
        rw [e1] at this; simpa using this.symm
      rw [hz]
      split
      · rename_i hle
        refine .inl ⟨?_, fun b hb => ?_⟩
        · rw [hst, if_pos ⟨hxd, fun _ => by omega⟩, app_list, e1]
        · rw [app_list, e1, List.mem_append, List.mem_singleton] at hb
          rcases hb with hb | rfl
          · exact hd b hb
          · exact hxd
      · rename_i hle
        refine lineOK_fail (k := k + 1) ?_
        rw [hst, if_neg (fun hh => hle (by have := hh.2 rfl; omega))]
    · rw [if_neg (fun hh => hxd hh.1)] at hst
      split
      · obtain ⟨c', hc', hcd⟩ := e2 hxd
        exact .inr ⟨hst, c', by rw [app_list]; exact List.mem_append_right _ hc', hcd⟩
      · exact lineOK_fail hst
  · rw [h] at hst
    have hst : foldJ true C (l.take (k + 1)) (some (1, [], [])) = none := hst
    split
    · exact .inr ⟨hst, b, by rw [app_list]; exact List.mem_append_left _ hb, hbd⟩
    · exact lineOK_fail hst
theorem RS.done {C k c : Nat} {l : List UInt8} {r : List Int} {d : ByteArray} (h : RS C l k c r d) (hk : k = l.length) : if d.size = 0 ∧ r.length = C then lineOK true C l c r else ∀ n r, ¬ lineOK true C l n r := by
  subst hk
  unfold RS at h
  rw [List.take_length] at h
  have hdl : d.data.toList.length = d.size := by simp
  split
  · rename_i hc
    rcases h with ⟨h, _⟩ | ⟨_, b, hb, _⟩
    · have hd : d.data.toList = [] := List.length_eq_zero_iff.1 (by omega)
      rw [hd] at h
      exact ⟨⟨[], h, fun _ => rfl⟩, hc.2⟩
    · rw [List.length_eq_zero_iff.1 (show d.data.toList.length = 0 by omega)] at hb
      cases hb
  · rename_i hc
    rintro n r' ⟨⟨d', h1, h2⟩, h3⟩
    rcases h with ⟨h, _⟩ | ⟨h, _⟩
    · rw [h] at h1
      simp only [Option.some.injEq, Prod.mk.injEq] at h1
      obtain ⟨-, rfl, rfl⟩ := h1
      exact hc ⟨by rw [← hdl, h2 rfl]; rfl, h3⟩
    · rw [h] at h1; cases h1
theorem dec_six {m : Nat} (h : (dec (m : Int)).size ≤ 6) : m ≤ 999999 := by
  have h1 := nvF_bd (dec (m : Int)).data.toList 0 (dec_dg m)
  rw [dec_val] at h1
  have h2 : (dec (m : Int)).data.toList.length = (dec (m : Int)).size := by simp
  have h3 : 10 ^ (dec (m : Int)).data.toList.length ≤ 10 ^ 6 := Nat.pow_le_pow_right (by decide) (by omega)
  omega
theorem RowG.apartG {B : Nat} {v v' u : Value} {w w' : World} {s : ByteArray} (h : RowG B w u s) (hg : Grew v w w' v') (hne : ∀ k, u.ownBlock = some k → v.ownBlock ≠ some k) : RowG B w' u s := by
  obtain ⟨g, cap, cur, fz, rfl, hB, hh, r⟩ := h
  refine ⟨g, cap, cur, fz, rfl, hB, ?_, r⟩
  rw [hg.by_.block g (Array.getElem?_eq_some_iff.1 hh).1 (fun e => hne g rfl e.symm)]
  exact hh
/-- What readBand tells. -/
def RbR (B C : Nat) (l : List UInt8) (e : Ending) (w' : World) : Prop :=
  (∃ (n : Nat) (r : List Int) (v : Value), e = .returned (.tuple #[.int .i64 n, v, .bool true]) ∧ RowI B w' v r ∧ lineOK true C l n r ∧ n ≤ 999999) ∨
  (∃ (n : Int) (v : Value), e = .returned (.tuple #[.int .i64 n, v, .bool false]) ∧ ∀ n r, ¬ lineOK true C l n r)
theorem RbR.no {B C : Nat} {l : List UInt8} {w' : World} (n : Int) (v : Value) (h : ∀ n r, ¬ lineOK true C l n r) : RbR B C l (.returned (.tuple #[.int .i64 n, v, .bool false])) w' := .inr ⟨n, v, rfl, h⟩
theorem RdR.numl {s : ByteArray} {n : Int} (h : RdR s n false) (hs : s.size ≤ 6) : ¬ Numl s.data.toList := fun hn => by
  rcases h with ⟨h, _⟩ | ⟨_, h⟩
  · cases h
  · obtain ⟨m, rfl⟩ := is_dec.2 hn
    have := dec_six hs
    exact h m (by omega) rfl
theorem ints_one (w : World) (a : Int) : IntsAt (w.alloc (.cells #[.int .i64 a] 2)) (some ⟨w.heap.size, 0, none⟩) [a] := fun i hi => by
  have hb := Blk.new w #[.int .i64 a] 2
  have hi : i < 1 := hi
  obtain rfl : i = 0 := by omega
  exact ⟨_, _, rfl, hb.lt, hb.cell rfl⟩
set_option maxHeartbeats 3200000 in
set_option maxRecDepth 100000 in
theorem readBand_c (s : ByteArray) (C : Nat) (w : World) (hs : s.size ≤ 20000) (hC : C ≤ 40000) (hE : ErrC w) :
    Calls Tryz.prog 28 #[.string s, .int .i64 C] w fun e w' => RbR w.heap.size C s.data.toList e w' ∧ Ext w w' := by
  have HE := Lib.hid hE; clear hE
  have hcv : ∀ W, (convert 9 22 (.string s)).run Tryz.prog W = .ok (.slice (some ⟨W.heap.size, 0, none⟩) s.size (grownCap W s.size 0 5)) (Lib.bytesWorld W 5 s) := fun W => Lib.run_convert_string_bytes W _ _ _ s (u := .string) (by kernel_rfl) (by kernel_rfl) (by kernel_rfl)
  have hrow := (RowI.made (B := w.heap.size) (w := w) (Nat.le_refl _)).ext (ext_bytes (w.alloc (.cells #[] 2)) 5 s)
  have hrg := RowG.made (w := w.alloc (.cells #[] 2)) (s := s) (by omega)
  rw [World.size_alloc] at hrg
  have hx0 : Ext w (Lib.bytesWorld (w.alloc (.cells #[] 2)) 5 s) := ((Ext.refl w).alloc _).trans (ext_bytes _ _ _)
  go_enter Tryz.func28, Tryz.ntmps28
  go_upto_region 5 with (fail)
  generalize grownCap (w.alloc (.cells #[] 2)) s.size 0 5 = gc at *
  generalize Lib.bytesWorld (w.alloc (.cells #[] 2)) 5 s = w1 at *
  clear hcv
  have hsl : s.data.toList.length = s.size := by simp
  go_loopw [7, 8, 9, 21] (fun c v d i wr => ∃ (k cn : Nat) (r : List Int) (ds : ByteArray), k ≤ s.size ∧ i = .int .i64 k ∧ c = .int .i64 cn ∧ d = .string ds ∧ RowI w.heap.size wr v r ∧ (∀ q, v.ownBlock = some q → q ≠ w.heap.size + 1) ∧ RowG (w.heap.size + 1) wr (.slice (some ⟨w.heap.size + 1, 0, none⟩) s.size gc) s ∧ Ext w wr ∧ cn ≤ 999999 ∧ r.length ≤ C ∧ ds.size ≤ 6 ∧ Hid (RS C s.data.toList k cn r ds)) (fun _ _ _ i _ => s.size - (intOf i).toNat)
  case atStart => exact ⟨0, 1, [], ByteArray.empty, Nat.zero_le _, rfl, rfl, rfl, hrow, fun q h => by simp [Value.ownBlock] at h; omega, hrg, hx0, by omega, by simp, by decide, Lib.hid (RS.start _ _)⟩
  case round =>
    clear hrow hrg hx0
    obtain ⟨k, cn, r, ds, hk, rfl, rfl, rfl, hown, hap, hrg', hext, hcn, hrC, hd6, hRS⟩ := hrel
    by_cases hlt : k < s.size
    · have hki : (k : Int) < s.size := by omega
      have hkL : k < s.data.toList.length := by omega
      obtain ⟨x, hx⟩ : ∃ x, s.data.toList[k]'hkL = x := ⟨_, rfl⟩
      have y := hrg'.cells k (.int .u8 x.toNat) (by show (s.data.toList.map fun b => Value.int .u8 (b.toNat : Int))[k]? = _; rw [List.getElem?_map, List.getElem?_eq_getElem hkL, hx]; rfl)
      have hgl := (hrg'.lt _ rfl).2
      have hrd := Lib.hid (fun W (h : ErrC W) => readDecimal_c ds W (by omega) h)
      by_cases h120 : x = 120
      · have hxx2 := Lib.hid (hx.trans h120)
        have y0 : wr.cell? ⟨w.heap.size + 1, k, none⟩ = some (.int .u8 120) := by rw [y, h120]; rfl
        clear y h120
        go_upto_region 13 with (go_at_call 26; (with_reducible refine (hrd.out _ (HE.out.ext hext)).mono ?_); rintro e w2 ⟨⟨n, ok, rfl, hR⟩, hx2⟩)
        have hext2 := hext.trans hx2
        have hown2 := hown.ext hx2
        have hrg2 := hrg'.ext hx2
        clear y0 hext hrd hx2
        replace hown := hown2; replace hrg' := hrg2
        clear hown2 hrg2
        obtain ⟨p, c, rfl, -⟩ := hown.ownC
        cases ok
        · have hno := Lib.hid (hRS.out.xNo hkL hxx2.out (fun h => hR.numl hd6 h.1))
          replace hR := Lib.hid hR
          go_wp2
          go_ret3
          exact ⟨RbR.no _ _ hno.out, hext2⟩
        · rcases hR with ⟨-, m, rfl, hdm, -⟩ | ⟨h, _⟩
          · have hm9 : m ≤ 999999 := dec_six (by rw [← hdm]; exact hd6)
            by_cases hr0 : r = []
            · subst hr0
              by_cases hc1 : cn = 1
              · subst hc1
                have hyes : Hid (RS C s.data.toList (k + 1) m [] ByteArray.empty) := Lib.hid (by
                  have h := hRS.out
                  rw [hdm] at h
                  exact h.xYes hkL hxx2.out)
                replace hdm := Lib.hid hdm
                go_wp2
                go_roundw
                case rel => exact ⟨k + 1, m, [], ByteArray.empty, hlt, by go_num, rfl, rfl, hown, hap, hrg', hext2, hm9, hrC, by decide, hyes⟩
                case measure => simp [intOf]; omega
              · have hno := Lib.hid (hRS.out.xNo hkL hxx2.out (fun h => hc1 h.2.2))
                have hcb : ((cn : Int) != 1) = true := by simp; omega
                replace hdm := Lib.hid hdm
                go_wp2
                go_ret3
                exact ⟨RbR.no _ _ hno.out, hext2⟩
            · have hno := Lib.hid (hRS.out.xNo hkL hxx2.out (fun h => hr0 h.2.1))
              have hr1 : (0 : Int) < r.length := by have := List.length_pos_iff.2 hr0; omega
              replace hdm := Lib.hid hdm
              go_wp2
              go_ret3
              exact ⟨RbR.no _ _ hno.out, hext2⟩
          · cases h
      · by_cases h97 : x = 97 ∨ x = 98
        rcases h97 with hxx | hxx
        · -- 97
          have y0 : wr.cell? ⟨w.heap.size + 1, k, none⟩ = some (.int .u8 97) := by rw [y, hxx]; rfl
          have hxx2 := Lib.hid (hx.trans hxx)
          clear y hxx
          go_upto_region 18 with (go_at_call 26; (with_reducible refine (hrd.out _ (HE.out.ext hext)).mono ?_); rintro e w2 ⟨⟨n, ok, rfl, hR⟩, hx2⟩)
          have hext2 := hext.trans hx2
          have hown2 := hown.ext hx2
          have hrg2 := hrg'.ext hx2
          clear y0 hext hrd hx2
          replace hown := hown2; replace hrg' := hrg2
          clear hown2 hrg2
          cases ok
          · have hno := Lib.hid (hRS.out.abNo hkL hxx2.out (by decide) (fun ⟨m, h1, h2, h3⟩ => hR.numl hd6 (is_dec.1 ⟨m, h1⟩)))
            replace hR := Lib.hid hR
            go_wp2
            go_ret3
            exact ⟨RbR.no _ _ hno.out, hext2⟩
          · rcases hR with ⟨-, m, rfl, hdm, -⟩ | ⟨h, _⟩
            · have hm9 : m ≤ 999999 := dec_six (by rw [← hdm]; exact hd6)
              go_upto_region 18 with (fail)
              by_cases hin : 1 ≤ m ∧ m + r.length ≤ C
              · have hyes : Hid (RS C s.data.toList (k + 1) cn (r ++ repL m [(0 : Int)]) ByteArray.empty) := Lib.hid (by
                  have h := hRS.out
                  rw [hdm] at h
                  exact h.abYes hkL hxx2.out (by decide) hin.1 hin.2)
                have hrp : ∀ W g, IntsAt W (some ⟨g, 0, none⟩) [(0 : Int)] → Calls Tryz.prog 29 #[.slice (some ⟨g, 0, none⟩) 1 1, .int .i64 m] W fun e w' => (∃ q d, e = .returned (.slice q (repL m [(0 : Int)]).length d) ∧ IntsAt w' q (repL m [(0 : Int)])) ∧ Ext W w' := fun W g h => repeat_c (some ⟨g, 0, none⟩) 1 m [(0 : Int)] W h (by simp; omega) (by simp) hm9
                replace hrp := Lib.hid hrp
                have hia := Lib.hid (ints_one w2 (0 : Int))
                have hrl : (r ++ repL m [(0 : Int)]).length ≤ C := by rw [List.length_append, repL_len]; simp; omega
                have hrl2 : (repL m [(0 : Int)]).length ≤ 40000 := by rw [repL_len]; simp; omega
                generalize hRM : repL m [(0 : Int)] = RM at *
                replace hRM := Lib.hid hRM; replace hdm := Lib.hid hdm
                have hC2 := IntWalk.i64_in ((C : Int) - r.length) (by omega)
                obtain ⟨p, c, rfl, -⟩ := hown.ownC
                go_upto_region 20 with (go_at_call 27; (with_reducible refine (inRange_c _ _ _ _).mono ?_); rintro e w' ⟨⟨hP, rfl⟩ | ⟨hP, rfl⟩, rfl⟩ <;> first | (exfalso; omega) | skip)
                have hxa : Ext w2 (w2.alloc (.cells #[.int .i64 0] 2)) := (Ext.refl w2).alloc _
                go_wp2_with (first
                  | (go_at_call 29; (with_reducible refine (hrp.out _ _ hia.out).mono ?_); rintro e w3 ⟨⟨q, d, rfl, hq⟩, hx3⟩; have hx23 := hxa.trans hx3; have hown3 := hown.ext hx23; have hrg3 := hrg'.ext hx23; have hext3 := hext2.trans hx23; have hz3 := hext3.below.size; clear hx3 hxa hia)
                  | (at_builtin; go_loud (refine appendLI hown3 hq (by omega) hz3 ?_ rfl rfl); intro v4 w4 hown4 hg4))
                go_roundw
                case rel => exact ⟨k + 1, cn, r ++ RM, ByteArray.empty, hlt, by go_num, rfl, rfl, hown4, fun q hq4 => (by
                  rcases hg4.own q hq4 with h | h
                  · exact hap q h
                  · have h9 : w.heap.size + 1 < w3.heap.size := (hrg3.lt _ rfl).2
                    omega), hrg3.apartG hg4 (fun q hq4 => by simp [Value.ownBlock] at hq4; subst hq4; exact fun e => hap _ e rfl), hg4.toExt hext3 (fun q hq4 => (hown3.lt q hq4).1), hcn, hrl, by decide, hyes⟩
                case measure => simp [intOf]; omega
              · have hno := Lib.hid (hRS.out.abNo hkL hxx2.out (by decide) (fun ⟨m', h1, h2⟩ => by
                  rw [hdm] at h1
                  rw [dec_inj h1] at hin
                  exact hin h2))
                have hC2 := IntWalk.i64_in ((C : Int) - r.length) (by omega)
                obtain ⟨p, c, rfl, -⟩ := hown.ownC
                replace hdm := Lib.hid hdm
                go_wp2_with (go_at_call 27; (with_reducible refine (inRange_c _ _ _ _).mono ?_); rintro e w' ⟨⟨hP, rfl⟩ | ⟨hP, rfl⟩, rfl⟩ <;> first | (exfalso; omega) | skip)
                go_ret3
                exact ⟨RbR.no _ _ hno.out, hext2⟩
            · cases h
        · -- 98
          have y0 : wr.cell? ⟨w.heap.size + 1, k, none⟩ = some (.int .u8 98) := by rw [y, hxx]; rfl
          have hxx2 := Lib.hid (hx.trans hxx)
          clear y hxx
          go_upto_region 18 with (go_at_call 26; (with_reducible refine (hrd.out _ (HE.out.ext hext)).mono ?_); rintro e w2 ⟨⟨n, ok, rfl, hR⟩, hx2⟩)
          have hext2 := hext.trans hx2
          have hown2 := hown.ext hx2
          have hrg2 := hrg'.ext hx2
          clear y0 hext hrd hx2
          replace hown := hown2; replace hrg' := hrg2
          clear hown2 hrg2
          cases ok
          · have hno := Lib.hid (hRS.out.abNo hkL hxx2.out (by decide) (fun ⟨m, h1, h2, h3⟩ => hR.numl hd6 (is_dec.1 ⟨m, h1⟩)))
            replace hR := Lib.hid hR
            go_wp2
            go_ret3
            exact ⟨RbR.no _ _ hno.out, hext2⟩
          · rcases hR with ⟨-, m, rfl, hdm, -⟩ | ⟨h, _⟩
            · have hm9 : m ≤ 999999 := dec_six (by rw [← hdm]; exact hd6)
              go_upto_region 18 with (fail)
              by_cases hin : 1 ≤ m ∧ m + r.length ≤ C
              · have hyes : Hid (RS C s.data.toList (k + 1) cn (r ++ repL m [(1 : Int)]) ByteArray.empty) := Lib.hid (by
                  have h := hRS.out
                  rw [hdm] at h
                  exact h.abYes hkL hxx2.out (by decide) hin.1 hin.2)
                have hrp : ∀ W g, IntsAt W (some ⟨g, 0, none⟩) [(1 : Int)] → Calls Tryz.prog 29 #[.slice (some ⟨g, 0, none⟩) 1 1, .int .i64 m] W fun e w' => (∃ q d, e = .returned (.slice q (repL m [(1 : Int)]).length d) ∧ IntsAt w' q (repL m [(1 : Int)])) ∧ Ext W w' := fun W g h => repeat_c (some ⟨g, 0, none⟩) 1 m [(1 : Int)] W h (by simp; omega) (by simp) hm9
                replace hrp := Lib.hid hrp
                have hia := Lib.hid (ints_one w2 (1 : Int))
                have hrl : (r ++ repL m [(1 : Int)]).length ≤ C := by rw [List.length_append, repL_len]; simp; omega
                have hrl2 : (repL m [(1 : Int)]).length ≤ 40000 := by rw [repL_len]; simp; omega
                generalize hRM : repL m [(1 : Int)] = RM at *
                replace hRM := Lib.hid hRM; replace hdm := Lib.hid hdm
                have hC2 := IntWalk.i64_in ((C : Int) - r.length) (by omega)
                obtain ⟨p, c, rfl, -⟩ := hown.ownC
                go_upto_region 20 with (go_at_call 27; (with_reducible refine (inRange_c _ _ _ _).mono ?_); rintro e w' ⟨⟨hP, rfl⟩ | ⟨hP, rfl⟩, rfl⟩ <;> first | (exfalso; omega) | skip)
                have hxa : Ext w2 (w2.alloc (.cells #[.int .i64 1] 2)) := (Ext.refl w2).alloc _
                go_wp2_with (first
                  | (go_at_call 29; (with_reducible refine (hrp.out _ _ hia.out).mono ?_); rintro e w3 ⟨⟨q, d, rfl, hq⟩, hx3⟩; have hx23 := hxa.trans hx3; have hown3 := hown.ext hx23; have hrg3 := hrg'.ext hx23; have hext3 := hext2.trans hx23; have hz3 := hext3.below.size; clear hx3 hxa hia)
                  | (at_builtin; go_loud (refine appendLI hown3 hq (by omega) hz3 ?_ rfl rfl); intro v4 w4 hown4 hg4))
                go_roundw
                case rel => exact ⟨k + 1, cn, r ++ RM, ByteArray.empty, hlt, by go_num, rfl, rfl, hown4, fun q hq4 => (by
                  rcases hg4.own q hq4 with h | h
                  · exact hap q h
                  · have h9 : w.heap.size + 1 < w3.heap.size := (hrg3.lt _ rfl).2
                    omega), hrg3.apartG hg4 (fun q hq4 => by simp [Value.ownBlock] at hq4; subst hq4; exact fun e => hap _ e rfl), hg4.toExt hext3 (fun q hq4 => (hown3.lt q hq4).1), hcn, hrl, by decide, hyes⟩
                case measure => simp [intOf]; omega
              · have hno := Lib.hid (hRS.out.abNo hkL hxx2.out (by decide) (fun ⟨m', h1, h2⟩ => by
                  rw [hdm] at h1
                  rw [dec_inj h1] at hin
                  exact hin h2))
                have hC2 := IntWalk.i64_in ((C : Int) - r.length) (by omega)
                obtain ⟨p, c, rfl, -⟩ := hown.ownC
                replace hdm := Lib.hid hdm
                go_wp2_with (go_at_call 27; (with_reducible refine (inRange_c _ _ _ _).mono ?_); rintro e w' ⟨⟨hP, rfl⟩ | ⟨hP, rfl⟩, rfl⟩ <;> first | (exfalso; omega) | skip)
                go_ret3
                exact ⟨RbR.no _ _ hno.out, hext2⟩
            · cases h
        · have hdg := Lib.hid (hRS.out.dig hkL hx h120 h97)
          have hez := enc_byte_size x
          have e32 : IntKind.i32.wrap (x.toNat : Int) = (x.toNat : Int) := IntWalk.i32_in _ (by have := byte_256 x; omega)
          have t1 : ((x.toNat : Int) == 120) = false := by simp; intro h; exact h120 (UInt8.toNat_inj.1 (by simpa using (by omega : x.toNat = 120)))
          have t2 : ((x.toNat : Int) == 98) = false := by simp; intro h; exact h97 (.inr (UInt8.toNat_inj.1 (by simpa using (by omega : x.toNat = 98))))
          have t3 : ((x.toNat : Int) == 97) = false := by simp; intro h; exact h97 (.inl (UInt8.toNat_inj.1 (by simpa using (by omega : x.toNat = 97))))
          generalize hEE : Utf8.encode (x.toNat : Int) = E at *
          have n1 : ¬ 9223372036854775807 < ds.size + E.size := by omega
          replace hx := Lib.hid hx
          clear h120 h97 hrd
          generalize (x.toNat : Int) = xn at *
          obtain ⟨p, c, rfl, -⟩ := hown.ownC
          by_cases h6 : (ds ++ E).size ≤ 6
          · have hyes : Hid (RS C s.data.toList (k + 1) cn r (ds ++ E)) := Lib.hid (by have h := hdg.out; rw [if_pos h6] at h; exact h)
            have h6i : ¬ (6 : Int) < ds.size + E.size := by rw [ByteArray.size_append] at h6; omega
            go_wp2
            go_roundw
            case rel => exact ⟨k + 1, cn, r, ds ++ E, hlt, by go_num, rfl, rfl, hown, hap, hrg', hext, hcn, hrC, h6, hyes⟩
            case measure => simp [intOf]; omega
          · have hno := Lib.hid (by have h := hdg.out; rw [if_neg h6] at h; exact h)
            have h6i : (6 : Int) < ds.size + E.size := by rw [ByteArray.size_append] at h6; omega
            go_wp2
            go_ret3
            exact ⟨RbR.no _ _ hno.out, hext⟩
    · obtain rfl : k = s.size := by omega
      have hdone := Lib.hid (hRS.out.done hsl.symm)
      obtain ⟨p, c, rfl, -⟩ := hown.ownC
      by_cases hd0 : ds.size = 0
      · have e0 : ds = ByteArray.empty := ByteArray.ext (Array.eq_empty_of_size_eq_zero hd0)
        subst e0
        by_cases hrl : r.length = C
        · have hyes := Lib.hid (by have h := hdone.out; rw [if_pos ⟨rfl, hrl⟩] at h; exact h)
          have hri : ((r.length : Int) == (C : Int)) = true := by simp; omega
          replace hrl := Lib.hid hrl
          go_wp2
          go_ret3
          exact ⟨.inl ⟨cn, r, _, rfl, hown, hyes.out, hcn⟩, hext⟩
        · have hno := Lib.hid (by have h := hdone.out; rw [if_neg (fun hh => hrl hh.2)] at h; exact h)
          have hri : ((r.length : Int) == (C : Int)) = false := by simp; omega
          go_wp2
          go_ret3
          exact ⟨RbR.no _ _ hno.out, hext⟩
      · have hno := Lib.hid (by have h := hdone.out; rw [if_neg (fun hh => hd0 hh.1)] at h; exact h)
        have hne : ¬ ds.toList = [] := fun h => by
          rw [ByteArray.toList_eq] at h
          have h2 := len_size ds
          rw [h] at h2
          exact hd0 h2.symm
        go_wp2
        go_ret3
        exact ⟨RbR.no _ _ hno.out, hext⟩
end Go.Proofs.YthpnkcamjcohgaaGreatDoor
