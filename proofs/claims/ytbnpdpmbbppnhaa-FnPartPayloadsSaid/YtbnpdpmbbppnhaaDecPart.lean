
/- A part that is read from its payload. -/
import Derived.Test.YtbnpdpmbbppnhaaBack
import Derived.Test.YtbnpdpmbbppnhaaEncPart
namespace Go.Proofs.Ytbnpdpmbbppnhaa
set_option linter.unusedVariables false
set_option linter.unusedSimpArgs false
open Go.RowKit

/-- The bits of an encoded part are read back. -/
theorem part_back {p k q i n y : Int} {t : ByteArray} {cap : Int} (h : edC p k q i n y t cap = 0) :
    fldOK p k q ∧ partOK i n y t ∧ (1 ≤ cap ∧ cap ≤ 1500) ∧ (edL p k q i n y t cap).length = cap.toNat ∧ ebC p k q (edL p k q i n y t cap) = 0 ∧
    ∃ B : List Int, ebL p k q (edL p k q i n y t cap) = B ∧ (∀ x ∈ B, x = 0 ∨ x = 1) ∧ 17 ≤ B.length ∧ B.length ≤ 8192 ∧ numAt B 0 3 = 5 ∧ numAt B 3 3 = i ∧ numAt B 6 3 = n - 1 ∧ numAt B 9 8 = y ∧ segsR B (B.length + 1) 17 0 = (bests t t.size, 0) := by
  have hc := h
  unfold edC at h
  split at h
  · omega
  split at h
  · omega
  split at h
  · omega
  · rename_i h1 h2 h3
    have h1 := Classical.not_not.1 h1
    have h2 := Classical.not_not.1 h2
    obtain ⟨_, hl⟩ := ed_0 h1 h2 h3
    obtain ⟨hpk, hcap⟩ := h2
    obtain ⟨hn, hi, hy, ht⟩ := hpk
    obtain ⟨hs, hk⟩ := fldSize_bd h1
    have hbd := fW_bd hs
    have hpl := partL_len i n y t
    have hp : (padL (partL i n y t) (cap * fW (fldSize p k)).toNat).length = (cap * fW (fldSize p k)).toNat := padL_len (by omega)
    have hbit := padL_bit (room := (cap * fW (fldSize p k)).toNat) (partL_bit i n y t)
    have hcw : (cap * fW (fldSize p k)).toNat = cap.toNat * fW (fldSize p k) := by
      rw [Int.toNat_mul (by omega) (by omega), Int.toNat_natCast]
    have hr : (cap * fW (fldSize p k)).toNat ≤ 8192 := by omega
    have hcl := cell_len_bd t ht
    have h17 : 17 ≤ (cap * fW (fldSize p k)).toNat := by omega
    obtain ⟨e1, e2⟩ := eb_elems h1 hbit (by rw [hp, hcw]) (n := cap.toNat) (by omega) (by rw [hp]; exact hr)
    have e3 := (elems_back hbit hbd.1 (by rw [hp, hcw])).1
    rw [hl]
    have hO := bests_ok t t.size (Nat.le_refl _)
    have hj := joined_bests0 t
    have hsg := segs_pad (L := bests t t.size) (pre := headL i n y) (room := (cap * fW (fldSize p k)).toNat) (f := (padL (partL i n y t) (cap * fW (fldSize p k)).toNat).length + 1) hO (by rw [hj]; exact ht) (by
      have h4 := mBits_long (bests t t.size)
      have h5 : (mBits (bests t t.size)).length ≤ (padL (partL i n y t) (cap * fW (fldSize p k)).toNat).length := by unfold padL partL; simp only [List.length_append]; omega
      omega)
    rw [headL_len] at hsg
    have e4 : partL i n y t = bitsOf 5 3 ++ (bitsOf i 3 ++ (bitsOf (n - 1) 3 ++ (bitsOf y 8 ++ mBits (bests t t.size)))) := by
      unfold partL headL
      simp only [List.append_assoc]
    obtain ⟨p0, hp0⟩ : ∃ p0, padL (partL i n y t) (cap * fW (fldSize p k)).toNat = partL i n y t ++ p0 := ⟨List.replicate (min ((cap * fW (fldSize p k)).toNat - (partL i n y t).length) 3) 0 ++ patL ((cap * fW (fldSize p k)).toNat - (partL i n y t).length - 3), List.append_assoc ..⟩
    have hB : ∃ post, padL (partL i n y t) (cap * fW (fldSize p k)).toNat = bitsOf 5 3 ++ (bitsOf i 3 ++ (bitsOf (n - 1) 3 ++ (bitsOf y 8 ++ post))) := ⟨mBits (bests t t.size) ++ p0, by rw [hp0, e4]; simp only [List.append_assoc]⟩
    obtain ⟨post, hB⟩ := hB
    refine ⟨h1, ⟨hn, hi, hy, ht⟩, hcap, e3, e1, _, e2, hbit, by rw [hp]; exact h17, by rw [hp]; exact hr, ?_, ?_, ?_, ?_, hsg⟩
    · have := numAt_mid [] (bitsOf i 3 ++ (bitsOf (n - 1) 3 ++ (bitsOf y 8 ++ post))) 5 3 (by decide)
      rw [hB]
      exact this
    · have := numAt_mid (bitsOf 5 3) (bitsOf (n - 1) 3 ++ (bitsOf y 8 ++ post)) i 3 ⟨by omega, by show i < 8; omega⟩
      rw [bitsOf_len] at this
      rw [hB]
      exact this
    · have := numAt_mid (bitsOf 5 3 ++ bitsOf i 3) (bitsOf y 8 ++ post) (n - 1) 3 ⟨by omega, by show n - 1 < 8; omega⟩
      rw [List.length_append, bitsOf_len, bitsOf_len, List.append_assoc] at this
      rw [hB]
      exact this
    · have := numAt_mid (bitsOf 5 3 ++ (bitsOf i 3 ++ bitsOf (n - 1) 3)) post y 8 ⟨by omega, by show y < 256; omega⟩
      rw [List.length_append, List.length_append, bitsOf_len, bitsOf_len, bitsOf_len, List.append_assoc, List.append_assoc] at this
      rw [hB]
      exact this
set_option maxHeartbeats 800000 in
set_option maxRecDepth 100000 in
theorem decodePart_c (p k q : Int) (pt : Option Addr) (c : Nat) (xs B : List Int) (i n y : Int) (t : ByteArray) (w : World) (hx : IntsAt w pt xs) (hl : xs.length ≤ 1048576) (hok : partOK i n y t) (hC : ebC p k q xs = 0) (hB : ebL p k q xs = B)
    (hb : ∀ x ∈ B, x = 0 ∨ x = 1) (h17 : 17 ≤ B.length) (h8192 : B.length ≤ 8192) (n0 : numAt B 0 3 = 5) (n3 : numAt B 3 3 = i) (n6 : numAt B 6 3 = n - 1) (n9 : numAt B 9 8 = y) (hS : segsR B (B.length + 1) 17 0 = (bests t t.size, 0)) :
    Calls Try.prog 24 #[vFld p k q, .slice pt xs.length c] w fun e w' => e = .returned (.tuple #[vPart i n y t, .int .i64 0]) ∧ Ext w w' := by
  obtain ⟨hn, hi, hy, ht⟩ := hok
  have HX := Lib.hid hx; clear hx
  have heb := Lib.hid (fun W (h : IntsAt W pt xs) => iElemBits_c p k q pt c xs W h hl)
  rw [hC, hB] at heb
  clear hC hB
  have hn0 : Hid (∀ (p1 : Option Addr) (c1 : Nat) (W : World), IntsAt W p1 B → B.length ≤ c1 → Calls Try.prog 100 #[.slice p1 B.length c1, .int .i64 0, .int .i64 3] W fun e w' => e = .returned (.int .i64 (numAt B 0 3)) ∧ W = w') := Lib.hid (fun p1 c1 W h hc => numberAt_c p1 c1 B 0 3 W h hc (by omega) hb (by omega) (by omega))
  have hn3 : Hid (∀ (p1 : Option Addr) (c1 : Nat) (W : World), IntsAt W p1 B → B.length ≤ c1 → Calls Try.prog 100 #[.slice p1 B.length c1, .int .i64 3, .int .i64 3] W fun e w' => e = .returned (.int .i64 (numAt B 3 3)) ∧ W = w') := Lib.hid (fun p1 c1 W h hc => numberAt_c p1 c1 B 3 3 W h hc (by omega) hb (by omega) (by omega))
  have hn6 : Hid (∀ (p1 : Option Addr) (c1 : Nat) (W : World), IntsAt W p1 B → B.length ≤ c1 → Calls Try.prog 100 #[.slice p1 B.length c1, .int .i64 6, .int .i64 3] W fun e w' => e = .returned (.int .i64 (numAt B 6 3)) ∧ W = w') := Lib.hid (fun p1 c1 W h hc => numberAt_c p1 c1 B 6 3 W h hc (by omega) hb (by omega) (by omega))
  have hn9 : Hid (∀ (p1 : Option Addr) (c1 : Nat) (W : World), IntsAt W p1 B → B.length ≤ c1 → Calls Try.prog 100 #[.slice p1 B.length c1, .int .i64 9, .int .i64 8] W fun e w' => e = .returned (.int .i64 (numAt B 9 8)) ∧ W = w') := Lib.hid (fun p1 c1 W h hc => numberAt_c p1 c1 B 9 8 W h hc (by omega) hb (by omega) (by omega))
  have hrs : Hid (∀ (p1 : Option Addr) (c1 : Nat) (W : World), IntsAt W p1 B → B.length ≤ c1 → Calls Try.prog 79 #[.slice p1 B.length c1, .int .i64 17] W fun e w' => SC W.heap.size (segsR B (B.length + 1) 17 0) e w' ∧ Ext W w') := Lib.hid (fun p1 c1 W h hc => iReadSegs_c p1 c1 B 17 W h hc (by omega) hb h17)
  rw [n0] at hn0
  rw [n3] at hn3
  rw [n6] at hn6
  rw [n9] at hn9
  rw [hS] at hrs
  have hO := bests_ok t t.size (Nat.le_refl _)
  have hj := joined_bests0 t
  have hbl : (bests t t.size).length ≤ 400 := by
    have := joined_len _ hO
    rw [hj] at this
    omega
  have hjn := Lib.hid (fun p1 c1 W (h : SAt segF 2 W p1 (bests t t.size)) => iJoined_c p1 c1 (bests t t.size) W h hO hbl)
  rw [hj] at hjn
  clear n0 n3 n6 n9 hS hO hj hb
  generalize bests t t.size = L at *
  have h17i : (17 : Int) ≤ B.length := by omega
  have e1 := IntWalk.i64_in (n - 1 + 1) (by omega)
  have e2 : n - 1 + 1 = n := by omega
  rw [e2] at e1
  have hfld := Blk.new w #[.int .i64 p, .int .i64 k, .int .i64 q] 25
  have hres := Blk.new (w.alloc (.cells #[.int .i64 p, .int .i64 k, .int .i64 q] 25)) #[.int .i64 0, .int .i64 0, .int .i64 0, .string ⟨#[]⟩] 36
  have hx0 : Ext w ((w.alloc (.cells #[.int .i64 p, .int .i64 k, .int .i64 q] 25)).alloc (.cells #[.int .i64 0, .int .i64 0, .int .i64 0, .string ⟨#[]⟩] 36)) := ((Ext.refl w).alloc _).alloc _
  simp only [World.size_alloc] at hres
  go_enter Try.func24, Try.ntmps24
  go_wp2_with fail
  generalize (w.alloc (.cells #[.int .i64 p, .int .i64 k, .int .i64 q] 25)).alloc (.cells #[.int .i64 0, .int .i64 0, .int .i64 0, .string ⟨#[]⟩] 36) = w0 at *
  refine (heb.out _ (HX.out.ext hx0)).mono ?_
  rintro e w1 ⟨⟨p1, c1, rfl, oq1, hc1⟩, hx1⟩
  have hc1i : (B.length : Int) ≤ c1 := by omega
  have oq1 := Lib.hid oq1.ints
  have hres1 := hres.ext hx1
  have hl1 := hres1.lt
  have hx01 := hx0.trans hx1
  have hz01 := hx01.below.size
  clear hres hx0 hx1
  have hpb := Blk.new w1 #[.int .i64 0, .int .i64 1, .int .i64 0, .string ⟨#[]⟩] 36
  have hpx : Ext w1 (w1.alloc (.cells #[.int .i64 0, .int .i64 1, .int .i64 0, .string ⟨#[]⟩] 36)) := (Ext.refl w1).alloc _
  go_wp2_with fail
  generalize w1.alloc (.cells #[.int .i64 0, .int .i64 1, .int .i64 0, .string ⟨#[]⟩] 36) = w2 at *
  generalize hxx : w1.heap.size = x at *
  replace hxx := Lib.hid hxx
  have oq2 := Lib.hid (oq1.out.ext hpx)
  have hres2 := hres1.ext hpx
  have hx02 := hx01.trans hpx
  have x0 := hpb.cell (i := 0) (v := .int .i64 0) rfl; have x1 := hpb.cell (i := 1) (v := .int .i64 1) rfl; have x2 := hpb.cell (i := 2) (v := .int .i64 0) rfl; have x3 := hpb.cell (i := 3) (v := .string ⟨#[]⟩) rfl; have xf := hpb.free; have xl := hpb.lt
  clear hres1 hx01
  go_wp2_with (first
    | (go_at_call 100; (with_reducible refine (hn0.out _ _ _ oq2.out hc1).mono ?_); rintro e w3 ⟨rfl, rfl⟩)
    | (go_at_call 100; (with_reducible refine (hn3.out _ _ _ oq2.out hc1).mono ?_); rintro e w3 ⟨rfl, rfl⟩)
    | (go_at_call 100; (with_reducible refine (hn6.out _ _ _ oq2.out hc1).mono ?_); rintro e w3 ⟨rfl, rfl⟩)
    | (go_at_call 100; (with_reducible refine (hn9.out _ _ _ oq2.out hc1).mono ?_); rintro e w3 ⟨rfl, rfl⟩))
  have hpb3 := (((hpb.set 0 (.int .i64 i)).set 1 (.int .i64 n)).set 2 (.int .i64 y)).set 3 (.string ⟨#[]⟩)
  have hne : w.heap.size + 1 ≠ x := by omega
  have hres3 := (((hres2.far hne (i := 0) (.int .i64 i)).far hne (i := 1) (.int .i64 n)).far hne (i := 2) (.int .i64 y)).far hne (i := 3) (.string ⟨#[]⟩)
  have hx1x : w1.heap.size ≤ x := by rw [hxx.out]; exact Nat.le_refl _
  have hwx : w.heap.size ≤ x := by omega
  have hx13 := (((hpx.setCell (p := ⟨x, 0, none⟩) hx1x (.int .i64 i)).setCell (p := ⟨x, 1, none⟩) hx1x (.int .i64 n)).setCell (p := ⟨x, 2, none⟩) hx1x (.int .i64 y)).setCell (p := ⟨x, 3, none⟩) hx1x (.string ⟨#[]⟩)
  have hx03 := (((hx02.setCell (p := ⟨x, 0, none⟩) hwx (.int .i64 i)).setCell (p := ⟨x, 1, none⟩) hwx (.int .i64 n)).setCell (p := ⟨x, 2, none⟩) hwx (.int .i64 y)).setCell (p := ⟨x, 3, none⟩) hwx (.string ⟨#[]⟩)
  have oq3 := Lib.hid (oq1.out.ext hx13)
  clear x0 x1 x2 x3 xf xl hpb hres2 oq2 oq1 hx13 hx02 hpx
  generalize (((w2.setCell ⟨x, 0, none⟩ (.int .i64 i)).setCell ⟨x, 1, none⟩ (.int .i64 n)).setCell ⟨x, 2, none⟩ (.int .i64 y)).setCell ⟨x, 3, none⟩ (.string ⟨#[]⟩) = w3 at *
  refine (hrs.out _ _ _ oq3.out hc1).mono ?_
  rintro e w4 ⟨⟨v, rfl, hrow⟩, hx4⟩
  obtain ⟨p4, c4, rfl, ho⟩ := hrow.own segF_len
  replace ho := Lib.hid ho.sat
  clear hrow
  go_wp2_with fail
  refine (hjn.out _ _ _ ho.out).mono ?_
  rintro e w5 ⟨rfl, hx5⟩
  have hpb5 : Blk w5 x #[.int .i64 i, .int .i64 n, .int .i64 y, .string ⟨#[]⟩] 36 := (hpb3.ext hx4).ext hx5
  have hres5 := (hres3.ext hx4).ext hx5
  have hx05 := (hx03.trans hx4).trans hx5
  have x0 := hpb5.cell (i := 0) (v := .int .i64 i) rfl; have x1 := hpb5.cell (i := 1) (v := .int .i64 n) rfl; have x2 := hpb5.cell (i := 2) (v := .int .i64 y) rfl; have x3 := hpb5.cell (i := 3) (v := .string ⟨#[]⟩) rfl; have xf := hpb5.free; have xl := hpb5.lt
  have r0 := hres5.cell (i := 0) (v := .int .i64 0) rfl; have r1 := hres5.cell (i := 1) (v := .int .i64 0) rfl; have r2 := hres5.cell (i := 2) (v := .int .i64 0) rfl; have r3 := hres5.cell (i := 3) (v := .string ⟨#[]⟩) rfl; have rf := hres5.free; have rl := hres5.lt
  go_wp2_with fail
  have hF := ((((hres5.far hne (i := 3) (.string t)).set 0 (.int .i64 i)).set 1 (.int .i64 n)).set 2 (.int .i64 y)).set 3 (.string t)
  have c0 := hF.cell (i := 0) (v := .int .i64 i) rfl; have c1 := hF.cell (i := 1) (v := .int .i64 n) rfl; have c2 := hF.cell (i := 2) (v := .int .i64 y) rfl; have c3 := hF.cell (i := 3) (v := .string t) rfl
  have hfin := ((((hx05.setCell (p := ⟨x, 3, none⟩) hwx (.string t)).setCell (p := ⟨w.heap.size + 1, 0, none⟩) (Nat.le_succ _) (.int .i64 i)).setCell (p := ⟨w.heap.size + 1, 1, none⟩) (Nat.le_succ _) (.int .i64 n)).setCell (p := ⟨w.heap.size + 1, 2, none⟩) (Nat.le_succ _) (.int .i64 y)).setCell (p := ⟨w.heap.size + 1, 3, none⟩) (Nat.le_succ _) (.string t)
  clear x0 x1 x2 x3 xf xl r0 r1 r2 r3 rf rl
  exact bodyPost_ret (v := .tuple #[vPart i n y t, .int .i64 0]) (by simp [results, Try.results24, go_sem, c0, c1, c2, c3, vPart]) rfl ⟨rfl, hfin⟩
end Go.Proofs.Ytbnpdpmbbppnhaa
