/- ReadJob, the program's side. -/
import Derived.Test.YthpnkcamjcohgaaGreatDoorLJoinedJobsK37
import Derived.Test.YthpnkcamjcohgaaGreatDoorLJoinedJobsK39
import Derived.Test.YthpnkcamjcohgaaGreatDoorLJoinedJobsK30
namespace Go.Proofs.YthpnkcamjcohgaaGreatDoor
set_option linter.unusedVariables false
set_option linter.unusedSimpArgs false
open Go.RowKit

theorem spl_count (y : UInt8) : ∀ l, (spl y l).length = l.count y + 1
  | [] => rfl
  | b :: l => by
    have ih := spl_count y l
    unfold spl
    by_cases h : b = y
    · rw [if_pos h, h, List.count_cons_self, List.length_cons, ih]
    · rw [if_neg h, List.count_cons_of_ne h]
      split
      · rename_i a t e
        rw [e] at ih
        exact ih
      · rename_i e
        exact absurd e (spl_ne y l)
theorem splitA (y : UInt8) (s : ByteArray) : (Lib.splitB ⟨#[y]⟩ 0 (Lib.countB s ⟨#[y]⟩) s).map (·.data.toList) = spl y s.data.toList := by
  rw [Lib.splitB_data]
  refine (splitK_spl y _ _).1 ?_
  have h : Lib.countB s ⟨#[y]⟩ = s.data.toList.count y := Lib.count_one y _
  rw [spl_count, h]
  exact Nat.le_refl _
/-- The library's cut of a string at a byte, whole. -/
def SpE (y : UInt8) (s : ByteArray) (e : Ending) (w' : World) : Prop := ∃ (g c : Nat) (ps : List ByteArray), e = .returned (.slice (some ⟨g, 0, none⟩) ps.length c) ∧ ps.length ≤ c ∧ ps.map (·.data.toList) = spl y s.data.toList ∧ SAt wdF 1 w' (some ⟨g, 0, none⟩) ps
theorem split_c (s : ByteArray) (y : UInt8) (w : World) (hs : s.size ≤ 1048576) (hM : MaxC w) :
    Calls Tryz.prog 25 #[.string s, .string ⟨#[y]⟩] w fun e w' => SpE y s e w' ∧ Ext w w' := by
  obtain ⟨m, hm⟩ := hM
  refine (Tryz.strings_Split s ⟨#[y]⟩ m w (by omega) hm (Nat.le_refl 1)).mono ?_
  rintro e w' ⟨rfl, rfl⟩
  have hl := Lib.splitB_all ⟨#[y]⟩ (Nat.le_refl 1) 0 _ s rfl
  have hm := splitA y s
  generalize Lib.splitB ⟨#[y]⟩ 0 (Lib.countB s ⟨#[y]⟩) s = ps at *
  refine ⟨⟨w.heap.size, _, ps, by rw [hl], by rw [hl]; exact Nat.le_refl _, hm, fun i hi => ⟨_, _, rfl, by simp, fun j v hv => ?_⟩⟩, (Ext.refl w).alloc _⟩
  have hj : j = 0 := by
    have := (List.getElem?_eq_some_iff.1 hv).1
    simp [wdF] at this
    exact this
  subst hj
  have hv2 : v = .string (ps[i]'hi) := by simpa [wdF] using hv.symm
  subst hv2
  have : (w.alloc (.cells (ps.map Value.string).toArray 9)).heap[w.heap.size]? = some (.cells (ps.map Value.string).toArray 9) := (MapKept.heap_alloc w _).1
  simp only [World.cell?, this]
  show ((ps.map Value.string).toArray)[0 + i * 1 + 0]? = _
  rw [show 0 + i * 1 + 0 = i by omega]
  simp [hi]
/-- A grid stored into its block. -/
def setGr (w : World) (g : Nat) (r c : Int) (v : Value) : World := ((w.setCell ⟨g, 0, none⟩ (.int .i64 r)).setCell ⟨g, 1, none⟩ (.int .i64 c)).setCell ⟨g, 2, none⟩ v
theorem Blk.gr {w : World} {g : Nat} {t : TypeId} {r0 c0 : Int} {v0 : Value} (h : Blk w g #[.int .i64 r0, .int .i64 c0, v0] t) (r c : Int) (v : Value) : Blk (setGr w g r c v) g #[.int .i64 r, .int .i64 c, v] t := by
  have h0 : Blk (w.setCell ⟨g, 0, none⟩ (.int .i64 r)) g #[.int .i64 r, .int .i64 c0, v0] t := h.set 0 _
  have h1 : Blk ((w.setCell ⟨g, 0, none⟩ (.int .i64 r)).setCell ⟨g, 1, none⟩ (.int .i64 c)) g #[.int .i64 r, .int .i64 c, v0] t := h0.set 1 _
  exact h1.set 2 _
theorem Ext.gr {b w : World} (h : Ext b w) {g : Nat} (hg : b.heap.size ≤ g) (r c : Int) (v : Value) : Ext b (setGr w g r c v) :=
  ((h.setCell (p := ⟨g, 0, none⟩) hg _).setCell (p := ⟨g, 1, none⟩) hg _).setCell (p := ⟨g, 2, none⟩) hg _
theorem jobOK.short {s : ByteArray} {ps : List ByteArray} {R C : Nat} {xs : List Int} (h : jobOK s R C xs) (hm : ps.map (·.data.toList) = spl 10 s.data.toList) : 4 ≤ ps.length := by
  obtain ⟨hok, rfl, _⟩ := h
  have := congrArg List.length hm
  rw [job_spl hok] at this
  have h2 := bands_pos C xs hok.r1
  simp [linesT_len] at this
  omega
theorem jobOK.parts {s p0 pe pz : ByteArray} {bl : List ByteArray} {R C : Nat} {xs : List Int} (h : jobOK s R C xs) (hm : (p0 :: (bl ++ [pe, pz])).map (·.data.toList) = spl 10 s.data.toList) :
    spl 32 p0.data.toList = [pgW, (dec R).data.toList, (dec C).data.toList] ∧ pe.data.toList = enW ∧ pz.data.toList = [] ∧ 1 ≤ bl.length ∧ ∀ m, rowsJ m R C (bl.map (·.data.toList)) = some xs := by
  obtain ⟨hok, rfl, _⟩ := h
  rw [job_spl hok, List.map_cons, List.map_append] at hm
  simp only [List.cons.injEq] at hm
  obtain ⟨h1, h2⟩ := hm
  obtain ⟨h3, h4⟩ := List.append_inj' h2 (by simp)
  simp only [List.map_cons, List.map_nil, List.cons.injEq, and_true] at h4
  refine ⟨by rw [h1]; exact head_spl R C, h4.1, h4.2, ?_, fun m => by rw [h3]; exact rows_all m hok (bandsTo_ok C xs R)⟩
  have := congrArg List.length h3
  rw [List.length_map, linesT_len] at this
  have h5 := bands_pos C xs hok.r1
  omega
theorem slice_win {g c l h : Nat} (hlh : l ≤ h) (hh : h ≤ c) (hl : l < c) (hl0 : 0 < l) (n : Nat) (W : World) : (Instr.slice 48 (.slice (some ⟨g, 0, none⟩) n c) (some (.int .i64 (l : Int))) (some (.int .i64 (h : Int))) none).run Tryz.prog W = .ok (.slice (some ⟨g, l, none⟩) (h - l) (c - l)) W := by
  have hz : ∀ w, (Go.sizeOf 9).run Tryz.prog w = .ok 1 w := fun w => by kernel_rfl
  have he : Tryz.prog.elem 48 = 9 := by kernel_rfl
  rw [run_slice_lh W 48 _ _ _ (by rw [he]; exact Tryz.underlying48) .i64 .i64 _ _ (by omega) (by omega) (by omega), he, hz]
  have hne : ¬ c = l := by omega
  have h0 : ¬ l = 0 := by omega
  simp [Result.andThen, sliced, Addr.add, hne, h0]
theorem Blk.grewJ {w w' : World} {v v' : Value} {g : Nat} {cs : Array Value} {t : TypeId} (h : Blk w g cs t) (k : Grew v w w' v') (hne : v.ownBlock ≠ some g) : Blk w' g cs t := (k.by_.block g h.lt (fun e => hne e.symm)).trans h
theorem three_of {α : Type} {l : List α} (h : l.length = 3) : ∃ a b c, l = [a, b, c] := by
  match l, h with
  | [a, b, c], _ => exact ⟨a, b, c, rfl⟩
theorem list_ends {α : Type} {l : List α} (h : 2 ≤ l.length) : ∃ (bl : List α) (pe pz : α), l = bl ++ [pe, pz] := by
  obtain ⟨m, z, rfl⟩ : ∃ m z, l = m ++ [z] := ⟨l.dropLast, l.getLast (by intro e; rw [e] at h; simp at h), (List.dropLast_concat_getLast _).symm⟩
  have hm : m ≠ [] := by intro e; rw [e] at h; simp at h
  refine ⟨m.dropLast, m.getLast hm, z, ?_⟩
  conv => lhs; rw [← List.dropLast_concat_getLast hm]
  simp
section
variable {Q : Exit → Act → World → Prop} {K : Act → World → Prop} {a : Act} {dst : Option Tmp} {s x : Operand} {ty : TypeId} {pos : String} {after : Array Edge} {B c : Nat} {w0 : World} {v : Value} {xs ys : List Int} {p : Option Addr}
theorem appendLI_opJ (hown : RowI B w0 v xs) (hy : IntsAt w0 p ys) (hlen : xs.length + ys.length < 1099511627776) (hB : B ≤ w0.heap.size)
    (h : ∀ v' w', RowI B w' v' (xs ++ ys) → Grew v w0 w' v' → K (a.put dst v') w') (hs : a.eval s = v) (hx : a.eval x = .slice p ys.length c) :
    Oper.wp Tryz.prog ⟨dst, .call { callee := .builtin .append, args := #[s, x], argTypes := #[28, 28] }, ty, pos, after, none⟩ a w0 K Q := by
  obtain ⟨v', w', hr, h2, h3⟩ := run_append_listI (c := c) ty hown hy hlen hB
  unfold Oper.wp execOp
  simp only [resolve, invoke, builtin, Sem.run_bind, Sem.run_pure, Result.andThen_ok, List.map_toArray, List.map_cons, List.map_nil, hs, hx, hr]
  exact h v' w' h2 h3
end
set_option maxHeartbeats 6400000 in
set_option maxRecDepth 100000 in
theorem iReadJob_c (s : ByteArray) (w : World) (hs : s.size ≤ 1048576) (hT : Tab10 w) (hM : MaxC w) (hE : ErrC w) :
    Calls Tryz.prog 9 #[.string s] w fun e w' => RjE w.heap.size s e w' ∧ Ext w w' := by
  have HT := Lib.hid hT; have HM := Lib.hid hM; have HE := Lib.hid hE; clear hT hM hE
  have hb0 := Blk.new w #[.int .i64 0, .int .i64 0, .slice none 0 0] 30
  have hx0 : Ext w (w.alloc (.cells #[.int .i64 0, .int .i64 0, .slice none 0 0] 30)) := (Ext.refl w).alloc _
  have hsp := Lib.hid (fun W (h : MaxC W) => split_c s 10 W hs h)
  by_cases hsz : s.size ≤ 20000
  · have g1 : ¬ (20000 : Int) < s.size := by omega
    go_enter Tryz.func9, Tryz.ntmps9
    go_upto_region 4 with (go_at_call 25; (with_reducible refine (hsp.out _ (HM.out.ext hx0)).mono ?_); rintro e w1 ⟨⟨g, c, ps, rfl, hc, hmap, hsat⟩, hx1⟩)
    have hb1 := hb0.ext hx1
    have hxw := hx0.trans hx1
    obtain ⟨hpz, hpl, hpn⟩ := pieces_le hmap
    clear hx0 hx1 hsp hb0
    have z0 := hb1.cell (i := 0) (v := .int .i64 0) rfl; have z1 := hb1.cell (i := 1) (v := .int .i64 0) rfl; have z2 := hb1.cell (i := 2) (v := .slice none 0 0) rfl; have zl := hb1.lt; have zf := hb1.free
    by_cases h3 : ps.length < 3
    · have hno : Hid (∀ R C xs, ¬ jobOK s R C xs) := Lib.hid (fun R C xs (h : jobOK s R C xs) => absurd (h.short hmap) (by omega))
      have h3i : (ps.length : Int) < 3 := by omega
      replace hmap := Lib.hid hmap
      go_wp2
      have hF := hb1.gr 0 0 (.slice none 0 0)
      have c0 := hF.cell (i := 0) (v := .int .i64 0) rfl; have c1 := hF.cell (i := 1) (v := .int .i64 0) rfl; have c2 := hF.cell (i := 2) (v := .slice none 0 0) rfl
      have hx9 := hxw.gr (g := w.heap.size) (Nat.le_refl _) 0 0 (.slice none 0 0)
      unfold setGr at c0 c1 c2 hx9
      clear z0 z1 z2 zl zf
      exact bodyPost_ret (v := .tuple #[vGrid 0 0 none 0 0, .bool false]) (by simp [results, Tryz.results9, go_sem, c0, c1, c2]) rfl ⟨RjE.no hno.out, hx9⟩
    · obtain ⟨p0, rest, rfl⟩ : ∃ p0 rest, ps = p0 :: rest := by
        cases ps with
        | nil => exact absurd rfl hpn
        | cons a b => exact ⟨a, b, rfl⟩
      obtain ⟨bl, pe, pz, rfl⟩ := list_ends (l := rest) (by simp at h3; omega)
      have hps : (p0 :: (bl ++ [pe, pz])).length = bl.length + 3 := by simp
      obtain ⟨b, hb⟩ : ∃ b, bl.length = b := ⟨_, rfl⟩
      have hparts := Lib.hid (fun R C xs (h : jobOK s R C xs) => h.parts hmap)
      have hz0 : p0.size ≤ s.size := hpz p0 (by simp)
      have hzb : ∀ x ∈ bl, x.size ≤ s.size := fun x hx => hpz x (by simp [hx])
      have y0 := (hsat.wdh (show 0 < (p0 :: (bl ++ [pe, pz])).length by simp)).2
      have ye := (hsat.wdh (show b + 1 < (p0 :: (bl ++ [pe, pz])).length by rw [hps, hb]; omega)).2
      have yz := (hsat.wdh (show b + 2 < (p0 :: (bl ++ [pe, pz])).length by rw [hps, hb]; omega)).2
      have gl := (hsat.wdh (show 0 < (p0 :: (bl ++ [pe, pz])).length by simp)).1
      rw [show (p0 :: (bl ++ [pe, pz]))[b + 1]'(by rw [hps, hb]; omega) = pe by subst hb; simp, Nat.zero_add] at ye
      rw [show (p0 :: (bl ++ [pe, pz]))[b + 2]'(by rw [hps, hb]; omega) = pz by subst hb; simp, Nat.zero_add] at yz
      have y0 : w1.cell? ⟨g, 0, none⟩ = some (.string p0) := y0
      have hbl : SAt wdF 1 w1 (some ⟨g, 1, none⟩) bl := fun i hi => by
        have := hsat (i + 1) (by rw [hps]; omega)
        obtain ⟨b', o', e, hl', hv⟩ := this
        refine ⟨b', o' + 1, ?_, hl', fun j v hj => ?_⟩
        · simp only [Option.some.injEq, Addr.mk.injEq, and_true] at e ⊢
          omega
        · have := hv j v (by
            rw [← hj]
            congr 2
            simp [List.getElem_cons_succ, List.getElem_append_left hi])
          rw [show o' + 1 + i * 1 + j = o' + (i + 1) * 1 + j by omega]
          exact this
      have hbz : b + 3 ≤ 20001 := by rw [hps, hb] at hpl; omega
      rw [hps, hb] at hc ⊢
      replace hbl := Lib.hid hbl; replace hb := Lib.hid hb
      clear hsat hmap hpz hpl hpn h3 hps
      have e1 : IntKind.i64.wrap ((b : Int) + 3 - 1) = ((b + 2 : Nat) : Int) := by rw [IntWalk.i64_in _ (by omega)]; omega
      have e2 : IntKind.i64.wrap ((b : Int) + 3 - 2) = ((b + 1 : Nat) : Int) := by rw [IntWalk.i64_in _ (by omega)]; omega
      have h3n : ¬ (b : Int) + 3 < 3 := by omega
      have h3m : ¬ ((b + 3 : Nat) : Int) < 3 := by omega
      by_cases hez : pz.toList = []
      · by_cases hee : pe.toList = [101, 110, 100]
        · have hee2 : (!(pe.toList == [101, 110, 100])) = false := by simp [hee]
          have hsh := Lib.hid (fun W (h : MaxC W) => split_c p0 32 W (by omega) h)
          go_upto_region 8 with (go_at_call 25; (with_reducible refine (hsh.out _ (HM.out.ext hxw)).mono ?_); rintro e w2 ⟨⟨gq, cq, qs, rfl, hcq, hmq, hsq⟩, hx2⟩)
          have hb2 := hb1.ext hx2
          have hxw2 := hxw.trans hx2
          replace hbl := Lib.hid (fun W (h : Ext w1 W) => hbl.out.ext h)
          have hx12 := hx2
          clear z0 z1 z2 zl zf ye yz y0 e2 hee hee2 hez hb1 hxw hx2
          have z0 := hb2.cell (i := 0) (v := .int .i64 0) rfl; have z1 := hb2.cell (i := 1) (v := .int .i64 0) rfl; have z2 := hb2.cell (i := 2) (v := .slice none 0 0) rfl; have zl := hb2.lt; have zf := hb2.free
          obtain ⟨hqz, hql, -⟩ := pieces_le hmq
          by_cases hq3 : qs.length = 3
          · obtain ⟨a0, a1, a2, rfl⟩ : ∃ a0 a1 a2, qs = [a0, a1, a2] := three_of hq3
            have u0 := (hsq.wdh (show 0 < [a0, a1, a2].length by simp)).2
            have u1 := (hsq.wdh (show 1 < [a0, a1, a2].length by simp)).2
            have u2 := (hsq.wdh (show 2 < [a0, a1, a2].length by simp)).2
            have ul := (hsq.wdh (show 0 < [a0, a1, a2].length by simp)).1
            have u0 : w2.cell? ⟨gq, 0, none⟩ = some (.string a0) := u0
            have u1 : w2.cell? ⟨gq, 1, none⟩ = some (.string a1) := by rw [Nat.zero_add] at u1; exact u1
            have u2 : w2.cell? ⟨gq, 2, none⟩ = some (.string a2) := by rw [Nat.zero_add] at u2; exact u2
            have a1z := hqz a1 (by simp)
            have a2z := hqz a2 (by simp)
            have hhd := Lib.hid (fun R C xs (h : jobOK s R C xs) => by
              have h1 := hmq
              rw [(hparts.out R C xs h).1] at h1
              simp only [List.map_cons, List.map_nil, List.cons.injEq, and_true] at h1
              exact (show a0.data.toList = pgW ∧ a1 = dec R ∧ a2 = dec C from ⟨h1.1, bytes_eqJ h1.2.1, bytes_eqJ h1.2.2⟩))
            replace hmq := Lib.hid hmq
            clear hsq hqz hql hq3
            have hcq3 : 3 ≤ cq := hcq
            have hq3i : (([a0, a1, a2].length : Int) != 3) = false := by simp
            have hq3j : ((3 : Int) != 3) = false := by simp
            by_cases hpg : a0.toList = [112, 97, 103, 101]
            · have hpg2 : (!(a0.toList == [112, 97, 103, 101])) = false := by simp [hpg]
              have hr1 := Lib.hid (fun W (h : ErrC W) => readDecimal_c a1 W (by omega) h)
              have hr2 := Lib.hid (fun W (h : ErrC W) => readDecimal_c a2 W (by omega) h)
              go_upto_region 11 with (go_at_call 26; (with_reducible refine (hr1.out _ (HE.out.ext hxw2)).mono ?_); rintro e w3 ⟨⟨n1, ok1, rfl, hR1⟩, hx3⟩)
              have u2b : w3.cell? ⟨gq, 2, none⟩ = some (.string a2) := by rw [(ecell hx3).1 _ _ ul]; exact u2
              have ulb := (ecell hx3).2.2.1 _ ul
              have hxw3 := hxw2.trans hx3
              replace hR1 := Lib.hid hR1
              go_upto_region 12 with (go_at_call 26; (with_reducible refine (hr2.out _ (HE.out.ext hxw3)).mono ?_); rintro e w4 ⟨⟨n2, ok2, rfl, hR2⟩, hx4⟩)
              have hx24 := hx3.trans hx4
              have hb4 := hb2.ext hx24
              have hxw4 := hxw2.trans hx24
              replace hbl := Lib.hid (fun W (h : Ext w2 W) => hbl.out _ (hx12.trans h))
              clear z0 z1 z2 zl zf u0 u1 u2 u2b ul ulb hb2 hxw2 hxw3 hr1 hr2 hpg hpg2 hx3 hx4
              have z0 := hb4.cell (i := 0) (v := .int .i64 0) rfl; have z1 := hb4.cell (i := 1) (v := .int .i64 0) rfl; have z2 := hb4.cell (i := 2) (v := .slice none 0 0) rfl; have zl := hb4.lt; have zf := hb4.free
              have RET : True := trivial
              cases ok1
              · have hno : Hid (∀ R C xs, ¬ jobOK s R C xs) := Lib.hid (fun R C xs h => (by
                  rcases hR1.out with ⟨h1, _⟩ | ⟨_, h1⟩
                  · cases h1
                  · exact h1 R (by have := h.1.rle; omega) (hhd.out R C xs h).2.1))
                go_wp2
                have hF := hb4.gr 0 0 (.slice none 0 0)
                have c0 := hF.cell (i := 0) (v := .int .i64 0) rfl; have c1 := hF.cell (i := 1) (v := .int .i64 0) rfl; have c2 := hF.cell (i := 2) (v := .slice none 0 0) rfl
                have hx9 := hxw4.gr (g := w.heap.size) (Nat.le_refl _) 0 0 (.slice none 0 0)
                unfold setGr at c0 c1 c2 hx9
                clear z0 z1 z2 zl zf
                exact bodyPost_ret (v := .tuple #[vGrid 0 0 none 0 0, .bool false]) (by simp [results, Tryz.results9, go_sem, c0, c1, c2]) rfl ⟨RjE.no hno.out, hx9⟩
              · cases ok2
                · have hno : Hid (∀ R C xs, ¬ jobOK s R C xs) := Lib.hid (fun R C xs h => (by
                    rcases hR2 with ⟨h1, _⟩ | ⟨_, h1⟩
                    · cases h1
                    · exact h1 C (by have := h.1.cle; omega) (hhd.out R C xs h).2.2))
                  replace hR2 := Lib.hid hR2
                  go_wp2
                  have hF := hb4.gr 0 0 (.slice none 0 0)
                  have c0 := hF.cell (i := 0) (v := .int .i64 0) rfl; have c1 := hF.cell (i := 1) (v := .int .i64 0) rfl; have c2 := hF.cell (i := 2) (v := .slice none 0 0) rfl
                  have hx9 := hxw4.gr (g := w.heap.size) (Nat.le_refl _) 0 0 (.slice none 0 0)
                  unfold setGr at c0 c1 c2 hx9
                  clear z0 z1 z2 zl zf
                  exact bodyPost_ret (v := .tuple #[vGrid 0 0 none 0 0, .bool false]) (by simp [results, Tryz.results9, go_sem, c0, c1, c2]) rfl ⟨RjE.no hno.out, hx9⟩
                · obtain ⟨R, hR1e⟩ : ∃ R : Nat, n1 = R ∧ a1 = dec R := by
                    rcases hR1.out with ⟨_, m, h1, h2, _⟩ | ⟨h1, _⟩
                    · exact ⟨m, h1, h2⟩
                    · cases h1
                  obtain ⟨C, hR2e⟩ : ∃ C : Nat, n2 = C ∧ a2 = dec C := by
                    rcases hR2 with ⟨_, m, h1, h2, _⟩ | ⟨h1, _⟩
                    · exact ⟨m, h1, h2⟩
                    · cases h1
                  obtain ⟨rfl, h1e⟩ := hR1e
                  obtain ⟨rfl, h2e⟩ := hR2e
                  have hhd2 := Lib.hid (fun R' C' xs (h : jobOK s R' C' xs) => (show R' = R ∧ C' = C from ⟨dec_inj ((hhd.out R' C' xs h).2.1.symm.trans h1e), dec_inj ((hhd.out R' C' xs h).2.2.symm.trans h2e)⟩))
                  replace h1e := Lib.hid h1e; replace h2e := Lib.hid h2e
                  clear hR2 hR1 hhd
                  by_cases hd : (1 ≤ R ∧ R ≤ 40000) ∧ (1 ≤ C ∧ C ≤ 40000) ∧ R * C ≤ 40000
                  · obtain ⟨hdR, hdC, hRC⟩ := hd
                    obtain ⟨M, hM⟩ : ∃ M : Nat, R * C = M := ⟨_, rfl⟩
                    have hMe : (R : Int) * (C : Int) = (M : Int) := by rw [← hM]; simp
                    rw [hM] at hRC
                    have hMw := IntWalk.i64_in (M : Int) (by omega)
                    replace hM := Lib.hid hM
                    go_upto_region 14 with (go_at_call 27; (with_reducible refine (inRange_c _ _ _ _).mono ?_); rintro e w' ⟨⟨hP, rfl⟩ | ⟨hP, rfl⟩, rfl⟩ <;> first | (exfalso; omega) | skip)
                    have hhr := Lib.hid (fun R' C' xs (h : jobOK s R' C' xs) => (by
                      obtain ⟨rfl, rfl⟩ := hhd2.out R' C' xs h
                      exact (show 1 ≤ bl.length ∧ R' = R' ∧ C' = C' ∧ rowsJ true R' C' (bl.map (·.data.toList)) = some xs from ⟨(hparts.out _ _ xs h).2.2.2.1, rfl, rfl, (hparts.out _ _ xs h).2.2.2.2 true⟩) : 1 ≤ bl.length ∧ R' = R ∧ C' = C ∧ rowsJ true R C (bl.map (·.data.toList)) = some xs))
                    have hG5 := Blk.new w4 #[.int .i64 R, .int .i64 C, .slice none 0 0] 30
                    have hx45 : Ext w4 (w4.alloc (.cells #[.int .i64 R, .int .i64 C, .slice none 0 0] 30)) := (Ext.refl w4).alloc _
                    have hz45 : w4.heap.size < (w4.alloc (.cells #[.int .i64 R, .int .i64 C, .slice none 0 0] 30)).heap.size := hG5.lt
                    have e2 : IntKind.i64.wrap ((b : Int) + 3 - 2) = ((b + 1 : Nat) : Int) := by rw [IntWalk.i64_in _ (by omega)]; omega
                    have hsl : ∀ W, (Instr.slice 48 (.slice (some ⟨g, 0, none⟩) (b + 3) c) (some (.int .i64 1)) (some (.int .i64 ((b + 1 : Nat) : Int))) none).run Tryz.prog W = .ok (.slice (some ⟨g, 1, none⟩) b (c - 1)) W := fun W => by
                      have h := slice_win (g := g) (c := c) (l := 1) (h := b + 1) (by omega) (by omega) (by omega) (by omega) (b + 3) W
                      rw [show b + 1 - 1 = b by omega] at h
                      exact h
                    have hb5 := hb4.ext hx45
                    have hbl5 := Lib.hid (hbl.out _ (hx24.trans hx45))
                    have hx05 := hxw4.trans hx45
                    have hg4 : g < w4.heap.size := by have := hx12.below.size; have := hx24.below.size; omega
                    have hgw : w.heap.size < w4.heap.size := zl
                    clear z0 z1 z2 zl zf hP hb4 hx45 hbl hx24 hx12 hparts hhd2 hmq hcq hcq3 h1e h2e hsh hxw4 hq3i hq3j
                    go_upto_region 16 with (fail)
                    generalize w4.alloc (.cells #[.int .i64 R, .int .i64 C, .slice none 0 0] 30) = w5 at *
                    generalize w4.heap.size = gG at *
                    skip
                    go_loopw [103] (fun i wr => ∃ (k q : Nat) (cs : List Int) (v : Value), k ≤ b ∧ i = .int .i64 k ∧ But gG w5 wr ∧ Blk wr gG #[.int .i64 R, .int .i64 C, v] 30 ∧ RowI w5.heap.size wr v cs ∧ q ≤ R ∧ Hid (z1 cs) ∧ Hid (cs.length = q * C) ∧ Hid (rowsJ true R C ((bl.map (·.data.toList)).take k) = some cs)) (fun i _ => b - (intOf i).toNat)
                    case atStart => exact ⟨0, 0, [], _, Nat.zero_le _, rfl, But.refl _ _, hG5, RowI.nil _ _, Nat.zero_le _, Lib.hid (fun x hx => by cases hx), Lib.hid (by simp), Lib.hid rfl⟩
                    case round =>
                      obtain ⟨k, q, cs, v, hk, rfl, hbut, hGr, hown, hqR, hz1, hcl, hrj⟩ := hrel
                      have hxr := hx05.but hbut (Nat.le_of_lt hgw)
                      have hbr := hb5.but hbut (by omega)
                      by_cases hlt : k < b
                      · have hki : (k : Int) < b := by omega
                        have hkl : k < bl.length := by have := hb.out; omega
                        obtain ⟨y1, y2⟩ := hbl5.out.wdh hkl
                        have y3 : wr.cell? ⟨g, 1 + k, none⟩ = some (.string (bl[k]'hkl)) := by rw [(bucell hbut).1 _ _ y1 (by omega)]; exact y2
                        have y4 := (bucell hbut).2.2.1 _ y1
                        have hlz : (bl[k]'hkl).size ≤ 20000 := Nat.le_trans (hzb _ (List.getElem_mem hkl)) hsz
                        have hmk : k < (bl.map (·.data.toList)).length := by rw [List.length_map]; exact hkl
                        have hnx := Lib.hid (rowsJ_take hmk hrj.out)
                        rw [List.getElem_map] at hnx
                        have hfail : Hid (lineJ true R C (some cs) (bl[k]'hkl).data.toList = none → ∀ R' C' xs, ¬ jobOK s R' C' xs) := Lib.hid (fun h R' C' xs hh => by
                          have h1 := (hhr.out R' C' xs hh).2.2.2
                          have h2 := rowsJ_fail (k := k + 1) (hnx.out.trans h)
                          rw [h2] at h1
                          cases h1)
                        have hrb := Lib.hid (fun W (h : ErrC W) => readBand_c (bl[k]'hkl) C W hlz hdC.2 h)
                        have hlj := Lib.hid (fun n r (h : lineOK true C (bl[k]'hkl).data.toList n r) => (show (cs.length + n * C ≤ R * C → lineJ true R C (some cs) (bl[k]'hkl).data.toList = some (cs ++ repL n r)) ∧ (¬ cs.length + n * C ≤ R * C → lineJ true R C (some cs) (bl[k]'hkl).data.toList = none) from ⟨fun h2 => lineJ_yes h h2, fun h2 => lineJ_big h h2⟩))
                        have hlno := Lib.hid (fun (h : ∀ n r, ¬ lineOK true C (bl[k]'hkl).data.toList n r) => lineJ_no (m := true) (R := R) (cs := cs) h)
                        generalize bl[k]'hkl = line at *
                        clear y1 y2
                        go_upto_region 19 with (go_at_call 28; (with_reducible refine (hrb.out _ (HE.out.ext hxr)).mono ?_); rintro e w6 ⟨hRB, hx6⟩; rcases hRB with ⟨n, r, vr, rfl, hvr, hlok, hn9⟩ | ⟨n, vr, rfl, hbad⟩)
                        · have hr1 := hlok.2
                          have hrz := hlok.z
                          obtain ⟨hy, hbg⟩ := hlj.out n r hlok
                          replace hy := Lib.hid hy; replace hbg := Lib.hid hbg; replace hlok := Lib.hid hlok; replace hrz := Lib.hid hrz; replace hr1 := Lib.hid hr1
                          have hG6 := hGr.ext hx6
                          have hxw6 := hxr.trans hx6
                          have hb6 := hbr.ext hx6
                          have hown6 := hown.ext hx6
                          have hbut6 := hbut.trans (But.of hx6)
                          obtain ⟨p', d', rfl, -⟩ := hown6.ownC
                          obtain ⟨pr, dr, rfl, hvo⟩ := hvr.own
                          have hvi := Lib.hid hvo.ints
                          have f0 := hG6.cell (i := 0) (v := .int .i64 R) rfl; have f1 := hG6.cell (i := 1) (v := .int .i64 C) rfl; have f2 := hG6.cell (i := 2) (v := .slice p' cs.length d') rfl; have fl := hG6.lt; have ff := hG6.free
                          have hC0 : ((C : Int) == 0) = false := by simp; omega
                          have hC1 : ¬ (C : Int) = 0 := by omega
                          have hq1 : (cs.length : Int).tdiv (C : Int) = (q : Int) := by
                            rw [hcl.out, Int.natCast_mul, Int.tdiv_eq_ediv_of_nonneg (by have := Int.mul_nonneg (Int.natCast_nonneg q) (Int.natCast_nonneg C); exact this), Int.mul_ediv_cancel _ hC1]
                          have hq2 := IntWalk.i64_in (q : Int) (by omega)
                          have hq3 := IntWalk.i64_in ((R : Int) - q) (by omega)
                          clear y3 y4 hrb hGr hvr hvo hown hbr hxr hlj hlno
                          by_cases hqn : n + q ≤ R
                          · have hqi : ¬ (R : Int) - q < n := by omega
                            have hcn : cs.length + n * C ≤ R * C := by
                              rw [hcl.out, ← Nat.add_mul]
                              exact Nat.mul_le_mul_right _ (by omega)
                            have hnx2 := Lib.hid (hnx.out.trans (hy.out hcn))
                            have hrC : r.length * n ≤ 40000 := by
                              have h1 : n * C ≤ R * C := Nat.mul_le_mul_right _ (by omega)
                              have h2 := hM.out
                              rw [hr1.out, Nat.mul_comm]; omega
                            have hcs4 : cs.length ≤ 40000 := by
                              have h1 : q * C ≤ R * C := Nat.mul_le_mul_right _ hqR
                              have h2 := hM.out
                              rw [hcl.out]; omega
                            have hrC2 := repL_len n r
                            have hrp := Lib.hid (fun W (h : IntsAt W pr r) => repeat_c pr dr n r W h hrC (by rw [hr1.out]; exact hdC.2) hn9)
                            have hcl2 : Hid ((cs ++ repL n r).length = (q + n) * C) := Lib.hid (by rw [List.length_append, hrC2, hcl.out, hr1.out, Nat.add_mul, Nat.mul_comm C n])
                            have hz2 : Hid (z1 (cs ++ repL n r)) := Lib.hid (z1_app hz1.out (z1_rep hrz.out))
                            have hrC3 : (repL n r).length ≤ 40000 := by rw [hrC2]; exact hrC
                            generalize repL n r = RM at *
                            obtain ⟨YS, hYS⟩ : ∃ YS, cs ++ RM = YS := ⟨_, rfl⟩
                            rw [hYS] at hcl2 hnx2 hz2
                            replace hYS := Lib.hid hYS
                            have hE6 : Ext w6 w6.drew := (Ext.refl w6).drew
                            clear hfail hbg hhr hnx hcl hrC2
                            replace hq1 := hq1
                            go_upto_region 21 with (fail)
                            refine wp_region_ct (fun w' => True) (.st 0 (.st 2 (.st 3 (.two 1 (.one 4 (.one 5 (.st 6 (.one 7 .done)))) 4 (.one 1 (.one 5 (.st 6 (.one 7 .done)))))))) (by kernel_rfl) (by kernel_rfl) (by decide) (by kernel_rfl) ?_ ?_
                            · exact trivial
                            refine ct_intro fun ops eo => ?_
                            have ho0 := canon_at eo 0 rfl
                            have ho1 := canon_at eo 1 rfl
                            have ho2 := canon_at eo 2 rfl
                            have ho3 := canon_at eo 3 rfl
                            have ho4 := canon_at eo 4 rfl
                            have ho5 := canon_at eo 5 rfl
                            have ho6 := canon_at eo 6 rfl
                            have ho7 := canon_at eo 7 rfl
                            clear eo
                            all_goals (apply ct_st ho0 rfl; (intro w2 hS; first | (go_simp; first | done | rfl) | rfl | (skip; go_simp; first | done | rfl)); simp only [Act.put, List.setIfInBounds_toArray, List.set_cons_zero, List.set_cons_succ])
                            all_goals clear ho0
                            all_goals (apply ct_st ho2 rfl; (intro w2 hS; first | (go_simp; first | done | rfl) | rfl | (skip; go_simp; first | done | rfl)); simp only [Act.put, List.setIfInBounds_toArray, List.set_cons_zero, List.set_cons_succ])
                            all_goals clear ho2
                            all_goals (apply ct_st ho3 rfl; (intro w2 hS; first | (go_simp; first | done | rfl) | rfl | (skip; go_simp; first | done | rfl)); simp only [Act.put, List.setIfInBounds_toArray, List.set_cons_zero, List.set_cons_succ])
                            all_goals clear ho3
                            all_goals
                              refine ct_two ?_ ?_
                              focus
                                all_goals first | (refine ct_op ho1 rfl (fun K hK => ?_); go_simp; (skip); all_goals (refine hK _ _ ⟨trivial, ?_⟩; clear hK K; go_simp)) | (refine ct_op ho1 rfl (fun K hK => ?_); go_simp; ((go_at_call 29; (with_reducible refine (hrp.out _ (hvi.out.ext hE6)).mono ?_); rintro e w7 ⟨⟨q7, d7, rfl, hq7⟩, hx7⟩; have hx67 := hE6.trans hx7; have hG7 := hG6.ext hx67; have hown7 := hown6.ext hx67; have f27 := hG7.cell (i := 2) (v := .slice p' cs.length d') rfl; have fl7 := hG7.lt)); all_goals (refine hK _ _ ⟨trivial, ?_⟩; clear hK K; go_simp)) | (refine ct_op ho1 rfl (fun K hK => ?_); (refine appendLI_opJ hown7 hq7 (by omega) (by have := hbut6.size; have := hx67.below.size; omega) ?_ rfl rfl; intro v8 w8 hown8 hg8; rw [hYS.out] at hown8; obtain ⟨p8, d8, rfl, -⟩ := hown8.ownC; have hG8 := hG7.grewJ hg8 (fun e => by have := (hown7.lt _ e).1; omega); have f28 := hG8.cell (i := 2) (v := .slice p' cs.length d') rfl; have fl8 := hG8.lt; have ff8 := hG8.free); all_goals (refine hK _ _ ⟨trivial, ?_⟩; clear hK K; go_simp))
                                all_goals clear ho1
                                all_goals refine ct_one ?_
                                all_goals first | (refine ct_op ho4 rfl (fun K hK => ?_); go_simp; (skip); all_goals (refine hK _ _ ⟨trivial, ?_⟩; clear hK K; go_simp)) | (refine ct_op ho4 rfl (fun K hK => ?_); go_simp; ((go_at_call 29; (with_reducible refine (hrp.out _ (hvi.out.ext hE6)).mono ?_); rintro e w7 ⟨⟨q7, d7, rfl, hq7⟩, hx7⟩; have hx67 := hE6.trans hx7; have hG7 := hG6.ext hx67; have hown7 := hown6.ext hx67; have f27 := hG7.cell (i := 2) (v := .slice p' cs.length d') rfl; have fl7 := hG7.lt)); all_goals (refine hK _ _ ⟨trivial, ?_⟩; clear hK K; go_simp)) | (refine ct_op ho4 rfl (fun K hK => ?_); (refine appendLI_opJ hown7 hq7 (by omega) (by have := hbut6.size; have := hx67.below.size; omega) ?_ rfl rfl; intro v8 w8 hown8 hg8; rw [hYS.out] at hown8; obtain ⟨p8, d8, rfl, -⟩ := hown8.ownC; have hG8 := hG7.grewJ hg8 (fun e => by have := (hown7.lt _ e).1; omega); have f28 := hG8.cell (i := 2) (v := .slice p' cs.length d') rfl; have fl8 := hG8.lt; have ff8 := hG8.free); all_goals (refine hK _ _ ⟨trivial, ?_⟩; clear hK K; go_simp))
                                all_goals clear ho4
                                all_goals refine ct_one ?_
                                all_goals first | (refine ct_op ho5 rfl (fun K hK => ?_); go_simp; (skip); all_goals (refine hK _ _ ⟨trivial, ?_⟩; clear hK K; go_simp)) | (refine ct_op ho5 rfl (fun K hK => ?_); go_simp; ((go_at_call 29; (with_reducible refine (hrp.out _ (hvi.out.ext hE6)).mono ?_); rintro e w7 ⟨⟨q7, d7, rfl, hq7⟩, hx7⟩; have hx67 := hE6.trans hx7; have hG7 := hG6.ext hx67; have hown7 := hown6.ext hx67; have f27 := hG7.cell (i := 2) (v := .slice p' cs.length d') rfl; have fl7 := hG7.lt)); all_goals (refine hK _ _ ⟨trivial, ?_⟩; clear hK K; go_simp)) | (refine ct_op ho5 rfl (fun K hK => ?_); (refine appendLI_opJ hown7 hq7 (by omega) (by have := hbut6.size; have := hx67.below.size; omega) ?_ rfl rfl; intro v8 w8 hown8 hg8; rw [hYS.out] at hown8; obtain ⟨p8, d8, rfl, -⟩ := hown8.ownC; have hG8 := hG7.grewJ hg8 (fun e => by have := (hown7.lt _ e).1; omega); have f28 := hG8.cell (i := 2) (v := .slice p' cs.length d') rfl; have fl8 := hG8.lt; have ff8 := hG8.free); all_goals (refine hK _ _ ⟨trivial, ?_⟩; clear hK K; go_simp))
                                all_goals clear ho5
                                all_goals (apply ct_st ho6 rfl; (intro w2 hS; first | (go_simp; first | done | rfl) | rfl | (skip; go_simp; first | done | rfl)); simp only [Act.put, List.setIfInBounds_toArray, List.set_cons_zero, List.set_cons_succ])
                                all_goals clear ho6
                                all_goals refine ct_one ?_
                                all_goals first | (refine ct_op ho7 rfl (fun K hK => ?_); go_simp; (skip); all_goals (refine hK _ _ ⟨trivial, ?_⟩; clear hK K; go_simp)) | (refine ct_op ho7 rfl (fun K hK => ?_); go_simp; ((go_at_call 29; (with_reducible refine (hrp.out _ (hvi.out.ext hE6)).mono ?_); rintro e w7 ⟨⟨q7, d7, rfl, hq7⟩, hx7⟩; have hx67 := hE6.trans hx7; have hG7 := hG6.ext hx67; have hown7 := hown6.ext hx67; have f27 := hG7.cell (i := 2) (v := .slice p' cs.length d') rfl; have fl7 := hG7.lt)); all_goals (refine hK _ _ ⟨trivial, ?_⟩; clear hK K; go_simp)) | (refine ct_op ho7 rfl (fun K hK => ?_); (refine appendLI_opJ hown7 hq7 (by omega) (by have := hbut6.size; have := hx67.below.size; omega) ?_ rfl rfl; intro v8 w8 hown8 hg8; rw [hYS.out] at hown8; obtain ⟨p8, d8, rfl, -⟩ := hown8.ownC; have hG8 := hG7.grewJ hg8 (fun e => by have := (hown7.lt _ e).1; omega); have f28 := hG8.cell (i := 2) (v := .slice p' cs.length d') rfl; have fl8 := hG8.lt; have ff8 := hG8.free); all_goals (refine hK _ _ ⟨trivial, ?_⟩; clear hK K; go_simp))
                                all_goals clear ho7
                                all_goals refine ct_done (NoPanic.normal ?_)
                              rotate_right 1
                              focus
                                all_goals first | (refine ct_op ho4 rfl (fun K hK => ?_); go_simp; (skip); all_goals (refine hK _ _ ⟨trivial, ?_⟩; clear hK K; go_simp)) | (refine ct_op ho4 rfl (fun K hK => ?_); go_simp; ((go_at_call 29; (with_reducible refine (hrp.out _ (hvi.out.ext hE6)).mono ?_); rintro e w7 ⟨⟨q7, d7, rfl, hq7⟩, hx7⟩; have hx67 := hE6.trans hx7; have hG7 := hG6.ext hx67; have hown7 := hown6.ext hx67; have f27 := hG7.cell (i := 2) (v := .slice p' cs.length d') rfl; have fl7 := hG7.lt)); all_goals (refine hK _ _ ⟨trivial, ?_⟩; clear hK K; go_simp)) | (refine ct_op ho4 rfl (fun K hK => ?_); (refine appendLI_opJ hown7 hq7 (by omega) (by have := hbut6.size; have := hx67.below.size; omega) ?_ rfl rfl; intro v8 w8 hown8 hg8; rw [hYS.out] at hown8; obtain ⟨p8, d8, rfl, -⟩ := hown8.ownC; have hG8 := hG7.grewJ hg8 (fun e => by have := (hown7.lt _ e).1; omega); have f28 := hG8.cell (i := 2) (v := .slice p' cs.length d') rfl; have fl8 := hG8.lt; have ff8 := hG8.free); all_goals (refine hK _ _ ⟨trivial, ?_⟩; clear hK K; go_simp))
                                all_goals clear ho4
                                all_goals refine ct_one ?_
                                all_goals first | (refine ct_op ho1 rfl (fun K hK => ?_); go_simp; (skip); all_goals (refine hK _ _ ⟨trivial, ?_⟩; clear hK K; go_simp)) | (refine ct_op ho1 rfl (fun K hK => ?_); go_simp; ((go_at_call 29; (with_reducible refine (hrp.out _ (hvi.out.ext hE6)).mono ?_); rintro e w7 ⟨⟨q7, d7, rfl, hq7⟩, hx7⟩; have hx67 := hE6.trans hx7; have hG7 := hG6.ext hx67; have hown7 := hown6.ext hx67; have f27 := hG7.cell (i := 2) (v := .slice p' cs.length d') rfl; have fl7 := hG7.lt)); all_goals (refine hK _ _ ⟨trivial, ?_⟩; clear hK K; go_simp)) | (refine ct_op ho1 rfl (fun K hK => ?_); (refine appendLI_opJ hown7 hq7 (by omega) (by have := hbut6.size; have := hx67.below.size; omega) ?_ rfl rfl; intro v8 w8 hown8 hg8; rw [hYS.out] at hown8; obtain ⟨p8, d8, rfl, -⟩ := hown8.ownC; have hG8 := hG7.grewJ hg8 (fun e => by have := (hown7.lt _ e).1; omega); have f28 := hG8.cell (i := 2) (v := .slice p' cs.length d') rfl; have fl8 := hG8.lt; have ff8 := hG8.free); all_goals (refine hK _ _ ⟨trivial, ?_⟩; clear hK K; go_simp))
                                all_goals clear ho1
                                all_goals refine ct_one ?_
                                all_goals first | (refine ct_op ho5 rfl (fun K hK => ?_); go_simp; (skip); all_goals (refine hK _ _ ⟨trivial, ?_⟩; clear hK K; go_simp)) | (refine ct_op ho5 rfl (fun K hK => ?_); go_simp; ((go_at_call 29; (with_reducible refine (hrp.out _ (hvi.out.ext hE6)).mono ?_); rintro e w7 ⟨⟨q7, d7, rfl, hq7⟩, hx7⟩; have hx67 := hE6.trans hx7; have hG7 := hG6.ext hx67; have hown7 := hown6.ext hx67; have f27 := hG7.cell (i := 2) (v := .slice p' cs.length d') rfl; have fl7 := hG7.lt)); all_goals (refine hK _ _ ⟨trivial, ?_⟩; clear hK K; go_simp)) | (refine ct_op ho5 rfl (fun K hK => ?_); (refine appendLI_opJ hown7 hq7 (by omega) (by have := hbut6.size; have := hx67.below.size; omega) ?_ rfl rfl; intro v8 w8 hown8 hg8; rw [hYS.out] at hown8; obtain ⟨p8, d8, rfl, -⟩ := hown8.ownC; have hG8 := hG7.grewJ hg8 (fun e => by have := (hown7.lt _ e).1; omega); have f28 := hG8.cell (i := 2) (v := .slice p' cs.length d') rfl; have fl8 := hG8.lt; have ff8 := hG8.free); all_goals (refine hK _ _ ⟨trivial, ?_⟩; clear hK K; go_simp))
                                all_goals clear ho5
                                all_goals (apply ct_st ho6 rfl; (intro w2 hS; first | (go_simp; first | done | rfl) | rfl | (skip; go_simp; first | done | rfl)); simp only [Act.put, List.setIfInBounds_toArray, List.set_cons_zero, List.set_cons_succ])
                                all_goals clear ho6
                                all_goals refine ct_one ?_
                                all_goals first | (refine ct_op ho7 rfl (fun K hK => ?_); go_simp; (skip); all_goals (refine hK _ _ ⟨trivial, ?_⟩; clear hK K; go_simp)) | (refine ct_op ho7 rfl (fun K hK => ?_); go_simp; ((go_at_call 29; (with_reducible refine (hrp.out _ (hvi.out.ext hE6)).mono ?_); rintro e w7 ⟨⟨q7, d7, rfl, hq7⟩, hx7⟩; have hx67 := hE6.trans hx7; have hG7 := hG6.ext hx67; have hown7 := hown6.ext hx67; have f27 := hG7.cell (i := 2) (v := .slice p' cs.length d') rfl; have fl7 := hG7.lt)); all_goals (refine hK _ _ ⟨trivial, ?_⟩; clear hK K; go_simp)) | (refine ct_op ho7 rfl (fun K hK => ?_); (refine appendLI_opJ hown7 hq7 (by omega) (by have := hbut6.size; have := hx67.below.size; omega) ?_ rfl rfl; intro v8 w8 hown8 hg8; rw [hYS.out] at hown8; obtain ⟨p8, d8, rfl, -⟩ := hown8.ownC; have hG8 := hG7.grewJ hg8 (fun e => by have := (hown7.lt _ e).1; omega); have f28 := hG8.cell (i := 2) (v := .slice p' cs.length d') rfl; have fl8 := hG8.lt; have ff8 := hG8.free); all_goals (refine hK _ _ ⟨trivial, ?_⟩; clear hK K; go_simp))
                                all_goals clear ho7
                                all_goals refine ct_done (NoPanic.normal ?_)
                            all_goals
                              have hown9 : RowI w5.heap.size (w8.setCell ⟨gG, 2, none⟩ (.slice p8 YS.length d8)) (.slice p8 YS.length d8) YS := hown8.setOther (fun e => by have := (hown8.lt _ e).1; omega)
                              have hG9 : Blk (w8.setCell ⟨gG, 2, none⟩ (.slice p8 YS.length d8)) gG #[.int .i64 R, .int .i64 C, .slice p8 YS.length d8] 30 := hG8.set 2 _
                              have hbut9 : But gG w5 (w8.setCell ⟨gG, 2, none⟩ (.slice p8 YS.length d8)) := ((hbut6.trans (But.of hx67)).below (hg8.below (B := w5.heap.size) (fun k hk => (hown7.lt k hk).1) (by have := hbut6.size; have := hx67.below.size; omega)) (Nat.le_refl _)).trans (But.set _ _ _ _)
                              go_wp2
                              go_roundw
                              case rel => exact ⟨k + 1, q + n, YS, _, hlt, by go_num, hbut9, hG9, hown9, by omega, hz2, hcl2, hnx2⟩
                              case measure => simp [intOf]; omega
                          · have hqi : (R : Int) - q < n := by omega
                            have hno : Hid (∀ R C xs, ¬ jobOK s R C xs) := Lib.hid (fun R' C' xs hh => hfail.out (hbg.out (fun h => by
                              rw [hcl.out, ← Nat.add_mul] at h
                              have := Nat.le_of_mul_le_mul_right h (by omega)
                              omega)) R' C' xs hh)
                            have z0 := hb6.cell (i := 0) (v := .int .i64 0) rfl; have z1 := hb6.cell (i := 1) (v := .int .i64 0) rfl; have z2 := hb6.cell (i := 2) (v := .slice none 0 0) rfl; have zl := hb6.lt; have zf := hb6.free
                            go_wp2
                            have hF := hb6.gr 0 0 (.slice none 0 0)
                            have c0 := hF.cell (i := 0) (v := .int .i64 0) rfl; have c1 := hF.cell (i := 1) (v := .int .i64 0) rfl; have c2 := hF.cell (i := 2) (v := .slice none 0 0) rfl
                            have hx9 := hxw6.gr (g := w.heap.size) (Nat.le_refl _) 0 0 (.slice none 0 0)
                            unfold setGr at c0 c1 c2 hx9
                            clear z0 z1 z2 zl zf
                            exact bodyPost_ret (v := .tuple #[vGrid 0 0 none 0 0, .bool false]) (by simp [results, Tryz.results9, go_sem, c0, c1, c2]) rfl ⟨RjE.no hno.out, hx9⟩
                        · have hno : Hid (∀ R C xs, ¬ jobOK s R C xs) := Lib.hid (fun R' C' xs hh => hfail.out (hlno.out hbad) R' C' xs hh)
                          have hb6 := hbr.ext hx6
                          have hxw6 := hxr.trans hx6
                          have z0 := hb6.cell (i := 0) (v := .int .i64 0) rfl; have z1 := hb6.cell (i := 1) (v := .int .i64 0) rfl; have z2 := hb6.cell (i := 2) (v := .slice none 0 0) rfl; have zl := hb6.lt; have zf := hb6.free
                          replace hbad := Lib.hid hbad
                          go_wp2
                          have hF := hb6.gr 0 0 (.slice none 0 0)
                          have c0 := hF.cell (i := 0) (v := .int .i64 0) rfl; have c1 := hF.cell (i := 1) (v := .int .i64 0) rfl; have c2 := hF.cell (i := 2) (v := .slice none 0 0) rfl
                          have hx9 := hxw6.gr (g := w.heap.size) (Nat.le_refl _) 0 0 (.slice none 0 0)
                          unfold setGr at c0 c1 c2 hx9
                          clear z0 z1 z2 zl zf
                          exact bodyPost_ret (v := .tuple #[vGrid 0 0 none 0 0, .bool false]) (by simp [results, Tryz.results9, go_sem, c0, c1, c2]) rfl ⟨RjE.no hno.out, hx9⟩
                      · obtain rfl : k = b := by omega
                        rw [List.take_of_length_le (by rw [List.length_map, hb.out]; exact Nat.le_refl _)] at hrj
                        obtain ⟨p', d', rfl, -⟩ := hown.ownC
                        have hone := Lib.hid (fun R' C' xs (hh : jobOK s R' C' xs) => (show R' = R ∧ C' = C ∧ xs = cs from ⟨(hhr.out R' C' xs hh).2.1, (hhr.out R' C' xs hh).2.2.1, Option.some.inj ((hhr.out R' C' xs hh).2.2.2.symm.trans hrj.out)⟩))
                        have f0 := hGr.cell (i := 0) (v := .int .i64 R) rfl; have f1 := hGr.cell (i := 1) (v := .int .i64 C) rfl; have f2 := hGr.cell (i := 2) (v := .slice p' cs.length d') rfl; have fl := hGr.lt
                        clear hlt hhr
                        by_cases hcM : cs.length = M
                        · have hok : okJ R C cs := ⟨hdR.1, hdC.1, by rw [hM.out]; exact hRC, by rw [hM.out]; exact hcM, hz1.out⟩
                          have hMb : ((cs.length : Int) != (M : Int)) = false := by simp; omega
                          obtain ⟨p2, d2, e9, ho9, hcap⟩ := hown.ownC
                          obtain ⟨rfl, rfl⟩ : p' = p2 ∧ d' = d2 := by simp at e9; exact e9
                          have hpos : 0 < cs.length := by rw [hok.len]; exact Nat.mul_pos hok.r1 hok.c1
                          obtain ⟨bb, oo, rfl, -, -⟩ := ho9.ints 0 hpos
                          have hib := Lib.hid (fun W (h : IntsAt W (some ⟨bb, oo, none⟩) cs) (hT : Tab10 W) => iJob_c R C bb oo d' cs W h hok hcap hT)
                          have hin := Lib.hid ho9.ints
                          have hokh := Lib.hid hok
                          have hJy := Lib.hid (fun (h : s = jobT R C cs) => (show jobOK s R C cs from ⟨hok, h, hsz⟩))
                          have hJn := Lib.hid (fun (h : ¬ jobT R C cs = s) R' C' xs (hh : jobOK s R' C' xs) => by
                            obtain ⟨rfl, rfl, rfl⟩ := hone.out R' C' xs hh
                            exact h hh.2.1.symm)
                          clear e9 ho9 hok
                          generalize jobT R C cs = J at *
                          replace hcM := Lib.hid hcM
                          go_upto_region 23 with (fail)
                          by_cases hjs : J = s
                          · have hjb : (!(J.toList == s.toList)) = false := by simp [hjs]
                            have hyes := Lib.hid (hJy.out hjs.symm)
                            replace hjs := Lib.hid hjs
                            go_upto_region 25 with (go_at_call 21; (with_reducible refine (hib.out _ hin.out (HT.out.ext hxr)).mono ?_); rintro e w7 ⟨rfl, hx7⟩; have hG7 := hGr.ext hx7; have f07 := hG7.cell (i := 0) (v := .int .i64 R) rfl; have f17 := hG7.cell (i := 1) (v := .int .i64 C) rfl; have f27 := hG7.cell (i := 2) (v := .slice (some ⟨bb, oo, none⟩) cs.length d') rfl; have fl7 := hG7.lt)
                            have hb7 := hbr.ext hx7
                            have hxw7 := hxr.trans hx7
                            have hown7 := hown.ext hx7
                            have z0 := hb7.cell (i := 0) (v := .int .i64 0) rfl; have z1 := hb7.cell (i := 1) (v := .int .i64 0) rfl; have z2 := hb7.cell (i := 2) (v := .slice none 0 0) rfl; have zl := hb7.lt; have zf := hb7.free
                            go_wp2
                            have hF := hb7.gr R C (.slice (some ⟨bb, oo, none⟩) cs.length d')
                            have hx9 := hxw7.gr (g := w.heap.size) (Nat.le_refl _) R C (.slice (some ⟨bb, oo, none⟩) cs.length d')
                            have hlow : ∀ k, (Value.slice (some ⟨bb, oo, none⟩) cs.length d').ownBlock = some k → k ≠ w.heap.size := fun k hk => by have := (hown7.lt k hk).1; omega
                            have hown9 : RowI w5.heap.size (setGr w7 w.heap.size R C (.slice (some ⟨bb, oo, none⟩) cs.length d')) (.slice (some ⟨bb, oo, none⟩) cs.length d') cs := ((hown7.setOther (fun e => hlow _ e rfl)).setOther (fun e => hlow _ e rfl)).setOther (fun e => hlow _ e rfl)
                            obtain ⟨p9, c9, e9, ho9⟩ := hown9.own
                            obtain ⟨rfl, rfl⟩ : some ⟨bb, oo, none⟩ = p9 ∧ d' = c9 := by simp at e9; exact e9
                            have ho9 := Lib.hid (ho9.mono (show w.heap.size ≤ w5.heap.size from hx05.below.size))
                            have c0 := hF.cell (i := 0) (v := .int .i64 R) rfl; have c1 := hF.cell (i := 1) (v := .int .i64 C) rfl; have c2 := hF.cell (i := 2) (v := .slice (some ⟨bb, oo, none⟩) cs.length d') rfl
                            clear e9 hown9
                            unfold setGr at c0 c1 c2 hx9 ho9
                            clear z0 z1 z2 zl zf f07 f17 f27
                            exact bodyPost_ret (v := .tuple #[vGrid R C (some ⟨bb, oo, none⟩) cs.length d', .bool true]) (by simp [results, Tryz.results9, go_sem, c0, c1, c2]) rfl ⟨.inl ⟨R, C, cs, _, _, rfl, hyes.out, hcap, ho9.out⟩, hx9⟩
                          · have hjb : (!(J.toList == s.toList)) = true := by
                              simp only [Bool.not_eq_true', beq_eq_false_iff_ne, ne_eq]
                              exact fun h => hjs (str_eq.1 (beq_iff_eq.2 h))
                            have hno : Hid (∀ R C xs, ¬ jobOK s R C xs) := Lib.hid (hJn.out hjs)
                            replace hjs := Lib.hid hjs
                            go_upto_region 24 with (go_at_call 21; (with_reducible refine (hib.out _ hin.out (HT.out.ext hxr)).mono ?_); rintro e w7 ⟨rfl, hx7⟩)
                            have hb7 := hbr.ext hx7
                            have hxw7 := hxr.trans hx7
                            have z0 := hb7.cell (i := 0) (v := .int .i64 0) rfl; have z1 := hb7.cell (i := 1) (v := .int .i64 0) rfl; have z2 := hb7.cell (i := 2) (v := .slice none 0 0) rfl; have zl := hb7.lt; have zf := hb7.free
                            go_wp2
                            have hF := hb7.gr 0 0 (.slice none 0 0)
                            have c0 := hF.cell (i := 0) (v := .int .i64 0) rfl; have c1 := hF.cell (i := 1) (v := .int .i64 0) rfl; have c2 := hF.cell (i := 2) (v := .slice none 0 0) rfl
                            have hx9 := hxw7.gr (g := w.heap.size) (Nat.le_refl _) 0 0 (.slice none 0 0)
                            unfold setGr at c0 c1 c2 hx9
                            clear z0 z1 z2 zl zf
                            exact bodyPost_ret (v := .tuple #[vGrid 0 0 none 0 0, .bool false]) (by simp [results, Tryz.results9, go_sem, c0, c1, c2]) rfl ⟨RjE.no hno.out, hx9⟩
                        · have hMb : ((cs.length : Int) != (M : Int)) = true := by simp; omega
                          have hno : Hid (∀ R C xs, ¬ jobOK s R C xs) := Lib.hid (fun R' C' xs hh => by
                            obtain ⟨rfl, rfl, rfl⟩ := hone.out R' C' xs hh
                            exact hcM (hh.1.len.trans hM.out))
                          have z0 := hbr.cell (i := 0) (v := .int .i64 0) rfl; have z1 := hbr.cell (i := 1) (v := .int .i64 0) rfl; have z2 := hbr.cell (i := 2) (v := .slice none 0 0) rfl; have zl := hbr.lt; have zf := hbr.free
                          go_wp2
                          have hF := hbr.gr 0 0 (.slice none 0 0)
                          have c0 := hF.cell (i := 0) (v := .int .i64 0) rfl; have c1 := hF.cell (i := 1) (v := .int .i64 0) rfl; have c2 := hF.cell (i := 2) (v := .slice none 0 0) rfl
                          have hx9 := hxr.gr (g := w.heap.size) (Nat.le_refl _) 0 0 (.slice none 0 0)
                          unfold setGr at c0 c1 c2 hx9
                          clear z0 z1 z2 zl zf
                          exact bodyPost_ret (v := .tuple #[vGrid 0 0 none 0 0, .bool false]) (by simp [results, Tryz.results9, go_sem, c0, c1, c2]) rfl ⟨RjE.no hno.out, hx9⟩
                  · have hno : Hid (∀ R C xs, ¬ jobOK s R C xs) := Lib.hid (fun R' C' xs h => (by
                      obtain ⟨rfl, rfl⟩ := hhd2.out R' C' xs h
                      exact hd ⟨⟨h.1.r1, h.1.rle⟩, ⟨h.1.c1, h.1.cle⟩, h.1.le⟩))
                    by_cases hdR : 1 ≤ R ∧ R ≤ 40000
                    · by_cases hdC : 1 ≤ C ∧ C ≤ 40000
                      · have hdM : ¬ R * C ≤ 40000 := fun h => hd ⟨hdR, hdC, h⟩
                        have hMz : R * C ≤ 40000 * 40000 := Nat.mul_le_mul hdR.2 hdC.2
                        obtain ⟨M, hM⟩ : ∃ M : Nat, R * C = M := ⟨_, rfl⟩
                        have hMe : (R : Int) * (C : Int) = (M : Int) := by rw [← hM]; simp
                        rw [hM] at hdM hMz
                        have hMw := IntWalk.i64_in (M : Int) (by omega)
                        replace hM := Lib.hid hM
                        clear hd
                        go_wp2_with (go_at_call 27; (with_reducible refine (inRange_c _ _ _ _).mono ?_); rintro e w' ⟨⟨hP, rfl⟩ | ⟨hP, rfl⟩, rfl⟩ <;> first | (exfalso; omega) | skip)
                        have hF := hb4.gr 0 0 (.slice none 0 0)
                        have c0 := hF.cell (i := 0) (v := .int .i64 0) rfl; have c1 := hF.cell (i := 1) (v := .int .i64 0) rfl; have c2 := hF.cell (i := 2) (v := .slice none 0 0) rfl
                        have hx9 := hxw4.gr (g := w.heap.size) (Nat.le_refl _) 0 0 (.slice none 0 0)
                        unfold setGr at c0 c1 c2 hx9
                        clear z0 z1 z2 zl zf
                        exact bodyPost_ret (v := .tuple #[vGrid 0 0 none 0 0, .bool false]) (by simp [results, Tryz.results9, go_sem, c0, c1, c2]) rfl ⟨RjE.no hno.out, hx9⟩
                      · clear hd
                        go_wp2_with (go_at_call 27; (with_reducible refine (inRange_c _ _ _ _).mono ?_); rintro e w' ⟨⟨hP, rfl⟩ | ⟨hP, rfl⟩, rfl⟩ <;> first | (exfalso; omega) | skip)
                        have hF := hb4.gr 0 0 (.slice none 0 0)
                        have c0 := hF.cell (i := 0) (v := .int .i64 0) rfl; have c1 := hF.cell (i := 1) (v := .int .i64 0) rfl; have c2 := hF.cell (i := 2) (v := .slice none 0 0) rfl
                        have hx9 := hxw4.gr (g := w.heap.size) (Nat.le_refl _) 0 0 (.slice none 0 0)
                        unfold setGr at c0 c1 c2 hx9
                        clear z0 z1 z2 zl zf
                        exact bodyPost_ret (v := .tuple #[vGrid 0 0 none 0 0, .bool false]) (by simp [results, Tryz.results9, go_sem, c0, c1, c2]) rfl ⟨RjE.no hno.out, hx9⟩
                    · clear hd
                      go_wp2_with (go_at_call 27; (with_reducible refine (inRange_c _ _ _ _).mono ?_); rintro e w' ⟨⟨hP, rfl⟩ | ⟨hP, rfl⟩, rfl⟩ <;> first | (exfalso; omega) | skip)
                      have hF := hb4.gr 0 0 (.slice none 0 0)
                      have c0 := hF.cell (i := 0) (v := .int .i64 0) rfl; have c1 := hF.cell (i := 1) (v := .int .i64 0) rfl; have c2 := hF.cell (i := 2) (v := .slice none 0 0) rfl
                      have hx9 := hxw4.gr (g := w.heap.size) (Nat.le_refl _) 0 0 (.slice none 0 0)
                      unfold setGr at c0 c1 c2 hx9
                      clear z0 z1 z2 zl zf
                      exact bodyPost_ret (v := .tuple #[vGrid 0 0 none 0 0, .bool false]) (by simp [results, Tryz.results9, go_sem, c0, c1, c2]) rfl ⟨RjE.no hno.out, hx9⟩
            · have hpg2 : (!(a0.toList == [112, 97, 103, 101])) = true := by simpa using hpg
              have hno : Hid (∀ R C xs, ¬ jobOK s R C xs) := Lib.hid (fun R C xs h => hpg (by rw [ByteArray.toList_eq]; exact (hhd.out R C xs h).1))
              go_wp2
              have hF := hb2.gr 0 0 (.slice none 0 0)
              have c0 := hF.cell (i := 0) (v := .int .i64 0) rfl; have c1 := hF.cell (i := 1) (v := .int .i64 0) rfl; have c2 := hF.cell (i := 2) (v := .slice none 0 0) rfl
              have hx9 := hxw2.gr (g := w.heap.size) (Nat.le_refl _) 0 0 (.slice none 0 0)
              unfold setGr at c0 c1 c2 hx9
              clear z0 z1 z2 zl zf
              exact bodyPost_ret (v := .tuple #[vGrid 0 0 none 0 0, .bool false]) (by simp [results, Tryz.results9, go_sem, c0, c1, c2]) rfl ⟨RjE.no hno.out, hx9⟩
          · have hno : Hid (∀ R C xs, ¬ jobOK s R C xs) := Lib.hid (fun R C xs h => by
              have h1 := congrArg List.length hmq
              rw [(hparts.out R C xs h).1] at h1
              simp at h1
              omega)
            have hqi : ((qs.length : Int) != 3) = true := by simp; omega
            go_wp2
            have hF := hb2.gr 0 0 (.slice none 0 0)
            have c0 := hF.cell (i := 0) (v := .int .i64 0) rfl; have c1 := hF.cell (i := 1) (v := .int .i64 0) rfl; have c2 := hF.cell (i := 2) (v := .slice none 0 0) rfl
            have hx9 := hxw2.gr (g := w.heap.size) (Nat.le_refl _) 0 0 (.slice none 0 0)
            unfold setGr at c0 c1 c2 hx9
            clear z0 z1 z2 zl zf
            exact bodyPost_ret (v := .tuple #[vGrid 0 0 none 0 0, .bool false]) (by simp [results, Tryz.results9, go_sem, c0, c1, c2]) rfl ⟨RjE.no hno.out, hx9⟩
        · have hno : Hid (∀ R C xs, ¬ jobOK s R C xs) := Lib.hid (fun R C xs h => hee (by rw [ByteArray.toList_eq]; exact (hparts.out R C xs h).2.1))
          have hee2 : (!(pe.toList == [101, 110, 100])) = true := by simpa using hee
          go_wp2
          have hF := hb1.gr 0 0 (.slice none 0 0)
          have c0 := hF.cell (i := 0) (v := .int .i64 0) rfl; have c1 := hF.cell (i := 1) (v := .int .i64 0) rfl; have c2 := hF.cell (i := 2) (v := .slice none 0 0) rfl
          have hx9 := hxw.gr (g := w.heap.size) (Nat.le_refl _) 0 0 (.slice none 0 0)
          unfold setGr at c0 c1 c2 hx9
          clear z0 z1 z2 zl zf
          exact bodyPost_ret (v := .tuple #[vGrid 0 0 none 0 0, .bool false]) (by simp [results, Tryz.results9, go_sem, c0, c1, c2]) rfl ⟨RjE.no hno.out, hx9⟩
      · have hno : Hid (∀ R C xs, ¬ jobOK s R C xs) := Lib.hid (fun R C xs h => hez (by rw [ByteArray.toList_eq]; exact (hparts.out R C xs h).2.2.1))
        go_wp2
        have hF := hb1.gr 0 0 (.slice none 0 0)
        have c0 := hF.cell (i := 0) (v := .int .i64 0) rfl; have c1 := hF.cell (i := 1) (v := .int .i64 0) rfl; have c2 := hF.cell (i := 2) (v := .slice none 0 0) rfl
        have hx9 := hxw.gr (g := w.heap.size) (Nat.le_refl _) 0 0 (.slice none 0 0)
        unfold setGr at c0 c1 c2 hx9
        clear z0 z1 z2 zl zf
        exact bodyPost_ret (v := .tuple #[vGrid 0 0 none 0 0, .bool false]) (by simp [results, Tryz.results9, go_sem, c0, c1, c2]) rfl ⟨RjE.no hno.out, hx9⟩
  · have g1 : (20000 : Int) < s.size := by omega
    have hno : Hid (∀ R C xs, ¬ jobOK s R C xs) := Lib.hid (fun R C xs (h : jobOK s R C xs) => absurd h.2.2 hsz)
    have z0 := hb0.cell (i := 0) (v := .int .i64 0) rfl; have z1 := hb0.cell (i := 1) (v := .int .i64 0) rfl; have z2 := hb0.cell (i := 2) (v := .slice none 0 0) rfl; have zl := hb0.lt; have zf := hb0.free
    go_enter Tryz.func9, Tryz.ntmps9
    go_wp2
    exact bodyPost_ret (v := .tuple #[vGrid 0 0 none 0 0, .bool false]) (by simp [results, Tryz.results9, go_sem, z0, z1, z2]) rfl ⟨RjE.no hno.out, hx0⟩
end Go.Proofs.YthpnkcamjcohgaaGreatDoor
