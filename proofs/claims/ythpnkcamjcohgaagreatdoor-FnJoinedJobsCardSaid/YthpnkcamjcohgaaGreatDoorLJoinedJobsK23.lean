/- A row of a job, as the program writes it: a range over the runs of the row. -/
import Derived.Test.YthpnkcamjcohgaaGreatDoorLJoinedJobsK18
import Derived.Test.YthpnkcamjcohgaaGreatDoorLJoinedJobsK19
import Derived.Test.YthpnkcamjcohgaaGreatDoorLJoinedJobsK20
import Derived.Test.YthpnkcamjcohgaaGreatDoorLJoinedJobsK22
import Derived.Test.YthpnkcamjcohgaaGreatDoorLJoinedJobsK04
namespace Go.Proofs.YthpnkcamjcohgaaGreatDoor
set_option linter.unusedVariables false
set_option linter.unusedSimpArgs false
open Go.RowKit Go.Shelf

/-- The table of powers of ten lies below B. -/
def TabL (B : Nat) (w : World) : Prop := ∃ w0, Tab10 w0 ∧ w0.heap.size ≤ B ∧ Ext w0 w
theorem TabL.tab {B : Nat} {w : World} (h : TabL B w) : Tab10 w := by
  obtain ⟨w0, h1, _, h2⟩ := h
  exact h1.ext h2
theorem TabL.below {B : Nat} {w w' : World} (h : TabL B w) (hb : Below B w w') : TabL B w' := by
  obtain ⟨w0, h1, h2, h3⟩ := h
  exact ⟨w0, h1, h2, h3.low hb h2⟩
theorem Bd.kept {B b : Nat} {s : ByteArray} {w w' : World} {row : Option Nat} (h : Bd B b s w) (hg : w.grownBy w' row) (hr : ∀ r, row = some r → ∃ o : Obj, w.heap[r]? = some o ∧ o.isCells = false) : Bd B b s w' := by
  have key : ∀ p, Lib.BuilderAt 73 5 B b p (Lib.strCells s) w → Lib.BuilderAt 73 5 B b p (Lib.strCells s) w' := fun p hp => by
    refine bd_kept hp hg (fun e => ?_) (fun k v hbk hk e => ?_)
    · obtain ⟨o, ho, hc⟩ := hr b e
      obtain ⟨_, v, hbk, _⟩ := hp
      rw [hbk] at ho
      cases ho
      cases hc
    · obtain ⟨o, ho, hc⟩ := hr k e
      obtain ⟨_, v', hbk', hown, _⟩ := hp
      rw [hbk] at hbk'
      obtain rfl : v = v' := by
        have := Option.some.inj hbk'
        simp at this
        exact this
      rcases hown.2 with ⟨hv3, h0⟩ | ⟨g, cap, cur, hv3, _, hgb, _⟩
      · rw [hv3] at hk; simp [Value.ownBlock] at hk
      · rw [hv3] at hk
        simp [Value.ownBlock] at hk
        subst hk
        rw [hgb] at ho
        cases ho
        cases hc
  rcases h with h | h
  · exact .inl (key _ h)
  · exact .inr (key _ h)
theorem KpR.refl (B b : Nat) (w : World) : KpR B b w w := ⟨Below.refl _ _, fun _ _ h _ _ _ => h⟩
theorem KpR.box2 {B b g : Nat} {w w' : World} {t : TypeId} {v : Value} (h : KpR B b w w') (hb : Boxed w g t v) (hg : g ≠ b) (ht : t ≠ 5) : Boxed w' g t v :=
  h.2 g _ hb hg rfl (fun c fz e => by simp at e; exact ht e.2.1)
theorem KpR.of {B b : Nat} {w w' : World} (h1 : Below B w w') (h2 : Lib.OthersKept 5 (some b) w w') : KpR B b w w' :=
  ⟨h1, fun k o hk hb _ ho => h2 k o hk (fun e => hb (Option.some.inj e)) ho⟩
theorem KpR.ext {B b : Nat} {w w' : World} (h : Ext w w') (hB : B ≤ w.heap.size) : KpR B b w w' :=
  ⟨h.below.mono hB, fun k o hk _ _ _ => by rw [h.below.block k (Array.getElem?_eq_some_iff.1 hk).1]; exact hk⟩
theorem KpR.grown {B b : Nat} {w x y : World} {row : Option Nat} (h : KpR B b w x) (hB : B ≤ w.heap.size) (hg : x.grownBy y row) (hr : ∀ r, row = some r → B ≤ r ∧ ∃ o : Obj, x.heap[r]? = some o ∧ o.isCells = false) : KpR B b w y :=
  ⟨Below.grown h.1 hg (Nat.le_trans hB h.1.size) (fun r e => (hr r e).1), fun k o hk hb ho hu => by
    have h1 := h.2 k o hk hb ho hu
    rw [hg.block k (Array.getElem?_eq_some_iff.1 h1).1 (fun e => by
      obtain ⟨_, o', h2, h3⟩ := hr k e.symm
      rw [h1] at h2
      cases h2
      rw [ho] at h3
      cases h3)]
    exact h1⟩
set_option maxRecDepth 100000 in
theorem runs_c (p : Option Addr) (n c : Nat) (w : World) :
    Calls Tryz.prog 64 #[.slice p n c] w fun e w' => e = .returned (.func (.func 79) #[] #[.pointer (some ⟨w.heap.size, 0, none⟩)]) ∧ w' = w.alloc (.cells #[.slice p n c] 28) := by
  go_enter Tryz.func64, Tryz.ntmps64
  go_wp2
  go_ret
  exact ⟨rfl, rfl⟩
abbrev vW (b : Nat) : Value := .iface 71 (.pointer (some ⟨b, 0, none⟩))
set_option maxHeartbeats 1600000 in
set_option maxRecDepth 100000 in
theorem writeRow_c (B b : Nat) (s : ByteArray) (p : Option Addr) (c : Nat) (xs : List Int) (w : World) (h : Bd B b s w) (hz : z1 xs) (h4 : xs.length ≤ 40000) (hs : s.size ≤ 100000000) (hB : B ≤ w.heap.size) (hL : LowI B w p xs) (hT : TabL B w) :
    Calls Tryz.prog 47 #[vW b, .slice p xs.length c] w fun e w' => e = .returned (.tuple #[]) ∧ Bd B b (s ++ rowR xs xs.length) w' ∧ KpR B b w w' := by
  refine (callsIn_wide (n := 9)).1 ?_
  refine callsIn_of_wp_marks Tryz.func47 rfl trivial ?_ rfl
  simp only [Tryz.ntmps47, List.size_toArray, List.length_cons, List.length_nil, Nat.reduceAdd, Nat.reduceSub, Array.replicate_succ, Array.replicate_zero, List.push_toArray, List.append_toArray, List.nil_append, List.cons_append]
  gi_wp2_with (refine ⟨trivial, ?_⟩; gi_at_call 64; refine (callsIn_wide.2 (runs_c _ _ _ _)).mono ?_; rintro e w' ⟨rfl, rfl⟩)
  have hx1 : Ext w ((w.alloc (.cells #[vW b] 75)).alloc (.cells #[.slice p xs.length c] 28)) := ((Ext.refl w).alloc _).alloc _
  have hbl := h.lt
  have hW : Boxed ((w.alloc (.cells #[vW b] 75)).alloc (.cells #[.slice p xs.length c] 28)) w.heap.size 75 (vW b) := (Boxed.new w _ _).alloc _
  have hX : Boxed ((w.alloc (.cells #[vW b] 75)).alloc (.cells #[.slice p xs.length c] 28)) (w.heap.size + 1) 28 (.slice p xs.length c) := by
    have := Boxed.new (w.alloc (.cells #[vW b] 75)) 28 (.slice p xs.length c)
    rwa [World.size_alloc] at this
  have hzz : ((w.alloc (.cells #[vW b] 75)).alloc (.cells #[.slice p xs.length c] 28)).heap.size = w.heap.size + 2 := by simp
  generalize (w.alloc (.cells #[vW b] 75)).alloc (.cells #[.slice p xs.length c] 28) = w1 at *
  generalize hg0 : w.heap.size = g0 at *
  have hd1 := h.ext hx1
  have hL1 := hL.below (hx1.below.mono (by omega))
  have hT1 := hT.below (hx1.below.mono (by omega))
  have hk1 : KpR B b w w1 := KpR.ext hx1 (by omega)
  have hseq : SeqStopsK Fence.wide (9 - 1) Tryz.prog 79 #[.pointer (some ⟨g0 + 1, 0, none⟩)] (fun x : Rn => #[x.enc]) (KpR B b) (fun ys => ys = rnL xs xs.length) (fun _ => True) xs.length w1 := fun l J Jx W hW2 hJ _ hY h0 =>
    runs1_in (9 - 1) l B b (g0 + 1) p c xs hz h4 (by omega) J Jx hY W (fun s w n hs => hJ s w _ none hs ⟨rfl, rfl, rfl, Nat.le_refl _, fun _ _ _ => rfl⟩ (fun r e => by cases e)) ((hW2.block (g0 + 1) (by omega)).trans hX) (hL1.below (hW2.mono (by omega))) h0
  have hw := h
  clear hX hL hT hL1
  refine wpIn_rangeFunc_ownH rfl (by omega) (gf := 79) (lb := #[.pointer (some ⟨g0 + 1, 0, none⟩)]) rfl trivial (enters_of Tryz.func79 (by kernel_rfl) rfl) hseq (fun h k => KpR.trans h k)
    (fun W l o o' hl ho hc _ => KpR.grown (KpR.refl B b W) (by have := (Array.getElem?_eq_some_iff.1 ho).1; omega) (grownBy_putObj' W l o') (fun r e => by cases e; exact ⟨by omega, o, ho, hc⟩)) (Below.refl _ _) (fun _ => rfl)
    (fun pre W => Bd B b (txR s pre) W ∧ KpR B b w1 W) (fun _ _ _ => False)
    (fun t X Y row hs hg hr => ⟨hs.1.kept hg (fun r e => (hr r e).2), KpR.grown hs.2 (by omega) hg (fun r e => ⟨by have := (hr r e).1; omega, (hr r e).2⟩)⟩)
    (fun _ _ _ _ _ hs _ _ => hs) ⟨hd1, KpR.refl _ _ _⟩
    (fun r a' W => ∃ g, b < g ∧ Blk W g #[.int .i64 r.1, .int .i64 r.len, .bool r.2.2] 100 ∧ a' = { tmps := #[vW b, .slice p xs.length c, .pointer (some ⟨g0, 0, none⟩), undef, .pointer (some ⟨g, 0, none⟩), .slice p xs.length c, .func (.func 79) #[] #[.pointer (some ⟨g0 + 1, 0, none⟩)], r.enc, undef, undef, undef, undef, undef, undef, undef, undef, undef, undef, undef, undef, undef, undef], defers := [] })
    (fun x a' t X Y row hs hg hr => by
      obtain ⟨g, h1, h2, h3⟩ := hs
      refine ⟨g, h1, (hg.block g h2.lt (fun e => ?_)).trans h2, h3⟩
      obtain ⟨_, o, ho, hc⟩ := hr g e.symm
      rw [show X.heap[g]? = _ from h2] at ho
      cases ho
      cases hc) ?assign ?body ?done ?stop
  case assign =>
    intro l pre x W K hi hK
    have hsem := fun (ρ : Operand → Value) (o : Oper) (h : ∀ c, o.op ≠ .defer c) => Oper.semAt_some l ρ o h
    simp only [Rn.enc]
    gi_wp2
    exact hK _ _ ((KeepsOthers.alloc _ _).from _) (KpR.ext ((Ext.refl W).alloc _) (by have := hi.1.lt; have := hi.1.ge; omega)) ⟨hi.1.ext ((Ext.refl W).alloc _), KpR.trans hi.2 (KpR.ext ((Ext.refl W).alloc _) (by have := hi.1.lt; have := hi.1.ge; omega))⟩ ⟨W.heap.size, hi.1.lt, Blk.new _ _ _, rfl⟩
  case body =>
    rintro l pre x a' W hl - ⟨hd, hk⟩ ⟨g, hgb, hG, rfl⟩ hlen
    have hsem := fun (ρ : Operand → Value) (o : Oper) (h : ∀ c, o.op ≠ .defer c) => Oper.semAt_some l ρ o h
    simp only [Rn.enc]
    have g0' := hG.cell (i := 0) (v := .int .i64 x.1) rfl; have g1' := hG.cell (i := 1) (v := .int .i64 x.len) rfl; have g2' := hG.cell (i := 2) (v := .bool x.2.2) rfl; have gl := hG.lt
    have hmx : Tryz.prog.follows .mixedOrders = true := by kernel_rfl
    have hxl : x.len ≤ 40000 := by unfold Rn.len; omega
    have htz := txR_size s pre
    have hbx := hW
    replace hbx := hk.box2 hW (by omega) (by decide)
    have hTW := hT1.below hk.1
    have hdB := hd.ge
    have hdL := hd.lt
    gi_wp2
    generalize hvx : x.len = XL at *
    generalize hTX : txR s pre = TX at *
    replace hvx := Lib.hid hvx; replace hTX := Lib.hid hTX
    have hds := dec_size_le (n := XL) (by omega)
    refine wpIn_region_inv hmx (fun l a W' => ∃ l0 l1 l2 l3 l4 l5 l6 l7 : Bool, l = #[l0, l1, l2, l3, l4, l5, l6, l7] ∧ a = { tmps := #[vW b, .slice p xs.length c, .pointer (some ⟨g0, 0, none⟩), undef, .pointer (some ⟨g, 0, none⟩), .slice p xs.length c, .func (.func 79) #[] #[.pointer (some ⟨g0 + 1, 0, none⟩)], .agg #[.int .i64 x.1, .int .i64 XL, .bool x.2.2], cond l0 (vW b) undef, cond l1 (.pointer (some ⟨g, 1, none⟩)) undef, cond l2 (.int .i64 XL) undef, cond l3 (.string (dec XL)) undef, cond l4 (.func (.method "WriteString") #[vW b] #[]) undef, cond l5 (.func (.method "WriteString") #[vW b] #[]) undef, cond l6 (vW b) undef, cond l7 (.tuple #[.int .i64 (dec XL).size, .nilIface]) undef, undef, undef, undef, undef, undef, undef], defers := [] } ∧ Bd B b (cond l7 (TX ++ dec XL) TX) W' ∧ KpR B b W W' ∧ KeepsFrom w1.heap.size W W') ?_ ?_ (by kernel_rfl) ?_ ?_
    · exact ⟨false, false, false, false, false, false, false, false, rfl, rfl, hd, KpR.ext ((Ext.refl W).drew) (by omega), KeepsFrom.of_grownBy (row := none) (grown_drew W) (fun j e => by cases e)⟩
    · rintro l a W' ⟨l0, l1, l2, l3, l4, l5, l6, l7, rfl, -⟩
      rfl
    · rintro l a W' ⟨l0, l1, l2, l3, l4, l5, l6, l7, rfl, rfl, hd', hk', hf'⟩ hall
      have e0 := hall 0 (by decide); have e1 := hall 1 (by decide); have e2 := hall 2 (by decide); have e3 := hall 3 (by decide); have e4 := hall 4 (by decide); have e5 := hall 5 (by decide); have e6 := hall 6 (by decide); have e7 := hall 7 (by decide)
      simp at e0 e1 e2 e3 e4 e5 e6 e7
      subst e0 e1 e2 e3 e4 e5 e6 e7
      simp only [cond_true] at hd' ⊢
      clear hall
      have hbx' := (hk'.box2 hbx (by omega) (by decide)).cell
      have hbxL := (hk'.box2 hbx (by omega) (by decide)).lt
      have hG' : Blk W' g #[.int .i64 x.1, .int .i64 XL, .bool x.2.2] 100 := hk'.2 g _ hG (by omega) rfl (fun c fz e => by simp at e)
      have q2 := hG'.cell (i := 2) (v := .bool x.2.2) rfl
      have qL := hG'.lt
      have hdl' := hd'.lt
      have hsx := txR_snoc s pre x
      rw [hTX.out, hvx.out] at hsx
      have hkf : ∀ W3, Below B W' W3 → Lib.OthersKept 5 (some b) W' W3 → KeepsFrom w1.heap.size W W3 := fun W3 hb3 ho3 => hf'.trans ⟨hb3.size, fun k o _ hk hc => ho3 k o hk (fun e => by
        cases e
        obtain ⟨_, hat⟩ := hd'.at
        obtain ⟨_, v, hbk, _⟩ := hat
        rw [hbk] at hk
        cases hk
        cases hc) (fun c fz e => by subst e; cases hc)⟩
      have hme : ∀ w, (method (Tryz.prog.types.size + Made.depth) 71 (.pointer (some ⟨b, 0, none⟩)) "WriteString").run Tryz.prog w = .ok (129, .pointer (some ⟨b, 0, none⟩)) w := fun w => by kernel_rfl
      have hend : ∀ t, t = letB (if x.2.2 then 1 else 0) → txR s (pre ++ [x]) = TX ++ dec XL ++ t := fun t e => by rw [hsx, e]
      replace hend := Lib.hid hend; replace hkf := Lib.hid hkf
      clear g0' g1' g2' gl hd hG hbx hTW hseq hsx hme
      have hme : ∀ w, (method (Tryz.prog.types.size + Made.depth) 71 (.pointer (some ⟨b, 0, none⟩)) "WriteString").run Tryz.prog w = .ok (129, .pointer (some ⟨b, 0, none⟩)) w := fun w => by kernel_rfl
      replace hme := Lib.hid hme
      cases hdk : x.2.2
      · rw [hdk] at q2 hend
        gi_wp2_with (refine wpListIn_invoke (fun _ => trivial) (fun h => by cases h) 71 (.pointer (some ⟨b, 0, none⟩)) 129 Tryz.func129 (by kernel_rfl) (by kernel_rfl) rfl (hme.out _) ?_; simp only [List.map_toArray, List.map_cons, List.map_nil, List.append_toArray, List.cons_append, List.nil_append, Act.eval]; refine (CallsIn.inRound l (callsIn_wide.2 (writeString_c B b (TX ++ dec XL) _ W' hd' (by rw [ByteArray.size_append]; show _ + 1 ≤ _; omega) (by omega)))).mono ?_; rintro e w2 ⟨rfl, hd2, hb2, ho2⟩)
        exact ⟨hkf.out _ hb2 ho2, KpR.trans hk' (KpR.of hb2 ho2), by rw [hend.out _ rfl]; exact hd2, KpR.trans hk (KpR.trans hk' (KpR.of hb2 ho2))⟩
      · rw [hdk] at q2 hend
        gi_wp2_with (refine wpListIn_invoke (fun _ => trivial) (fun h => by cases h) 71 (.pointer (some ⟨b, 0, none⟩)) 129 Tryz.func129 (by kernel_rfl) (by kernel_rfl) rfl (hme.out _) ?_; simp only [List.map_toArray, List.map_cons, List.map_nil, List.append_toArray, List.cons_append, List.nil_append, Act.eval]; refine (CallsIn.inRound l (callsIn_wide.2 (writeString_c B b (TX ++ dec XL) _ W' hd' (by rw [ByteArray.size_append]; show _ + 1 ≤ _; omega) (by omega)))).mono ?_; rintro e w2 ⟨rfl, hd2, hb2, ho2⟩)
        exact ⟨hkf.out _ hb2 ho2, KpR.trans hk' (KpR.of hb2 ho2), by rw [hend.out _ rfl]; exact hd2, KpR.trans hk (KpR.trans hk' (KpR.of hb2 ho2))⟩
    · rintro l a W' i ⟨l0, l1, l2, l3, l4, l5, l6, l7, rfl, rfl, hd', hk', hf'⟩ hli ⟨o, ho, hed⟩
      have hbx' := (hk'.box2 hbx (by omega) (by decide)).cell
      have hG' : Blk W' g #[.int .i64 x.1, .int .i64 XL, .bool x.2.2] 100 := hk'.2 g _ hG (by omega) rfl (fun c fz e => by simp at e)
      have hTW' := hTW.below hk'.1
      have q1 := hG'.cell (i := 1) (v := .int .i64 XL) rfl
      have qL := hG'.lt
      have hbxL := (hk'.box2 hbx (by omega) (by decide)).lt
      clear g0' g1' g2' gl hd hG hbx hTW hseq
      have hdl' := hd'.lt
      have hfl : ∀ W3, Ext W' W3 → KeepsFrom w1.heap.size W W3 := fun W3 h => hf'.trans ⟨h.below.size, fun k o _ hk _ => by rw [h.below.block k (Array.getElem?_eq_some_iff.1 hk).1]; exact hk⟩
      match i, ho, hli with
      | 0, ho, hli =>
        refine inv_opIn ho (by simp at ho; subst ho; rfl) fun K hK => ?_
        simp at ho hli
        subst ho hli
        simp [Region.binds] at hed
        simp only [cond_true, cond_false] at hd' ⊢
        gi_wp2
        first | exact hK _ _ ⟨true, l1, l2, l3, l4, l5, l6, l7, rfl, rfl, hd', hk', hf'⟩ | exact ⟨true, l1, l2, l3, l4, l5, l6, l7, rfl, rfl, hd', hk', hf'⟩
      | 1, ho, hli =>
        refine inv_opIn ho (by simp at ho; subst ho; rfl) fun K hK => ?_
        simp at ho hli
        subst ho hli
        simp [Region.binds] at hed
        simp only [cond_true, cond_false] at hd' ⊢
        gi_wp2
        first | exact hK _ _ ⟨l0, true, l2, l3, l4, l5, l6, l7, rfl, rfl, hd', hk', hf'⟩ | exact ⟨l0, true, l2, l3, l4, l5, l6, l7, rfl, rfl, hd', hk', hf'⟩
      | 2, ho, hli =>
        refine inv_opIn ho (by simp at ho; subst ho; rfl) fun K hK => ?_
        simp at ho hli
        subst ho hli
        simp [Region.binds] at hed
        subst hed
        simp only [cond_true, cond_false] at hd' ⊢
        gi_wp2
        first | exact hK _ _ ⟨l0, true, true, l3, l4, l5, l6, l7, rfl, rfl, hd', hk', hf'⟩ | exact ⟨l0, true, true, l3, l4, l5, l6, l7, rfl, rfl, hd', hk', hf'⟩
      | 3, ho, hli =>
        refine inv_opIn ho (by simp at ho; subst ho; rfl) fun K hK => ?_
        simp at ho hli
        subst ho hli
        simp [Region.binds] at hed
        subst hed
        simp only [cond_true, cond_false] at hd' ⊢
        gi_wp2_with (refine ⟨trivial, ?_⟩; gi_at_call 46; refine (CallsIn.inRound l (callsIn_wide.2 (fmt_c XL _ (by omega) (by omega) hTW'.tab))).mono ?_; rintro e w' ⟨rfl, hx⟩)
        first | exact hK _ _ ⟨l0, l1, true, true, l4, l5, l6, l7, rfl, rfl, hd'.ext hx, KpR.trans hk' (KpR.ext hx (by omega)), hfl _ hx⟩ | exact ⟨l0, l1, true, true, l4, l5, l6, l7, rfl, rfl, hd'.ext hx, KpR.trans hk' (KpR.ext hx (by omega)), hfl _ hx⟩
      | 4, ho, hli =>
        refine inv_opIn ho (by simp at ho; subst ho; rfl) fun K hK => ?_
        simp at ho hli
        subst ho hli
        simp [Region.binds] at hed
        subst hed
        simp only [cond_true, cond_false] at hd' ⊢
        gi_wp2
        first | exact hK _ _ ⟨true, l1, l2, l3, true, l5, l6, l7, rfl, rfl, hd', hk', hf'⟩ | exact ⟨true, l1, l2, l3, true, l5, l6, l7, rfl, rfl, hd', hk', hf'⟩
      | 5, ho, hli =>
        refine inv_opIn ho (by simp at ho; subst ho; rfl) fun K hK => ?_
        simp at ho hli
        subst ho hli
        simp [Region.binds] at hed
        subst hed
        simp only [cond_true, cond_false] at hd' ⊢
        gi_wp2
        first | exact hK _ _ ⟨l0, l1, l2, l3, true, true, l6, l7, rfl, rfl, hd', hk', hf'⟩ | exact ⟨l0, l1, l2, l3, true, true, l6, l7, rfl, rfl, hd', hk', hf'⟩
      | 6, ho, hli =>
        refine inv_opIn ho (by simp at ho; subst ho; rfl) fun K hK => ?_
        simp at ho hli
        subst ho hli
        simp [Region.binds] at hed
        obtain ⟨rfl, rfl, rfl⟩ := hed
        simp only [cond_true, cond_false] at hd' ⊢
        gi_wp2
        first | exact hK _ _ ⟨true, l1, l2, l3, true, true, true, l7, rfl, rfl, hd', hk', hf'⟩ | exact ⟨true, l1, l2, l3, true, true, true, l7, rfl, rfl, hd', hk', hf'⟩
      | 7, ho, hli =>
        refine inv_opIn ho (by simp at ho; subst ho; rfl) fun K hK => ?_
        simp at ho hli
        subst ho hli
        simp [Region.binds] at hed
        obtain ⟨rfl, rfl⟩ := hed
        simp only [cond_true, cond_false] at hd' ⊢
        have hme : (method (Tryz.prog.types.size + Made.depth) 71 (.pointer (some ⟨b, 0, none⟩)) "WriteString").run Tryz.prog W' = .ok (129, .pointer (some ⟨b, 0, none⟩)) W' := by kernel_rfl
        refine oper_invokeIn (fun _ => trivial) (fun h => by cases h) 71 (.pointer (some ⟨b, 0, none⟩)) 129 Tryz.func129 (by kernel_rfl) (by kernel_rfl) rfl hme ?_
        simp only [List.map_toArray, List.map_cons, List.map_nil, List.append_toArray, List.cons_append, List.nil_append, Act.eval]
        refine (CallsIn.inRound l (callsIn_wide.2 (writeString_c B b TX (dec XL) W' hd' (by omega) (by omega)))).mono ?_
        rintro e w' ⟨rfl, hd2, hb2, ho2⟩
        exact hK _ _ ⟨l0, l1, l2, true, l4, l5, true, true, rfl, rfl, hd2, KpR.trans hk' (KpR.of hb2 ho2), hf'.trans ⟨hb2.size, fun k o _ hk hc => ho2 k o hk (fun e => by
          cases e
          obtain ⟨_, hat⟩ := hd'.at
          obtain ⟨_, v, hbk, _⟩ := hat
          rw [hbk] at hk
          cases hk
          cases hc) (fun c fz e => by subst e; cases hc)⟩⟩
      | i + 8, ho, hli => simp at ho
  case done =>
    rintro D ys W hD rfl ⟨hd, hk⟩ hK
    gi_wp2
    refine ⟨by simp, .inl ⟨_, _, rfl, run_takeDeferred hK, ?_⟩⟩
    rw [txR_row s hz h4 _ (Nat.le_refl _)] at hd
    refine ⟨_, results_none rfl _ _ _, rfl, hd.kept (grownBy_putObj' W D _) (fun r e => by cases e; exact ⟨_, hK, rfl⟩), KpR.grown (KpR.trans hk1 hk) (by omega) (grownBy_putObj' W D _) (fun r e => by cases e; exact ⟨by omega, _, hK, rfl⟩)⟩
  case stop =>
    rintro D c pre W _ _ h _
    exact h.elim
end Go.Proofs.YthpnkcamjcohgaaGreatDoor
