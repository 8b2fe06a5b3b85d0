/- How an argument of a law reads: by its shape, once for all types without pointers and maps. -/
import Derived.Test.YtojdediohjghnaaGreatDoorLSurvivesDamageK00
import Derived.Lib.AppendStr
import Derived.Laws.IdiomStrings
import Derived.Lib.BufferRead
set_option linter.unusedVariables false
set_option linter.unusedSimpArgs false
namespace Go.Proofs.YtojdediohjghnaaGreatDoor
open Go.RowKit Go.ChangeShapes Go.WideShapes

theorem lawOwn : ownKnob Tryz.prog.godebug = none := by kernel_rfl
theorem lawLaid : laidOutB Tryz.prog = true := by kernel_rfl

inductive Sh where
 | i (k : IntKind)
 | b
 | str
 | st (fs : List Sh)
 | sl (e : Sh)

mutual
def Sh.size : Sh → Nat
 | .st fs => Sh.sizes fs
 | .i _ => 1
 | .b => 1
 | .str => 1
 | .sl _ => 1
def Sh.sizes : List Sh → Nat
 | [] => 0
 | f :: fs => f.size + Sh.sizes fs
end

mutual
def rd (w : World) : Sh → List Value → Prop
 | .i k, cs => ∃ n, cs = [.int k n] ∧ (Lit.int k n).wf = true
 | .b, cs => ∃ x, cs = [.bool x]
 | .str, cs => ∃ s, cs = [.string s] ∧ s.size ≤ maxLen
 | .st fs, cs => rds w fs cs
 | .sl e, cs => cs = [.slice none 0 0] ∨ ∃ a len cap, cs = [.slice (some a) len cap] ∧ len ≤ cap ∧ cap ≤ maxLen ∧
   ∀ i, i < len → ∃ cs', cs'.length = e.size ∧ (∀ j, j < e.size → w.cell? (a.add (i * e.size + j)) = cs'[j]?) ∧ rd w e cs'
def rds (w : World) : List Sh → List Value → Prop
 | [], cs => cs = []
 | f :: fs, cs => rd w f (cs.take f.size) ∧ rds w fs (cs.drop f.size)
end

mutual
def shOK (P : Program) : Nat → TypeId → Sh → Bool
 | 0, _, _ => false
 | _ + 1, t, .i k => match P.underlying t with | some (.int k') => k == k' | _ => false
 | _ + 1, t, .b => match P.underlying t with | some .bool => true | _ => false
 | _ + 1, t, .str => match P.underlying t with | some .string => true | _ => false
 | n + 1, t, .sl e => match P.underlying t with | some (.slice et) => P.cellsOf et == e.size && shOK P n et e | _ => false
 | n + 1, t, .st fs => match P.underlying t with | some (.struct fl) => P.cellsOf t == Sh.sizes fs && shsOK P n fl.toList fs 0 | _ => false
def shsOK (P : Program) : Nat → List Field → List Sh → Nat → Bool
 | _, [], [], _ => true
 | 0, _, _, _ => false
 | n + 1, f :: fl, s :: fs, off => f.offset == off && P.cellsOf f.type == s.size && shOK P n f.type s && shsOK P n fl fs (off + s.size)
 | _, _, _, _ => false
end

section
variable {H : Type} {enc : TypeId × Value → H} {P : Program} {w : World} {spare : Nat → Bool} {held : Bool} {base : Nat}

theorem rds_of (n : Nat) (ih : ∀ t s, shOK P n t s = true → ∀ fuel cs x, DataW.trod enc P w base spare held fuel t cs = some x → rd w s cs) :
  ∀ (m : Nat) (fl : List Field) (fs : List Sh) (off : Nat) (cs : List Value) (m' : Nat), m ≤ n → (∀ m t s, m ≤ n → shOK P m t s = true → shOK P n t s = true) → shsOK P m fl fs off = true →
   cs.length = off + Sh.sizes fs →
   (∀ (f : Field), f ∈ fl → ∃ x, DataW.trod enc P w base spare held m' f.type ((cs.drop f.offset).take (P.cellsOf f.type)) = some x) →
   rds w fs (cs.drop off) := by
 intro m
 induction m with
 | zero =>
  intro fl fs off cs m' _ _ hok hlen hall
  match fl, fs with
  | [], [] => simp [Sh.sizes] at hlen; simp [rds, hlen]
  | _ :: _, [] => simp [shsOK] at hok
  | [], _ :: _ => simp [shsOK] at hok
  | _ :: _, _ :: _ => simp [shsOK] at hok
 | succ m ihm =>
  intro fl fs off cs m' hm hup hok hlen hall
  match fl, fs with
  | [], [] => simp [Sh.sizes] at hlen; simp [rds, hlen]
  | _ :: _, [] => simp [shsOK] at hok
  | [], _ :: _ => simp [shsOK] at hok
  | f :: fl, s :: fs =>
   simp only [shsOK, Bool.and_eq_true, beq_iff_eq] at hok
   obtain ⟨⟨⟨ho, hc⟩, hs⟩, hr⟩ := hok
   obtain ⟨x, hx⟩ := hall f (by simp)
   rw [ho, hc] at hx
   have h1 := ih f.type s (hup m _ _ (by omega) hs) _ _ _ hx
   have h2 := ihm fl fs (off + s.size) cs m' (by omega) hup hr (by simp only [Sh.sizes] at hlen; omega) (fun g hg => hall g (by simp [hg]))
   refine ⟨h1, ?_⟩
   rwa [List.drop_drop]

theorem shOK_up : ∀ (m : Nat), (∀ t s, shOK P m t s = true → shOK P (m + 1) t s = true) ∧ (∀ fl fs off, shsOK P m fl fs off = true → shsOK P (m + 1) fl fs off = true) := by
 intro m
 induction m with
 | zero =>
  refine ⟨fun t s h => by simp [shOK] at h, fun fl fs off h => ?_⟩
  match fl, fs with
  | [], [] => simp [shsOK]
  | _ :: _, [] => simp [shsOK] at h
  | [], _ :: _ => simp [shsOK] at h
  | _ :: _, _ :: _ => simp [shsOK] at h
 | succ m ih =>
  refine ⟨fun t s h => ?_, fun fl fs off h => ?_⟩
  ·cases s with
   | i k => simpa only [shOK] using h
   | b => simpa only [shOK] using h
   | str => simpa only [shOK] using h
   | st fs =>
    simp only [shOK] at h ⊢
    split at h
    ·simp only [Bool.and_eq_true] at h ⊢
     exact ⟨h.1, ih.2 _ _ _ h.2⟩
    ·simp at h
   | sl e =>
    simp only [shOK] at h ⊢
    split at h
    ·simp only [Bool.and_eq_true] at h ⊢
     exact ⟨h.1, ih.1 _ _ h.2⟩
    ·simp at h
  ·match fl, fs with
   | [], [] => simp [shsOK]
   | _ :: _, [] => simp [shsOK] at h
   | [], _ :: _ => simp [shsOK] at h
   | f :: fl, s :: fs =>
    simp only [shsOK, Bool.and_eq_true] at h ⊢
    exact ⟨⟨h.1.1, ih.1 _ _ h.1.2⟩, ih.2 _ _ _ h.2⟩

theorem shOK_le {m n : Nat} (h : m ≤ n) {t : TypeId} {s : Sh} (hs : shOK P m t s = true) : shOK P n t s = true := by
 induction h with
 | refl => exact hs
 | step _ ih => exact (shOK_up _).1 _ _ ih

theorem trod_rd : ∀ (n : Nat) t s, shOK P n t s = true → ∀ fuel cs x, DataW.trod enc P w base spare held fuel t cs = some x → rd w s cs := by
 intro n
 induction n with
 | zero => intro t s h; simp [shOK] at h
 | succ n ih =>
  intro t s hok fuel cs x h
  cases s with
  | i k =>
   simp only [shOK] at hok
   split at hok
   ·rename_i hu
    obtain rfl := by simpa using hok
    obtain ⟨n, h1, _, h2⟩ := DataW.trod_int hu h
    exact ⟨n, h1, h2⟩
   ·simp at hok
  | b =>
   simp only [shOK] at hok
   split at hok
   ·rename_i hu
    obtain ⟨n, h1, _⟩ := DataW.trod_bool hu h
    exact ⟨n, h1⟩
   ·simp at hok
  | str =>
   simp only [shOK] at hok
   split at hok
   ·rename_i hu
    obtain ⟨n, h1, _, h2⟩ := DataW.trod_string hu h
    exact ⟨n, h1, h2⟩
   ·simp at hok
  | st fs =>
   simp only [shOK] at hok
   split at hok
   ·rename_i fl hu
    simp only [Bool.and_eq_true, beq_iff_eq] at hok
    obtain ⟨xs, m, _, _, hlen, hxl, hf⟩ := DataW.trod_struct hu h
    have := rds_of n ih n fl.toList fs 0 cs m (Nat.le_refl _) (fun m t s hm hs => shOK_le hm hs) hok.2 (by omega) (fun f hfm => by
     obtain ⟨j, hj, rfl⟩ := List.mem_iff_getElem.1 hfm
     have hj' : j < fl.size := by simpa using hj
     have := hf j fl[j] (by simp [hj'])
     rw [List.getElem?_eq_getElem (by omega)] at this
     exact ⟨_, by simpa using this⟩)
    simpa [rd] using this
   ·simp at hok
  | sl e =>
   simp only [shOK] at hok
   split at hok
   ·rename_i et hu
    simp only [Bool.and_eq_true, beq_iff_eq] at hok
    rcases DataW.trod_slice hu h with h0 | ⟨a, len, cap, elems, rest, m, _, h1, _, hb, hl, hm, hlen, hel, _⟩
    ·exact .inl h0.1
    ·refine .inr ⟨a, len, cap, h1, hl, hm, fun i hi => ?_⟩
     have := hel i hi
     rw [List.getElem?_eq_getElem (by omega), hok.1] at this
     obtain ⟨cs', hcs, ht⟩ := Option.bind_eq_some_iff.1 this
     obtain ⟨_, hcl, hat⟩ := World.cells?_some hcs
     refine ⟨cs', hcl, fun j hj => ?_, ih _ _ hok.2 _ _ _ ht⟩
     rw [← hat j hj]
     congr 1
     simp only [Addr.add]
     by_cases h1 : i * e.size = 0 <;> by_cases h2 : j = 0 <;> simp [h1, h2] <;> omega
   ·simp at hok

theorem open_sh {t : TypeId} {v : Value} {d : DataW H} {p : List MemPlace} (n : Nat) (s : Sh) (hok : shOK P n t s = true)
  (h : DataW.Trod enc P w base spare held t v d p) : rd w s v.cells.toList := by
 obtain ⟨fuel, hf⟩ := h
 exact trod_rd n t s hok _ _ _ hf

theorem arg_st {r : Reach} {b0 : Nat} {t : TypeId} {v : Value} {d : DataW H} {p : List MemPlace} {fl : Array Field} (n : Nat) (fs : List Sh) (hok : shOK P n t (.st fs) = true) (hu : P.underlying t = some (.struct fl))
  (hv : Value.okWide P w r b0 t v) (h : DataW.Trod enc P w base spare held t v d p) : ∃ cs : List Value, v = .agg cs.toArray ∧ rds w fs cs := by
 obtain ⟨cs, rfl, _⟩ := okWide_struct hu hv
 have := open_sh n _ hok h
 exact ⟨cs.toList, by simp, by simpa [rd, Value.cells] using this⟩

end

section
variable {w : World}
theorem rds_one {f : Sh} {fs : List Sh} {cs : List Value} (hf : f.size = 1) (hc : ∀ cs, rd w f cs → cs.length = 1) (h : rds w (f :: fs) cs) : ∃ c cs', cs = c :: cs' ∧ rd w f [c] ∧ rds w fs cs' := by
 obtain ⟨h1, h2⟩ := h
 rw [hf] at h1 h2
 match cs with
 | [] => have := hc _ h1; simp at this
 | c :: cs' => exact ⟨c, cs', rfl, by simpa using h1, by simpa using h2⟩
theorem rds_int {k : IntKind} {fs : List Sh} {cs : List Value} (h : rds w (.i k :: fs) cs) : ∃ n cs', cs = .int k n :: cs' ∧ (Lit.int k n).wf = true ∧ rds w fs cs' := by
 obtain ⟨c, cs', rfl, ⟨n, h1, h2⟩, h3⟩ := rds_one (by rfl) (fun cs h => by obtain ⟨n, h, _⟩ := h; rw [h]; rfl) h
 simp at h1
 subst h1
 exact ⟨n, cs', rfl, h2, h3⟩
theorem rds_str {fs : List Sh} {cs : List Value} (h : rds w (.str :: fs) cs) : ∃ s cs', cs = .string s :: cs' ∧ s.size ≤ maxLen ∧ rds w fs cs' := by
 obtain ⟨c, cs', rfl, ⟨n, h1, h2⟩, h3⟩ := rds_one (by rfl) (fun cs h => by obtain ⟨n, h, _⟩ := h; rw [h]; rfl) h
 simp at h1
 subst h1
 exact ⟨n, cs', rfl, h2, h3⟩
theorem rds_sl {e : Sh} {fs : List Sh} {cs : List Value} (h : rds w (.sl e :: fs) cs) : ∃ c cs', cs = c :: cs' ∧ rd w (.sl e) [c] ∧ rds w fs cs' :=
 rds_one (by rfl) (fun cs h => by rcases h with h | ⟨_, _, _, h, _⟩ <;> rw [h] <;> rfl) h
theorem rds_st {gs fs : List Sh} {cs : List Value} (h : rds w (.st gs :: fs) cs) : ∃ c1 c2, cs = c1 ++ c2 ∧ rds w gs c1 ∧ rds w fs c2 := by
 obtain ⟨h1, h2⟩ := h
 exact ⟨cs.take _, cs.drop _, (List.take_append_drop _ _).symm, h1, h2⟩
theorem rds_nil {cs : List Value} (h : rds w [] cs) : cs = [] := h
end

theorem cell_lt {w : World} {a : Addr} {v : Value} (h : w.cell? a = some v) : a.block < w.heap.size ∧ a.spot = none := by
 unfold World.cell? at h
 split at h
 ·rename_i e
  refine ⟨by have := (Array.getElem?_eq_some_iff.1 e).1; exact this, ?_⟩
  cases hs : a.spot with
  | none => rfl
  | some x => simp [hs] at h
 ·simp at h

theorem rd_ints {w : World} {v : Value} (h : rd w (.sl (.i .i64)) [v]) : ∃ p cap xs, v = .slice p xs.length cap ∧ xs.length ≤ maxLen ∧ IntsAt w p xs ∧ ∀ x ∈ xs, (Lit.int .i64 x).wf = true := by
 rcases h with h | ⟨a, len, cap, h, hl, hm, hc⟩
 ·simp at h
  exact ⟨none, 0, [], by simpa using h, by simp, fun i hi => by simp at hi, by simp⟩
 ·simp at h
  obtain ⟨b, o, sp⟩ := a
  let f : Nat → Int := fun i => match w.cell? ((⟨b, o, sp⟩ : Addr).add i) with | some (.int _ n) => n | _ => 0
  have hf : ∀ i, i < len → w.cell? ((⟨b, o, sp⟩ : Addr).add i) = some (.int .i64 (f i)) ∧ (Lit.int .i64 (f i)).wf = true := by
   intro i hi
   obtain ⟨cs', h1, h2, n, h3, h4⟩ := hc i hi
   have := h2 0 (by simp [Sh.size])
   simp [Sh.size, h3] at this
   simp only [f, this, true_and]
   exact h4
  refine ⟨some ⟨b, o, sp⟩, cap, (List.range len).map f, by simpa using h, by simp; omega, fun i hi => ?_, fun x hx => ?_⟩
  ·simp at hi
   have h0 := (cell_lt (hf 0 (by omega)).1).2
   have h1 : sp = none := by simpa [Addr.add] using h0
   subst h1
   have hi' := (hf i hi).1
   have hb := (cell_lt hi').1
   rw [addr_add] at hi' hb
   refine ⟨b, o, rfl, hb, ?_⟩
   rw [List.getD_eq_getElem?_getD, List.getElem?_map, List.getElem?_range hi]
   exact hi'
  ·simp at hx
   obtain ⟨i, hi, rfl⟩ := hx
   exact (hf i hi).2

end Go.Proofs.YtojdediohjghnaaGreatDoor
/- Slices of whole numbers: equality, marks, copies. Contracts of the laws' helpers. -/
namespace Go.Proofs.YtojdediohjghnaaGreatDoor
open Go.RowKit

def OwnInts (B : Nat) (w : World) (p : Option Addr) (xs : List Int) : Prop :=
 ∀ i, i < xs.length → ∃ b o, p = some ⟨b, o, none⟩ ∧ B ≤ b ∧ b < w.heap.size ∧ w.cell? ⟨b, o + i, none⟩ = some (.int .i64 (xs.getD i 0)) ∧ w.frozen? ⟨b, o + i, none⟩ = false
theorem OwnInts.ints {B : Nat} {w : World} {p : Option Addr} {xs : List Int} (h : OwnInts B w p xs) : IntsAt w p xs := fun i hi => by
 obtain ⟨b, o, h1, _, h2, h3, _⟩ := h i hi
 exact ⟨b, o, h1, h2, h3⟩
theorem OwnInts.nil (B : Nat) (w : World) (p : Option Addr) : OwnInts B w p [] := fun i hi => absurd hi (Nat.not_lt_zero i)
theorem OwnInts.ext {B : Nat} {w w' : World} {p : Option Addr} {xs : List Int} (h : OwnInts B w p xs) (hb : Ext w w') : OwnInts B w' p xs := fun i hi => by
 obtain ⟨b, o, h1, hB, h2, h3, h4⟩ := h i hi
 obtain ⟨hc, hf, hk, _⟩ := ecell hb
 exact ⟨b, o, h1, hB, hk _ h2, by rw [hc _ _ h2]; exact h3, by rw [hf _ _ h2]; exact h4⟩
theorem OwnInts.mono {B B' : Nat} {w : World} {p : Option Addr} {xs : List Int} (h : OwnInts B w p xs) (hB : B' ≤ B) : OwnInts B' w p xs := fun i hi => by
 obtain ⟨b, o, h1, h0, h2⟩ := h i hi
 exact ⟨b, o, h1, Nat.le_trans hB h0, h2⟩

def Wrote (p : Option Addr) (w w' : World) : Prop :=
 w'.os = w.os ∧ w'.tape = w.tape ∧ w'.output = w.output ∧ w'.heap.size = w.heap.size ∧ ∀ k, (∀ a, p = some a → a.block ≠ k) → w'.heap[k]? = w.heap[k]?
theorem Wrote.refl (p : Option Addr) (w : World) : Wrote p w w := ⟨rfl, rfl, rfl, rfl, fun _ _ => rfl⟩
theorem Wrote.setCell {p : Option Addr} {w w' : World} (h : Wrote p w w') {b o o' : Nat} (hp : p = some ⟨b, o, none⟩) (v : Value) : Wrote p w (w'.setCell ⟨b, o', none⟩ v) := by
 obtain ⟨h1, h2, h3, h4, h5⟩ := h
 refine ⟨h1, h2, h3, by simpa [World.setCell] using h4, fun k hk => ?_⟩
 rw [Below.heap_setCell w' ⟨b, o', none⟩ v k (fun e => hk _ hp e.symm)]
 exact h5 k hk
theorem Wrote.ints {p q : Option Addr} {w w' : World} {ys : List Int} (h : Wrote p w w') (hy : IntsAt w q ys) (hd : ∀ a c, p = some a → q = some c → a.block ≠ c.block) : IntsAt w' q ys := fun i hi => by
 obtain ⟨b, o, h1, h2, h3⟩ := hy i hi
 obtain ⟨_, _, _, h4, h5⟩ := h
 exact ⟨b, o, h1, by omega, by rw [World.cell?_of_block (w := w) (a := ⟨b, o + i, none⟩) (h5 b fun a ha => hd a _ ha h1)]; exact h3⟩
theorem Wrote.ext {p : Option Addr} {w w0 w' : World} (h : Wrote p w w') (hx : Ext w0 w) (hB : ∀ a, p = some a → w0.heap.size ≤ a.block) : Ext w0 w' := by
 obtain ⟨h1, h2, h3, h4, h5⟩ := h
 have hx' := hx.below
 refine ⟨h1.trans hx'.os, h2.trans hx'.tape, h3.trans hx'.output, by rw [h4]; exact hx'.size, fun k hk => ?_⟩
 rw [h5 k fun a ha => by have := hB a ha; omega]
 exact hx'.block k hk
theorem OwnInts.set {B : Nat} {w : World} {p : Option Addr} {xs : List Int} (h : OwnInts B w p xs) {k b o : Nat} (hp : p = some ⟨b, o, none⟩) (hk : k < xs.length) (v : Int) :
  OwnInts B (w.setCell ⟨b, o + k, none⟩ (.int .i64 v)) p (xs.set k v) := fun i hi => by
 rw [List.length_set] at hi
 obtain ⟨b', o', h1, hB, h2, h3, h4⟩ := h i hi
 have e : b' = b ∧ o' = o := by rw [hp] at h1; simp at h1; omega
 obtain ⟨rfl, rfl⟩ := e
 refine ⟨b', o', hp, hB, by simpa [World.setCell] using h2, ?_, by rw [World.frozen?_setCell]; exact h4⟩
 by_cases e : i = k
 ·subst e
  rw [World.cell?_setCell_same w _ _ h3]
  simp [hk]
 ·rw [World.cell?_setCell_other w _ _ _ (by simp <;> omega), h3]
  simp [List.getElem?_set_ne (Ne.symm e)]

theorem eqInt64S_c (p q : Option Addr) (c d : Nat) (xs ys : List Int) (w : World) (hx : IntsAt w p xs) (hy : IntsAt w q ys) (hl : xs.length ≤ 1099511627776) (hl2 : ys.length ≤ 1099511627776) :
  Calls Tryz.prog 30 #[.slice p xs.length c, .slice q ys.length d] w fun e w' => isB e (xs = ys) ∧ ∃ n, w' = w.drewN n := by
 by_cases hlen : xs.length = ys.length
 ·have HL := Lib.hid hlen
  have hl3 : (((xs.length : Int)) != ys.length) = false := by simp [hlen]
  clear hlen
  go_enter Tryz.func30, Tryz.ntmps30
  go_wp2
  go_loopw [5] (fun i wr => ∃ k : Nat, k ≤ xs.length ∧ i = .int .i64 k ∧ Hid (xs.take k = ys.take k) ∧ ∃ n, wr = w.drewN n) (fun i _ => xs.length - (intOf i).toNat)
  case atStart => exact ⟨0, Nat.zero_le _, rfl, rfl, 0, rfl⟩
  case round =>
   obtain ⟨k, hk, rfl, HE, n, rfl⟩ := hrel
   by_cases hlt : k < xs.length
   ·have hlt2 : k < ys.length := by have := HL.out; omega
    obtain ⟨b, o, rfl, _, h1⟩ := hx k hlt
    obtain ⟨b2, o2, rfl, _, h2⟩ := hy k hlt2
    clear hx hy
    go_wp2
    go_quiet (fail)
    go_wp2
    ·have hne : xs[k] ≠ ys[k] := by simpa using (by assumption : (xs[k] != ys[k]) = true)
     go_ret
     exact ⟨isB_f (fun h => hne (by subst h; rfl)), n + nq, World.drewN_drewN ..⟩
    ·have he : xs[k] = ys[k] := by simpa using (by assumption : (xs[k] != ys[k]) = false)
     go_roundw
     case rel => exact ⟨k + 1, hlt, by go_num, by show _ = _; rw [List.take_succ_eq_append_getElem hlt, List.take_succ_eq_append_getElem hlt2, HE.out, he], n + nq, by simp⟩
     case measure => simp [intOf]; omega
   ·clear hx hy
    go_wp2
    go_ret
    refine ⟨isB_t ?_, _, rfl⟩
    have h1 := HE.out
    have h2 := HL.out
    rwa [List.take_of_length_le (by omega), List.take_of_length_le (by omega)] at h1
 ·have hl3 : (((xs.length : Int)) != ys.length) = true := by simp; omega
  clear hx hy
  have HL := Lib.hid hlen; clear hlen
  go_enter Tryz.func30, Tryz.ntmps30
  go_wp2
  go_ret
  exact ⟨isB_f (fun h => HL.out (by rw [h])), 0, rfl⟩

theorem IntsAt.below {B : Nat} {q : Option Addr} {w1 w w' : World} {ys : List Int} (hq : IntsAt w1 q ys) (hx : Ext w1 w) (hb : Below B w w') (hB : w1.heap.size ≤ B) : IntsAt w' q ys := hq.ext (hx.low hb hB)

open Go.RowKit

theorem infoInt : (Tryz.prog.info? 2).map (fun i => (i.zero, i.size, i.bytes)) = some (some (.int .i64 0), 1, 8) := by kernel_rfl

def RowI (B : Nat) (w : World) (v : Value) (xs : List Int) : Prop := w.ownsRow B 2 1 v xs.length (xs.map (Value.int .i64))

theorem RowI.nil (B : Nat) (w : World) : RowI B w (.slice none 0 0) [] := World.ownsRow_nil _ _ _ _
theorem RowI.alloc {B : Nat} {w : World} {v : Value} {xs : List Int} (h : RowI B w v xs) (o : Obj) : RowI B (w.alloc o) v xs := World.ownsRow.alloc h o
theorem RowI.lt {B : Nat} {w : World} {v : Value} {xs : List Int} (h : RowI B w v xs) : ∀ k, v.ownBlock = some k → B ≤ k ∧ k < w.heap.size := World.ownsRow.lt h
theorem RowI.mono {B B' : Nat} {w : World} {v : Value} {xs : List Int} (h : RowI B w v xs) (hB : B' ≤ B) : RowI B' w v xs := by
 refine ⟨h.1, ?_⟩
 rcases h.2 with h2 | ⟨g, cap, cur, hv, hg, r⟩
 ·exact .inl h2
 ·exact .inr ⟨g, cap, cur, hv, Nat.le_trans hB hg, r⟩
theorem RowI.below {B B' : Nat} {w w' : World} {v : Value} {xs : List Int} (h : RowI B w v xs) (hb : Below B' w w') (hB : ∀ k, v.ownBlock = some k → k < B') : RowI B w' v xs := by
 refine ⟨h.1, ?_⟩
 rcases h.2 with h2 | ⟨g, cap, cur, hv, hg, hh, r⟩
 ·exact .inl h2
 ·exact .inr ⟨g, cap, cur, hv, hg, by rw [hb.block g (hB g (by rw [hv]; rfl))]; exact hh, r⟩
theorem RowI.ext {B : Nat} {w w' : World} {v : Value} {xs : List Int} (h : RowI B w v xs) (hb : Ext w w') : RowI B w' v xs :=
 h.below hb.below fun k hk => (h.lt k hk).2
theorem RowI.drewN {B : Nat} {w : World} {v : Value} {xs : List Int} (h : RowI B w v xs) (n : Nat) : RowI B (w.drewN n) v xs := h
theorem RowI.own {B : Nat} {w : World} {v : Value} {xs : List Int} (h : RowI B w v xs) : ∃ p c, v = .slice p xs.length c ∧ OwnInts B w p xs := by
 rcases h.2 with ⟨h2, hn⟩ | ⟨g, cap, cur, hv, hg, hh, r⟩
 ·have : xs = [] := List.eq_nil_of_length_eq_zero hn
  subst this
  exact ⟨none, 0, h2, OwnInts.nil _ _ _⟩
 ·refine ⟨some ⟨g, 0, none⟩, cap, hv, fun i hi => ⟨g, 0, rfl, hg, ?_, ?_, ?_⟩⟩
  ·exact (Array.getElem?_eq_some_iff.1 hh).1
  ·have h' : w.ownsRow B 2 1 (.slice (some ⟨g, 0, none⟩) xs.length cap) xs.length (xs.map (Value.int .i64)) := by rw [← hv]; exact h
   have := h'.cellAt i (by omega)
   rw [Nat.zero_add, this]
   simp [hi]
  ·have h' : w.ownsRow B 2 1 (.slice (some ⟨g, 0, none⟩) xs.length cap) xs.length (xs.map (Value.int .i64)) := by rw [← hv]; exact h
   exact h'.frozenAt _

theorem RowI.ownC {B : Nat} {w : World} {v : Value} {xs : List Int} (h : RowI B w v xs) : ∃ p c, v = .slice p xs.length c ∧ OwnInts B w p xs ∧ xs.length ≤ c := by
 obtain ⟨p, c, hv, ho⟩ := h.own
 refine ⟨p, c, hv, ho, ?_⟩
 rcases h.2 with ⟨h2, hn⟩ | ⟨g, cap, cur, h2, _, _, hc, _⟩
 ·omega
 ·rw [hv] at h2
  simp at h2
  omega
theorem RowI.made {B : Nat} {w : World} (hB : B ≤ w.heap.size) : RowI B (w.alloc (.cells #[] 2)) (.slice (some ⟨w.heap.size, 0, none⟩) 0 0) [] :=
 World.ownsRow_made w #[] 0 hB (by unfold maxLen; omega) rfl

section
variable {ops : Array Oper} {Q : Exit → Act → World → Prop} {rest : List Oper} {a : Act} {dst : Option Tmp} {s x : Operand} {ty : TypeId} {pos : String} {after : Array Edge} {B : Nat} {w0 : World} {v : Value} {xs : List Int} {n : Int}
theorem append1I (hown : RowI B w0 v xs) (hlen : xs.length < 1099511627776) (hB : B ≤ w0.heap.size)
  (h : ∀ v' w', RowI B w' v' (xs ++ [n]) → Below B w0 w' → wpList Tryz.prog ops Q rest (a.put dst v') w') (hs : a.eval s = v) (hx : a.eval x = .slice (some ⟨w0.heap.size, 0, none⟩) 1 1) :
  wpList Tryz.prog ops Q (⟨dst, .call { callee := .builtin .append, args := #[s, x], argTypes := #[24, 24] }, ty, pos, after, none⟩ :: rest) a (w0.alloc (.cells #[.int .i64 n] 2)) := by
 obtain ⟨i0, hi, hz0, hz1, hz2⟩ := info_parts infoInt
 refine wpList_append_own _ rfl s x 24 rfl B 2 i0 (.int .i64 0) 1 8 Tryz.underlying24 hi hz0 hz1 hz2 rfl (by decide) v xs.length (xs.map (Value.int .i64)) hs (World.ownsRow.alloc hown _) ⟨w0.heap.size, 0, none⟩ 1 1 [.int .i64 n] hx rfl ?_ ?_ ?_ ?_ ?_ ?_
 ·intro j u hj
  match j, hj with
  | 0, hj =>
   simp at hj
   subst hj
   have : (w0.alloc (.cells #[.int .i64 n] 2)).heap[w0.heap.size]? = some (.cells #[.int .i64 n] 2) := (MapKept.heap_alloc w0 _).1
   simp only [World.cell?, Addr.add, if_true, this]
   rfl
  | j + 1, hj => simp at hj
 ·intro u hu
  simp at hu
  subst hu
  rfl
 ·unfold maxLen; omega
 ·omega
 ·simp; omega
 ·intro v' w' h1 h2 _
  refine h v' w' ?_ ?_
  ·have e : (xs ++ [n]).length = xs.length + 1 := by simp
   unfold RowI
   rw [e]
   simpa using h1
  ·exact Below.grown ((Below.refl B w0).alloc hB _) h2 (by simp; omega) (fun k hk => (hown.lt k hk).1)
end

open Go.RowKit

theorem OwnInts.lt0 {B b o : Nat} {w : World} {p : Option Addr} {xs : List Int} (h : OwnInts B w p xs) (hn : xs ≠ []) (hp : p = some ⟨b, o, none⟩) : B ≤ b ∧ b < w.heap.size := by
 obtain ⟨b', o', h1, h2, h3, _⟩ := h 0 (List.length_pos_iff.2 hn)
 rw [hp] at h1
 simp at h1
 omega
theorem IntsAt.keep {w w' : World} {q : Option Addr} {ys : List Int} (h : IntsAt w q ys) (hs : w.heap.size ≤ w'.heap.size) (hk : ∀ b o, ys ≠ [] → q = some ⟨b, o, none⟩ → b < w.heap.size → w'.heap[b]? = w.heap[b]?) : IntsAt w' q ys := fun i hi => by
 obtain ⟨b, o, h1, h2, h3⟩ := h i hi
 have hn : ys ≠ [] := fun e => by subst e; simp at hi
 exact ⟨b, o, h1, Nat.lt_of_lt_of_le h2 hs, (World.cell?_of_block (a := ⟨b, o + i, none⟩) (hk b o hn h1 h2)).trans h3⟩
theorem OwnInts.keep {B : Nat} {w w' : World} {q : Option Addr} {ys : List Int} (h : OwnInts B w q ys) (hs : w.heap.size ≤ w'.heap.size) (hk : ∀ b o, ys ≠ [] → q = some ⟨b, o, none⟩ → b < w.heap.size → w'.heap[b]? = w.heap[b]?) : OwnInts B w' q ys := fun i hi => by
 obtain ⟨b, o, h1, hB, h2, h3, h4⟩ := h i hi
 have hn : ys ≠ [] := fun e => by subst e; simp at hi
 exact ⟨b, o, h1, hB, Nat.lt_of_lt_of_le h2 hs, (World.cell?_of_block (a := ⟨b, o + i, none⟩) (hk b o hn h1 h2)).trans h3, (World.frozen?_of_block (a := ⟨b, o + i, none⟩) (hk b o hn h1 h2)).trans h4⟩
open Go.RowKit

def RowB (B : Nat) (w : World) (v : Value) (s : ByteArray) : Prop := w.ownsRow B 5 1 v s.size (Lib.strCells s)
section
variable {B : Nat} {w w' : World} {v : Value} {s : ByteArray}
theorem RowB.nil (B : Nat) (w : World) : RowB B w (.slice none 0 0) ByteArray.empty := World.ownsRow_nil _ _ _ _
theorem RowB.made (hB : B ≤ w.heap.size) : RowB B (w.alloc (.cells #[] 5)) (.slice (some ⟨w.heap.size, 0, none⟩) 0 0) ByteArray.empty :=
 World.ownsRow_made w #[] 0 hB (by unfold maxLen; omega) rfl
theorem RowB.room (hB : B ≤ w.heap.size) (z : Array Value) (n : Nat) (hz : z.size = 1) (hn : n ≤ maxLen) : RowB B (w.alloc (.cells (madeCells z n) 5)) (.slice (some ⟨w.heap.size, 0, none⟩) 0 n) ByteArray.empty :=
 World.ownsRow_made w _ n hB hn (by simp [size_madeCells])
theorem RowB.alloc (h : RowB B w v s) (o : Obj) : RowB B (w.alloc o) v s := World.ownsRow.alloc h o
theorem RowB.lt (h : RowB B w v s) : ∀ k, v.ownBlock = some k → B ≤ k ∧ k < w.heap.size := World.ownsRow.lt h
theorem RowB.mono {B' : Nat} (h : RowB B w v s) (hB : B' ≤ B) : RowB B' w v s := by
 refine ⟨h.1, ?_⟩
 rcases h.2 with h2 | ⟨g, cap, cur, hv, hg, r⟩
 ·exact .inl h2
 ·exact .inr ⟨g, cap, cur, hv, Nat.le_trans hB hg, r⟩
theorem RowB.below {B' : Nat} (h : RowB B w v s) (hb : Below B' w w') (hB : ∀ k, v.ownBlock = some k → k < B') : RowB B w' v s := by
 refine ⟨h.1, ?_⟩
 rcases h.2 with h2 | ⟨g, cap, cur, hv, hg, hh, r⟩
 ·exact .inl h2
 ·exact .inr ⟨g, cap, cur, hv, hg, by rw [hb.block g (hB g (by rw [hv]; rfl))]; exact hh, r⟩
theorem RowB.ext (h : RowB B w v s) (hb : Ext w w') : RowB B w' v s := h.below hb.below fun k hk => (h.lt k hk).2
theorem RowB.drewN (h : RowB B w v s) (n : Nat) : RowB B (w.drewN n) v s := h
theorem RowB.slice (h : RowB B w v s) : ∃ p c, v = .slice p s.size c := by
 rcases h.2 with ⟨h2, hn⟩ | ⟨g, cap, cur, hv, _⟩
 ·exact ⟨none, 0, by rw [h2, hn]⟩
 ·exact ⟨_, _, hv⟩
end

section
variable {ops : Array Oper} {Q : Exit → Act → World → Prop} {rest : List Oper} {a : Act} {dst : Option Tmp} {s x : Operand} {ty : TypeId} {pos : String} {after : Array Edge} {B : Nat} {w0 : World} {v : Value} {xs : ByteArray}
end

end Go.Proofs.YtojdediohjghnaaGreatDoor
/- Stacked symbols: plain laws on patterns, runs of cells and values of rows. -/
namespace Go.Proofs.YtojdediohjghnaaGreatDoor
open Go.RowKit

def pats : Nat → Nat → List (List Int)
 | 0, _ => []
 | 1, s => [[(s : Int)]]
 | p + 2, s => (List.range (s - (p + 1))).flatMap fun i => (pats (p + 1) (s - (i + 1))).map fun l => ((i + 1 : Nat) : Int) :: l
def PAT : List (List Int) := pats 8 11
theorem PAT_len : PAT.length = 120 := by decide +kernel
def idxP (p : List Int) : Option Nat := (List.range 120).find? fun i => PAT.getD i [] == p
theorem idxP_at : ∀ i, i < 120 → idxP (PAT.getD i []) = some i := by decide +kernel
theorem idxP_some {p : List Int} {i : Nat} (h : idxP p = some i) : i < 120 ∧ PAT.getD i [] = p := by
 unfold idxP at h
 have h1 := List.find?_some h
 have h2 := List.mem_of_find?_eq_some h
 exact ⟨List.mem_range.1 h2, by simpa using h1⟩
theorem PAT_at8 : ∀ i, i < 120 → (PAT.getD i []).length = 8 := by decide +kernel
theorem idxP_eight {p : List Int} {i : Nat} (h : idxP p = some i) : p.length = 8 ∧ i < 120 := by
 obtain ⟨h1, h2⟩ := idxP_some h
 exact ⟨by rw [← h2]; exact PAT_at8 i h1, h1⟩
def incL (l : List Int) : List Int := l.set (l.length - 1) (l.getD (l.length - 1) 0 + 1)
theorem incL_len (l : List Int) : (incL l).length = l.length := by simp [incL]
def runsTo (xs : List Int) : Nat → List Int
 | 0 => []
 | k + 1 => if 0 < k ∧ xs.getD k 0 = xs.getD (k - 1) 0 then incL (runsTo xs k) else runsTo xs k ++ [1]
theorem runsTo_go {xs : List Int} {k : Nat} (h : 0 < k ∧ xs.getD k 0 = xs.getD (k - 1) 0) : runsTo xs (k + 1) = incL (runsTo xs k) := if_pos h
theorem runsTo_new {xs : List Int} {k : Nat} (h : ¬ (0 < k ∧ xs.getD k 0 = xs.getD (k - 1) 0)) : runsTo xs (k + 1) = runsTo xs k ++ [1] := if_neg h
theorem runsTo_len (xs : List Int) : ∀ k, (runsTo xs k).length ≤ k ∧ (0 < k → 0 < (runsTo xs k).length)
 | 0 => ⟨Nat.le_refl _, fun h => absurd h (Nat.lt_irrefl _)⟩
 | k + 1 => by
  have ih := runsTo_len xs k
  by_cases h : 0 < k ∧ xs.getD k 0 = xs.getD (k - 1) 0
  ·rw [runsTo_go h, incL_len]
   have := ih.2 h.1
   omega
  ·rw [runsTo_new h, List.length_append]
   simp
   omega
theorem runsTo_par {xs : List Int} (hz : ∀ x ∈ xs, x = 0 ∨ x = 1) : ∀ k, 0 < k → k ≤ xs.length → xs.getD (k - 1) 0 = if (runsTo xs k).length % 2 = 1 then xs.getD 0 0 else 1 - xs.getD 0 0 := by
 intro k
 induction k with
 | zero => intro h; omega
 | succ k ih =>
  intro _ hk
  have hat : ∀ j, j < xs.length → xs.getD j 0 = 0 ∨ xs.getD j 0 = 1 := fun j hj => by
   rw [List.getD_eq_getElem?_getD, List.getElem?_eq_getElem hj]
   exact hz _ (List.getElem_mem hj)
  rw [Nat.add_sub_cancel]
  rcases Nat.eq_zero_or_pos k with rfl | hk0
  ·rfl
  ·have ih := ih hk0 (by omega)
   have h0 := hat 0 (by omega); have h1 := hat k (by omega); have h2 := hat (k - 1) (by omega)
   by_cases h : 0 < k ∧ xs.getD k 0 = xs.getD (k - 1) 0
   ·rw [runsTo_go h, incL_len, h.2]
    exact ih
   ·rw [runsTo_new h, List.length_append]
    have hne : xs.getD k 0 ≠ xs.getD (k - 1) 0 := fun e => h ⟨hk0, e⟩
    simp only [List.length_cons, List.length_nil]
    split at ih <;> split <;> omega
def rvl (xs : List Int) (cl : Int) : Int :=
 if (∀ x ∈ xs, 0 ≤ x) ∧ xs.getD 0 0 ≠ 0 then (match idxP (runsTo xs xs.length) with
  | some i => if (i : Int) % 3 = cl ∧ i < 96 then ((i / 3 : Nat) : Int) else -1
  | none => -1) else -1
def okS (xs : List Int) : Prop := (∀ x ∈ xs, x ≠ -1) ∧ xs.getD 0 0 = 1 ∧ xs.getD (xs.length - 1) 0 = 0 ∧ (runsTo xs xs.length).length = 8
theorem rvl_ok {xs : List Int} {cl : Int} (hl : 0 < xs.length) (hb : ∀ x ∈ xs, -1 ≤ x ∧ x ≤ 1) (h : okS xs) : rvl xs cl = match idxP (runsTo xs xs.length) with
  | some i => if (i : Int) % 3 = cl ∧ i < 96 then ((i / 3 : Nat) : Int) else -1
  | none => -1 := by
 unfold rvl
 rw [if_pos ⟨fun x hx => by have := hb x hx; have := h.1 x hx; omega, by rw [h.2.1]; omega⟩]
theorem rvl_no {xs : List Int} {cl : Int} (hl : 0 < xs.length) (hb : ∀ x ∈ xs, -1 ≤ x ∧ x ≤ 1) (h : ¬ okS xs) : rvl xs cl = -1 := by
 unfold rvl
 by_cases h1 : (∀ x ∈ xs, 0 ≤ x) ∧ xs.getD 0 0 ≠ 0
 ·rw [if_pos h1]
  cases hi : idxP (runsTo xs xs.length) with
  | none => rfl
  | some i =>
   exfalso
   have h8 := (idxP_eight hi).1
   have hz : ∀ x ∈ xs, x = 0 ∨ x = 1 := fun x hx => by have := hb x hx; have := h1.1 x hx; omega
   have h0 : xs.getD 0 0 = 1 := by
    have hm : xs.getD 0 0 ∈ xs := by rw [List.getD_eq_getElem?_getD, List.getElem?_eq_getElem hl]; exact List.getElem_mem hl
    rcases hz _ hm with e | e
    ·exact absurd e h1.2
    ·exact e
   have hp := runsTo_par hz xs.length hl (Nat.le_refl _)
   rw [h8, h0, if_neg (by decide)] at hp
   exact h ⟨fun x hx => by have := h1.1 x hx; omega, h0, by rw [hp]; rfl, h8⟩
 ·rw [if_neg h1]
def rowV (xs : List Int) (cl : Int) (m : Nat) : List Int := (List.range m).map fun j => rvl ((xs.drop (7 + 11 * j)).take 11) cl
theorem rowV_len (xs : List Int) (cl : Int) (m : Nat) : (rowV xs cl m).length = m := by simp [rowV]
theorem rowV_succ (xs : List Int) (cl : Int) (m : Nat) : rowV xs cl (m + 1) = rowV xs cl m ++ [rvl ((xs.drop (7 + 11 * m)).take 11) cl] := by simp [rowV, List.range_succ]
end Go.Proofs.YtojdediohjghnaaGreatDoor
