/- How an argument of a law reads: by its shape, once for all types without pointers and maps. -/
import Derived.Test.YtdnkljpnhmcnpaaGreatLBoundedDamageK00
set_option linter.unusedVariables false
set_option linter.unusedSimpArgs false
namespace Go.Proofs.YtdnkljpnhmcnpaaGreat
open Go.RowKit Go.ChangeShapes Go.WideShapes

theorem lawOwn : ownKnob Tryz.prog.godebug = none := by kernel_rfl
theorem lawLaid : laidOutB Tryz.prog = true := by kernel_rfl

inductive Sh where
 | i (k : IntKind)
 | b
 | str
 | st (fs : List Sh)
 | sl (e : Sh)

mutual
def Sh.size : Sh → Nat
 | .st fs => Sh.sizes fs
 | .i _ => 1
 | .b => 1
 | .str => 1
 | .sl _ => 1
def Sh.sizes : List Sh → Nat
 | [] => 0
 | f :: fs => f.size + Sh.sizes fs
end

mutual
def rd (w : World) : Sh → List Value → Prop
 | .i k, cs => ∃ n, cs = [.int k n] ∧ (Lit.int k n).wf = true
 | .b, cs => ∃ x, cs = [.bool x]
 | .str, cs => ∃ s, cs = [.string s] ∧ s.size ≤ maxLen
 | .st fs, cs => rds w fs cs
 | .sl e, cs => cs = [.slice none 0 0] ∨ ∃ a len cap, cs = [.slice (some a) len cap] ∧ len ≤ cap ∧ cap ≤ maxLen ∧
   ∀ i, i < len → ∃ cs', cs'.length = e.size ∧ (∀ j, j < e.size → w.cell? (a.add (i * e.size + j)) = cs'[j]?) ∧ rd w e cs'
def rds (w : World) : List Sh → List Value → Prop
 | [], cs => cs = []
 | f :: fs, cs => rd w f (cs.take f.size) ∧ rds w fs (cs.drop f.size)
end

mutual
def shOK (P : Program) : Nat → TypeId → Sh → Bool
 | 0, _, _ => false
 | _ + 1, t, .i k => match P.underlying t with | some (.int k') => k == k' | _ => false
 | _ + 1, t, .b => match P.underlying t with | some .bool => true | _ => false
 | _ + 1, t, .str => match P.underlying t with | some .string => true | _ => false
 | n + 1, t, .sl e => match P.underlying t with | some (.slice et) => P.cellsOf et == e.size && shOK P n et e | _ => false
 | n + 1, t, .st fs => match P.underlying t with | some (.struct fl) => P.cellsOf t == Sh.sizes fs && shsOK P n fl.toList fs 0 | _ => false
def shsOK (P : Program) : Nat → List Field → List Sh → Nat → Bool
 | _, [], [], _ => true
 | 0, _, _, _ => false
 | n + 1, f :: fl, s :: fs, off => f.offset == off && P.cellsOf f.type == s.size && shOK P n f.type s && shsOK P n fl fs (off + s.size)
 | _, _, _, _ => false
end

section
variable {H : Type} {enc : TypeId × Value → H} {P : Program} {w : World} {spare : Nat → Bool} {held : Bool} {base : Nat}

theorem rds_of (n : Nat) (ih : ∀ t s, shOK P n t s = true → ∀ fuel cs x, DataW.trod enc P w base spare held fuel t cs = some x → rd w s cs) :
  ∀ (m : Nat) (fl : List Field) (fs : List Sh) (off : Nat) (cs : List Value) (m' : Nat), m ≤ n → (∀ m t s, m ≤ n → shOK P m t s = true → shOK P n t s = true) → shsOK P m fl fs off = true →
   cs.length = off + Sh.sizes fs →
   (∀ (f : Field), f ∈ fl → ∃ x, DataW.trod enc P w base spare held m' f.type ((cs.drop f.offset).take (P.cellsOf f.type)) = some x) →
   rds w fs (cs.drop off) := by
 intro m
 induction m with
 | zero =>
  intro fl fs off cs m' _ _ hok hlen hall
  match fl, fs with
  | [], [] => simp [Sh.sizes] at hlen; simp [rds, hlen]
  | _ :: _, [] => simp [shsOK] at hok
  | [], _ :: _ => simp [shsOK] at hok
  | _ :: _, _ :: _ => simp [shsOK] at hok
 | succ m ihm =>
  intro fl fs off cs m' hm hup hok hlen hall
  match fl, fs with
  | [], [] => simp [Sh.sizes] at hlen; simp [rds, hlen]
  | _ :: _, [] => simp [shsOK] at hok
  | [], _ :: _ => simp [shsOK] at hok
  | f :: fl, s :: fs =>
   simp only [shsOK, Bool.and_eq_true, beq_iff_eq] at hok
   obtain ⟨⟨⟨ho, hc⟩, hs⟩, hr⟩ := hok
   obtain ⟨x, hx⟩ := hall f (by simp)
   rw [ho, hc] at hx
   have h1 := ih f.type s (hup m _ _ (by omega) hs) _ _ _ hx
   have h2 := ihm fl fs (off + s.size) cs m' (by omega) hup hr (by simp only [Sh.sizes] at hlen; omega) (fun g hg => hall g (by simp [hg]))
   refine ⟨h1, ?_⟩
   rwa [List.drop_drop]

theorem shOK_up : ∀ (m : Nat), (∀ t s, shOK P m t s = true → shOK P (m + 1) t s = true) ∧ (∀ fl fs off, shsOK P m fl fs off = true → shsOK P (m + 1) fl fs off = true) := by
 intro m
 induction m with
 | zero =>
  refine ⟨fun t s h => by simp [shOK] at h, fun fl fs off h => ?_⟩
  match fl, fs with
  | [], [] => simp [shsOK]
  | _ :: _, [] => simp [shsOK] at h
  | [], _ :: _ => simp [shsOK] at h
  | _ :: _, _ :: _ => simp [shsOK] at h
 | succ m ih =>
  refine ⟨fun t s h => ?_, fun fl fs off h => ?_⟩
  ·cases s with
   | i k => simpa only [shOK] using h
   | b => simpa only [shOK] using h
   | str => simpa only [shOK] using h
   | st fs =>
    simp only [shOK] at h ⊢
    split at h
    ·simp only [Bool.and_eq_true] at h ⊢
     exact ⟨h.1, ih.2 _ _ _ h.2⟩
    ·simp at h
   | sl e =>
    simp only [shOK] at h ⊢
    split at h
    ·simp only [Bool.and_eq_true] at h ⊢
     exact ⟨h.1, ih.1 _ _ h.2⟩
    ·simp at h
  ·match fl, fs with
   | [], [] => simp [shsOK]
   | _ :: _, [] => simp [shsOK] at h
   | [], _ :: _ => simp [shsOK] at h
   | f :: fl, s :: fs =>
    simp only [shsOK, Bool.and_eq_true] at h ⊢
    exact ⟨⟨h.1.1, ih.1 _ _ h.1.2⟩, ih.2 _ _ _ h.2⟩

theorem shOK_le {m n : Nat} (h : m ≤ n) {t : TypeId} {s : Sh} (hs : shOK P m t s = true) : shOK P n t s = true := by
 induction h with
 | refl => exact hs
 | step _ ih => exact (shOK_up _).1 _ _ ih

theorem trod_rd : ∀ (n : Nat) t s, shOK P n t s = true → ∀ fuel cs x, DataW.trod enc P w base spare held fuel t cs = some x → rd w s cs := by
 intro n
 induction n with
 | zero => intro t s h; simp [shOK] at h
 | succ n ih =>
  intro t s hok fuel cs x h
  cases s with
  | i k =>
   simp only [shOK] at hok
   split at hok
   ·rename_i hu
    obtain rfl := by simpa using hok
    obtain ⟨n, h1, _, h2⟩ := DataW.trod_int hu h
    exact ⟨n, h1, h2⟩
   ·simp at hok
  | b =>
   simp only [shOK] at hok
   split at hok
   ·rename_i hu
    obtain ⟨n, h1, _⟩ := DataW.trod_bool hu h
    exact ⟨n, h1⟩
   ·simp at hok
  | str =>
   simp only [shOK] at hok
   split at hok
   ·rename_i hu
    obtain ⟨n, h1, _, h2⟩ := DataW.trod_string hu h
    exact ⟨n, h1, h2⟩
   ·simp at hok
  | st fs =>
   simp only [shOK] at hok
   split at hok
   ·rename_i fl hu
    simp only [Bool.and_eq_true, beq_iff_eq] at hok
    obtain ⟨xs, m, _, _, hlen, hxl, hf⟩ := DataW.trod_struct hu h
    have := rds_of n ih n fl.toList fs 0 cs m (Nat.le_refl _) (fun m t s hm hs => shOK_le hm hs) hok.2 (by omega) (fun f hfm => by
     obtain ⟨j, hj, rfl⟩ := List.mem_iff_getElem.1 hfm
     have hj' : j < fl.size := by simpa using hj
     have := hf j fl[j] (by simp [hj'])
     rw [List.getElem?_eq_getElem (by omega)] at this
     exact ⟨_, by simpa using this⟩)
    simpa [rd] using this
   ·simp at hok
  | sl e =>
   simp only [shOK] at hok
   split at hok
   ·rename_i et hu
    simp only [Bool.and_eq_true, beq_iff_eq] at hok
    rcases DataW.trod_slice hu h with h0 | ⟨a, len, cap, elems, rest, m, _, h1, _, hb, hl, hm, hlen, hel, _⟩
    ·exact .inl h0.1
    ·refine .inr ⟨a, len, cap, h1, hl, hm, fun i hi => ?_⟩
     have := hel i hi
     rw [List.getElem?_eq_getElem (by omega), hok.1] at this
     obtain ⟨cs', hcs, ht⟩ := Option.bind_eq_some_iff.1 this
     obtain ⟨_, hcl, hat⟩ := World.cells?_some hcs
     refine ⟨cs', hcl, fun j hj => ?_, ih _ _ hok.2 _ _ _ ht⟩
     rw [← hat j hj]
     congr 1
     simp only [Addr.add]
     by_cases h1 : i * e.size = 0 <;> by_cases h2 : j = 0 <;> simp [h1, h2] <;> omega
   ·simp at hok

theorem open_sh {t : TypeId} {v : Value} {d : DataW H} {p : List MemPlace} (n : Nat) (s : Sh) (hok : shOK P n t s = true)
  (h : DataW.Trod enc P w base spare held t v d p) : rd w s v.cells.toList := by
 obtain ⟨fuel, hf⟩ := h
 exact trod_rd n t s hok _ _ _ hf

theorem arg_st {r : Reach} {b0 : Nat} {t : TypeId} {v : Value} {d : DataW H} {p : List MemPlace} {fl : Array Field} (n : Nat) (fs : List Sh) (hok : shOK P n t (.st fs) = true) (hu : P.underlying t = some (.struct fl))
  (hv : Value.okWide P w r b0 t v) (h : DataW.Trod enc P w base spare held t v d p) : ∃ cs : List Value, v = .agg cs.toArray ∧ rds w fs cs := by
 obtain ⟨cs, rfl, _⟩ := okWide_struct hu hv
 have := open_sh n _ hok h
 exact ⟨cs.toList, by simp, by simpa [rd, Value.cells] using this⟩

theorem arg_int {r : Reach} {b0 : Nat} {t : TypeId} {v : Value} {d : DataW H} {p : List MemPlace} {k : IntKind} (hu : P.underlying t = some (.int k))
  (hv : Value.okWide P w r b0 t v) (h : DataW.Trod enc P w base spare held t v d p) : ∃ n, v = .int k n ∧ (Lit.int k n).wf = true := by
 obtain ⟨n, rfl⟩ := okWide_int hu hv
 obtain ⟨n', h1, h2⟩ := open_sh 1 (.i k) (by simp [shOK, hu]) h
 simp [Value.cells] at h1
 subst h1
 exact ⟨n, rfl, h2⟩

theorem arg_sl {r : Reach} {b0 : Nat} {t e : TypeId} {v : Value} {d : DataW H} {p : List MemPlace} (n : Nat) (s : Sh) (hok : shOK P n t (.sl s) = true) (hu : P.underlying t = some (.slice e))
  (hv : Value.okWide P w r b0 t v) (h : DataW.Trod enc P w base spare held t v d p) : rd w (.sl s) [v] := by
 obtain ⟨a, l, c, rfl⟩ := okWide_slice hu hv
 have := open_sh n _ hok h
 simpa [Value.cells] using this

end

section
variable {w : World}
theorem rds_one {f : Sh} {fs : List Sh} {cs : List Value} (hf : f.size = 1) (hc : ∀ cs, rd w f cs → cs.length = 1) (h : rds w (f :: fs) cs) : ∃ c cs', cs = c :: cs' ∧ rd w f [c] ∧ rds w fs cs' := by
 obtain ⟨h1, h2⟩ := h
 rw [hf] at h1 h2
 match cs with
 | [] => have := hc _ h1; simp at this
 | c :: cs' => exact ⟨c, cs', rfl, by simpa using h1, by simpa using h2⟩
theorem rds_int {k : IntKind} {fs : List Sh} {cs : List Value} (h : rds w (.i k :: fs) cs) : ∃ n cs', cs = .int k n :: cs' ∧ (Lit.int k n).wf = true ∧ rds w fs cs' := by
 obtain ⟨c, cs', rfl, ⟨n, h1, h2⟩, h3⟩ := rds_one (by rfl) (fun cs h => by obtain ⟨n, h, _⟩ := h; rw [h]; rfl) h
 simp at h1
 subst h1
 exact ⟨n, cs', rfl, h2, h3⟩
theorem rds_str {fs : List Sh} {cs : List Value} (h : rds w (.str :: fs) cs) : ∃ s cs', cs = .string s :: cs' ∧ s.size ≤ maxLen ∧ rds w fs cs' := by
 obtain ⟨c, cs', rfl, ⟨n, h1, h2⟩, h3⟩ := rds_one (by rfl) (fun cs h => by obtain ⟨n, h, _⟩ := h; rw [h]; rfl) h
 simp at h1
 subst h1
 exact ⟨n, cs', rfl, h2, h3⟩
theorem rds_sl {e : Sh} {fs : List Sh} {cs : List Value} (h : rds w (.sl e :: fs) cs) : ∃ c cs', cs = c :: cs' ∧ rd w (.sl e) [c] ∧ rds w fs cs' :=
 rds_one (by rfl) (fun cs h => by rcases h with h | ⟨_, _, _, h, _⟩ <;> rw [h] <;> rfl) h
theorem rds_st {gs fs : List Sh} {cs : List Value} (h : rds w (.st gs :: fs) cs) : ∃ c1 c2, cs = c1 ++ c2 ∧ rds w gs c1 ∧ rds w fs c2 := by
 obtain ⟨h1, h2⟩ := h
 exact ⟨cs.take _, cs.drop _, (List.take_append_drop _ _).symm, h1, h2⟩
theorem rds_nil {cs : List Value} (h : rds w [] cs) : cs = [] := h
end

theorem cell_lt {w : World} {a : Addr} {v : Value} (h : w.cell? a = some v) : a.block < w.heap.size ∧ a.spot = none := by
 unfold World.cell? at h
 split at h
 ·rename_i e
  refine ⟨by have := (Array.getElem?_eq_some_iff.1 e).1; exact this, ?_⟩
  cases hs : a.spot with
  | none => rfl
  | some x => simp [hs] at h
 ·simp at h

theorem rd_ints {w : World} {v : Value} (h : rd w (.sl (.i .i64)) [v]) : ∃ p cap xs, v = .slice p xs.length cap ∧ xs.length ≤ maxLen ∧ IntsAt w p xs ∧ ∀ x ∈ xs, (Lit.int .i64 x).wf = true := by
 rcases h with h | ⟨a, len, cap, h, hl, hm, hc⟩
 ·simp at h
  exact ⟨none, 0, [], by simpa using h, by simp, fun i hi => by simp at hi, by simp⟩
 ·simp at h
  obtain ⟨b, o, sp⟩ := a
  let f : Nat → Int := fun i => match w.cell? ((⟨b, o, sp⟩ : Addr).add i) with | some (.int _ n) => n | _ => 0
  have hf : ∀ i, i < len → w.cell? ((⟨b, o, sp⟩ : Addr).add i) = some (.int .i64 (f i)) ∧ (Lit.int .i64 (f i)).wf = true := by
   intro i hi
   obtain ⟨cs', h1, h2, n, h3, h4⟩ := hc i hi
   have := h2 0 (by simp [Sh.size])
   simp [Sh.size, h3] at this
   simp only [f, this, true_and]
   exact h4
  refine ⟨some ⟨b, o, sp⟩, cap, (List.range len).map f, by simpa using h, by simp; omega, fun i hi => ?_, fun x hx => ?_⟩
  ·simp at hi
   have h0 := (cell_lt (hf 0 (by omega)).1).2
   have h1 : sp = none := by simpa [Addr.add] using h0
   subst h1
   have hi' := (hf i hi).1
   have hb := (cell_lt hi').1
   rw [addr_add] at hi' hb
   refine ⟨b, o, rfl, hb, ?_⟩
   rw [List.getD_eq_getElem?_getD, List.getElem?_map, List.getElem?_range hi]
   exact hi'
  ·simp at hx
   obtain ⟨i, hi, rfl⟩ := hx
   exact (hf i hi).2

end Go.Proofs.YtdnkljpnhmcnpaaGreat
