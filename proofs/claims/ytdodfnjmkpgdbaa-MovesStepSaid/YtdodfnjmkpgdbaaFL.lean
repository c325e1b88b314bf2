/- What this seat's rows know of arguments of whole numbers and bools, structs of them, and slices of such: which cells they are made of. It holds for every program; no condition. -/
import Derived.Test.YtdodfnjmkpgdbaaFR
import Derived.Deep.Slices
import Derived.ChangeOld
import Derived.ChangeSame
import Derived.Carry
set_option linter.unusedVariables false
set_option linter.unusedSimpArgs false
namespace Go.SL
open Go.RowKit Go.ChangeShapes Go.WideShapes Go.Deep

/-- Cells of such kinds: an integer's kind, or a bool's ('none'). -/
def FlatV : List (Option IntKind) → List Value → Prop
  | [], [] => True
  | some k :: ks, v :: vs => (∃ n, v = .int k n ∧ (Lit.int k n).wf = true) ∧ FlatV ks vs
  | none :: ks, v :: vs => (∃ b, v = .bool b) ∧ FlatV ks vs
  | _, _ => False
theorem FlatV.len : ∀ {ks : List (Option IntKind)} {vs : List Value}, FlatV ks vs → vs.length = ks.length
  | [], [], _ => rfl
  | some _ :: ks, _ :: vs, h => by simp [FlatV.len h.2]
  | none :: ks, _ :: vs, h => by simp [FlatV.len h.2]
theorem FlatV.int {k : IntKind} {ks : List (Option IntKind)} : ∀ {vs : List Value}, FlatV (some k :: ks) vs → ∃ n us, vs = .int k n :: us ∧ (Lit.int k n).wf = true ∧ FlatV ks us
  | _ :: us, ⟨⟨n, e, hw⟩, h⟩ => ⟨n, us, by rw [e], hw, h⟩
theorem FlatV.bool {ks : List (Option IntKind)} : ∀ {vs : List Value}, FlatV (none :: ks) vs → ∃ b us, vs = .bool b :: us ∧ FlatV ks us
  | _ :: us, ⟨⟨b, e⟩, h⟩ => ⟨b, us, by rw [e], h⟩
theorem FlatV.nil : ∀ {vs : List Value}, FlatV [] vs → vs = []
  | [], _ => rfl
theorem map_of {α : Type} {f : α → List Value} {p : α → Prop} : ∀ {els : List (List Value)}, (∀ x, x ∈ els → ∃ o, x = f o ∧ p o) → ∃ l : List α, els = l.map f ∧ ∀ o, o ∈ l → p o
  | [], _ => ⟨[], rfl, fun o ho => by cases ho⟩
  | x :: els, h => by
    obtain ⟨o, rfl, hp⟩ := h x (List.mem_cons_self ..)
    obtain ⟨l, rfl, hl⟩ := map_of (p := p) (fun y hy => h y (List.mem_cons_of_mem _ hy))
    exact ⟨o :: l, rfl, fun q hq => by rcases List.mem_cons.1 hq with rfl | hq; exact hp; exact hl q hq⟩
theorem FlatV.app : ∀ {ks ls : List (Option IntKind)} {vs us : List Value}, FlatV ks vs → FlatV ls us → FlatV (ks ++ ls) (vs ++ us)
  | [], _, [], _, _, h => h
  | some _ :: ks, _, _ :: vs, _, h, h' => ⟨h.1, FlatV.app h.2 h'⟩
  | none :: ks, _, _ :: vs, _, h, h' => ⟨h.1, FlatV.app h.2 h'⟩

class FlatTy (P : Program) (t : TypeId) (ks : outParam (List (Option IntKind))) : Prop where
  size : P.cellsOf t = ks.length
  go : ∀ {H : Type} (enc : TypeId × Value → H) (w : World) (base : Nat) (spare : Nat → Bool) (held : Bool) (fuel : Nat) (cs : List Value) (x : DataW H × List MemPlace),
    DataW.trod enc P w base spare held fuel t cs = some x → FlatV ks cs

theorem FlatTy.int {P : Program} {t : TypeId} {k : IntKind} (hu : P.underlying t = some (.int k)) (hc : P.cellsOf t = 1) : FlatTy P t [some k] :=
  ⟨hc, fun enc w base spare held fuel cs x h => by obtain ⟨n, rfl, _, hw⟩ := DataW.trod_int hu h; exact ⟨⟨n, rfl, hw⟩, trivial⟩⟩
theorem FlatTy.bool {P : Program} {t : TypeId} (hu : P.underlying t = some .bool) (hc : P.cellsOf t = 1) : FlatTy P t [none] :=
  ⟨hc, fun enc w base spare held fuel cs x h => by obtain ⟨b, rfl, _⟩ := DataW.trod_bool hu h; exact ⟨⟨b, rfl⟩, trivial⟩⟩

def FlatFs (P : Program) : Nat → List Field → List (List (Option IntKind)) → Prop
  | _, [], [] => True
  | off, f :: fs, ks :: kss => f.offset = off ∧ FlatTy P f.type ks ∧ FlatFs P (off + ks.length) fs kss
  | _, _, _ => False
theorem FlatFs.nil {P : Program} {off : Nat} : FlatFs P off [] [] := trivial
theorem FlatFs.cons {P : Program} {off : Nat} {f : Field} {fs : List Field} {ks : List (Option IntKind)} {kss : List (List (Option IntKind))} (h1 : f.offset = off) (h2 : FlatTy P f.type ks) (h3 : FlatFs P (off + ks.length) fs kss) : FlatFs P off (f :: fs) (ks :: kss) := ⟨h1, h2, h3⟩
theorem FlatFs.go {P : Program} {H : Type} {enc : TypeId × Value → H} {w : World} {base : Nat} {spare : Nat → Bool} {held : Bool} {n : Nat} {cs : List Value} :
    ∀ {fs : List Field} {kss : List (List (Option IntKind))} {off : Nat}, FlatFs P off fs kss →
      (∀ f, f ∈ fs → ∃ y, DataW.trod enc P w base spare held n f.type ((cs.drop f.offset).take (P.cellsOf f.type)) = some y) → FlatV kss.flatten ((cs.drop off).take kss.flatten.length)
  | [], [], off, _, _ => by simp [FlatV]
  | f :: fs, ks :: kss, off, h, hf => by
    obtain ⟨h1, h2, h3⟩ := h
    obtain ⟨y, hy⟩ := hf f (List.mem_cons_self ..)
    have hv := h2.go enc w base spare held n _ y hy
    rw [h1, h2.size] at hv
    have ih := FlatFs.go (cs := cs) h3 (fun g hg => hf g (List.mem_cons_of_mem _ hg))
    rw [List.flatten_cons, List.length_append, List.take_add, List.drop_drop]
    exact hv.app ih
theorem FlatTy.struct {P : Program} {t : TypeId} {fs : Array Field} {kss : List (List (Option IntKind))} (hu : P.underlying t = some (.struct fs)) (hf : FlatFs P 0 fs.toList kss) (hc : P.cellsOf t = kss.flatten.length) : FlatTy P t kss.flatten :=
  ⟨hc, fun enc w base spare held fuel cs x h => by
    obtain ⟨xs, n, _, _, hl, hxl, hat⟩ := DataW.trod_struct hu h
    have := FlatFs.go (cs := cs) (enc := enc) (w := w) (base := base) (spare := spare) (held := held) (n := n) hf (fun f hf' => by
      obtain ⟨i, hi⟩ := List.mem_iff_getElem?.1 hf'
      have hlt : i < xs.length := by
        have := (List.getElem?_eq_some_iff.1 hi).1
        rw [hxl]; simpa using this
      exact ⟨xs[i], by rw [hat i f (by simpa using hi)]; exact List.getElem?_eq_getElem hlt⟩)
    rw [List.drop_zero, ← hc, ← hl, List.take_length] at this
    exact this⟩

/-- A struct argument's cells. -/
theorem flat_arg {P : Program} {H : Type} {enc : TypeId × Value → H} {w : World} {base : Nat} {spare : Nat → Bool} {held : Bool} {t : TypeId} {cs : Array Value} {d : DataW H} {p : List MemPlace} {ks : List (Option IntKind)} [ht : FlatTy P t ks]
    (h : DataW.Trod enc P w base spare held t (.agg cs) d p) : FlatV ks cs.toList := by
  obtain ⟨fuel, h⟩ := h
  exact ht.go enc w base spare held fuel _ _ h

/-- A slice that came in, over elements of k cells each, that lies in blocks of G. -/
def ArgS (G : Hp) (k : Nat) (a : Option Addr) (els : List (List Value)) : Prop :=
  ∀ i x, els[i]? = some x → x.length = k ∧ ∃ b o, ∃ cc : List Value, ∃ T f, a = some ⟨b, o, none⟩ ∧ (b, Obj.cells cc.toArray T f) ∈ G ∧ Reads cc (o + i * k) x

theorem reads_of {c : List Value} : ∀ {vs : List Value} {off : Nat}, (∀ j v, vs[j]? = some v → c[off + j]? = some v) → Reads c off vs
  | [], _, _ => trivial
  | v :: vs, off, h => ⟨by rw [nth_eq]; exact h 0 v rfl, reads_of fun j u hu => by
      have := h (j + 1) u (by simpa using hu)
      rwa [show off + (j + 1) = off + 1 + j by omega] at this⟩

theorem cell_some {w : World} {ad : Addr} {v : Value} (h : w.cell? ad = some v) : ∃ cc T f, w.heap[ad.block]? = some (.cells cc T f) ∧ ad.spot = none ∧ cc[ad.off]? = some v := by
  unfold World.cell? at h
  split at h
  · rename_i c T f hc
    split at h
    · cases h
    · rename_i hs
      exact ⟨c, T, f, hc, by simpa using hs, h⟩
  · cases h
theorem add_block (a : Addr) (n : Nat) : (a.add n).block = a.block := by unfold Addr.add; split <;> rfl
theorem add_off (a : Addr) (n : Nat) : (a.add n).off = a.off + n := by unfold Addr.add; split <;> simp_all

theorem flat_slice2 {P : Program} {H : Type} {enc : TypeId × Value → H} {w : World} {held : Bool} {t e : TypeId} {v : Value} {d : DataW H} {p : List MemPlace} {ks : List (Option IntKind)} (hu : P.underlying t = some (.slice e)) [he : FlatTy P e ks] (hk : 0 < ks.length)
    (hv : ∃ a n c, v = .slice a n c) (h : DataW.Trod enc P w 0 (fun _ => true) held t v d p) :
    ∃ a c els, v = .slice a els.length c ∧ els.length ≤ maxLen ∧ els.length ≤ c ∧ (∀ x, x ∈ els → FlatV ks x) ∧ ArgS (allHp w) ks.length a els := by
  obtain ⟨fuel, h⟩ := h
  obtain ⟨a0, n0, c0, rfl⟩ := hv
  rcases open_slice hu h with ⟨hcs, _⟩ | ⟨a, len, cap, m, n, D, Pl, hcs, hb, hl, hm, hmm, hx, hi⟩
  · simp [Value.cells] at hcs
    obtain ⟨rfl, rfl, rfl⟩ := hcs
    exact ⟨none, 0, [], rfl, Nat.zero_le _, Nat.le_refl _, ⟨fun x hx => absurd hx (by simp), fun i x hx => by simp at hx⟩⟩
  · simp [Value.cells] at hcs
    obtain ⟨rfl, rfl, rfl⟩ := hcs
    have hmc : m = c0 := by simpa using hmm
    subst hmc
    have hex : ∀ i, ∃ cs', i < n0 → w.cells? 0 (a.add (i * P.cellsOf e)) (P.cellsOf e) = some cs' ∧ DataW.trod enc P w 0 (fun _ => true) held n e cs' = some (D i, Pl i) := fun i => by
      by_cases h' : i < n0
      · obtain ⟨cs', h1, h2⟩ := hi i (by omega)
        exact ⟨cs', fun _ => ⟨h1, h2⟩⟩
      · exact ⟨[], fun h => absurd h h'⟩
    have hel : ∀ k, k ≤ n0 → ∃ els : List (List Value), els.length = k ∧ ∀ i x, els[i]? = some x → w.cells? 0 (a.add (i * P.cellsOf e)) (P.cellsOf e) = some x ∧ DataW.trod enc P w 0 (fun _ => true) held n e x = some (D i, Pl i) := by
      intro k
      induction k with
      | zero => intro _; exact ⟨[], rfl, fun i x hx => by cases hx⟩
      | succ k ih =>
        intro hk'
        obtain ⟨els, he1, he2⟩ := ih (by omega)
        obtain ⟨cs', hcs'⟩ := hex k
        refine ⟨els ++ [cs'], by simp [he1], fun i x hx => ?_⟩
        rcases Nat.lt_or_ge i els.length with h' | h'
        · rw [List.getElem?_append_left h'] at hx; exact he2 i x hx
        · rw [List.getElem?_append_right h'] at hx
          have : i = k := by
            rcases Nat.lt_or_ge (i - els.length) 1 with h'' | h''
            · omega
            · rw [List.getElem?_eq_none (by simpa using h'')] at hx; cases hx
          subst this
          rw [he1, Nat.sub_self] at hx
          cases hx
          exact hcs' (by omega)
    obtain ⟨els, he1, he2⟩ := hel n0 (Nat.le_refl _)
    subst he1
    refine ⟨some a, m, els, rfl, by omega, by omega, fun x hx => ?_, fun i x hx => ?_⟩
    · obtain ⟨i, hi'⟩ := List.mem_iff_getElem?.1 hx
      exact he.go enc w 0 _ held n _ _ (he2 i x hi').2
    · obtain ⟨h1, h2⟩ := he2 i x hx
      have hf := he.go enc w 0 _ held n _ _ h2
      obtain ⟨_, hlen, hat⟩ := World.cells?_some h1
      rw [he.size] at hlen hat
      refine ⟨hlen, ?_⟩
      have hcell : ∀ j u, x[j]? = some u → ∃ cc T f, w.heap[a.block]? = some (.cells cc T f) ∧ cc[a.off + i * ks.length + j]? = some u := fun j u hu => by
        have hj : j < ks.length := by
          rcases Nat.lt_or_ge j ks.length with h' | h'
          · exact h'
          · rw [List.getElem?_eq_none (by omega)] at hu; cases hu
        have h0 := hat j hj
        rw [hu] at h0
        obtain ⟨cc, T, f, h1, _, h3⟩ := cell_some h0
        rw [add_block, add_block] at h1
        rw [add_off, add_off] at h3
        exact ⟨cc, T, f, h1, h3⟩
      have hsp0 : a.spot = none := by
        obtain ⟨x0, hx0'⟩ : ∃ x0, els[0]? = some x0 := ⟨els[0]'(by have := (List.getElem?_eq_some_iff.1 hx).1; omega), List.getElem?_eq_getElem _⟩
        obtain ⟨g1, _⟩ := he2 0 x0 hx0'
        obtain ⟨_, hlen0, hat0⟩ := World.cells?_some g1
        rw [he.size] at hlen0 hat0
        have e0 := hat0 0 hk
        rw [show x0[0]? = some (x0[0]'(by omega)) from List.getElem?_eq_getElem (by omega), Nat.zero_mul] at e0
        obtain ⟨_, _, _, _, h2, _⟩ := cell_some e0
        exact h2
      obtain ⟨cc, T, f, hb1, _⟩ := hcell 0 (x[0]'(by omega)) (List.getElem?_eq_getElem _)
      obtain ⟨ab, ao, asp⟩ := a
      dsimp only at hsp0 hcell hb1
      subst hsp0
      refine ⟨ab, ao, cc.toList, T, f, rfl, mem_allHp.2 (by rw [hb1]), reads_of fun j u hu => ?_⟩
      obtain ⟨cc', T', f', hb2, h3⟩ := hcell j u hu
      rw [hb1] at hb2
      cases hb2
      simpa using h3
theorem flat_slice {P : Program} {H : Type} {enc : TypeId × Value → H} {w : World} {held : Bool} {t e : TypeId} {v : Value} {d : DataW H} {p : List MemPlace} {ks : List (Option IntKind)} (hu : P.underlying t = some (.slice e)) [he : FlatTy P e ks] (hk : 0 < ks.length)
    (hv : ∃ a n c, v = .slice a n c) (h : DataW.Trod enc P w 0 (fun _ => true) held t v d p) :
    ∃ a c els, v = .slice a els.length c ∧ els.length ≤ maxLen ∧ (∀ x, x ∈ els → FlatV ks x) ∧ ArgS (allHp w) ks.length a els := by
  obtain ⟨a, c, els, h1, h2, _, h3, h4⟩ := flat_slice2 hu hk hv h
  exact ⟨a, c, els, h1, h2, h3, h4⟩
end Go.SL
