/- Layer 21's laws in plain Lean. No condition. -/
import Derived.Test.YtpjodkcghiklcabW21d
set_option linter.unusedVariables false
set_option linter.unusedSimpArgs false
namespace Go.Proofs.Ytpjodkcghiklcab
open Go.SL

structure OpS where
  kind : Int
  id : Int
  domain : Int
  level : Int
abbrev OpS.cells (o : OpS) : List Value := [.int .i64 o.kind, .int .i64 o.id, .int .i64 o.domain, .int .i64 o.level]
instance : Enc OpS.cells 4 := ⟨fun _ => rfl, fun _ => rfl⟩
theorem as_opss {els : List (List Value)} (h : ∀ x, x ∈ els → FlatV [some .i64, some .i64, some .i64, some .i64] x) : ∃ l : List OpS, els = l.map OpS.cells ∧ ∀ o, o ∈ l → (fun _ => True) o :=
  map_of fun x hx => by
    obtain ⟨a, l, rfl, _, h⟩ := (h x hx).int
    obtain ⟨b, l, rfl, _, h1⟩ := h.int
    obtain ⟨c, l, rfl, _, h2⟩ := h1.int
    obtain ⟨d, l, rfl, _, h3⟩ := h2.int
    obtain rfl := h3.nil
    exact ⟨⟨a, b, c, d⟩, rfl, trivial⟩
theorem as_times {els : List (List Value)} (h : ∀ x, x ∈ els → FlatV [some .i64, some .i64] x) : ∃ l : Ones, els = l.map oneC ∧ ∀ o, o ∈ l → (fun _ => True) o :=
  map_of fun x hx => by
    obtain ⟨a, l, rfl, _, h⟩ := (h x hx).int
    obtain ⟨b, l, rfl, _, h1⟩ := h.int
    obtain rfl := h1.nil
    exact ⟨(a, b), rfl, trivial⟩

/-! Shares -/
def wantF (T : Ones) : Nat → Nat → Int
  | 0, _ => 0
  | i + 1, d => wantF T i d + if (tkd T i).1 = d then (tkd T i).2 else 0
theorem wantF_le {T : Ones} (h : tmsOk T) (d : Nat) : ∀ {i : Nat}, i ≤ T.length → 0 ≤ wantF T i d ∧ wantF T i d ≤ sumT T i
  | 0, _ => by simp [wantF, sumT]
  | i + 1, hi => by
    have ih := wantF_le h d (i := i) (by omega)
    have ht := (h.2 _ (List.mem_of_getElem? (tkd_get (show i < T.length by omega)))).2
    simp only [wantF, sumT]; split <;> omega
def gotF (T : Ones) (e : Nat) (l : Int) (d : Nat) : Int := wantF T e d + if (tkd T e).1 = d then (tkd T e).2 - l else 0
def arrC (f : Nat → Int) : List Value := (List.range 4).map (fun d => .int .i64 (f d))
theorem arr_nth {f : Nat → Int} {d : Nat} (hd : d < 4) : nth (arrC f) (0 + d * 1) = some (.int .i64 (f d)) := by
  rw [Nat.zero_add]; exact arr_p (p := fun d => .int .i64 (f d)) hd
theorem arr_setL {f : Nat → Int} {d : Nat} {x : Int} (hd : d < 4) : SetL (arrC f) (0 + d * 1) [.int .i64 x] (arrC (fset f d x)) := by
  have h := SetL.set1 (l := arrC f) (i := 0 + d * 1) (v := .int .i64 x) (by simp [arrC]; omega)
  have e : (arrC f).set (0 + d * 1) (.int .i64 x) = arrC (fset f d x) := by
    unfold arrC
    rw [Nat.zero_add, Nat.mul_one, map_set4 hd]
    apply List.map_congr_left
    intro j _
    unfold fset; split <;> rfl
  rw [e] at h; exact h
theorem arr_congr {f g : Nat → Int} (h : ∀ d, d < 4 → f d = g d) : arrC f = arrC g := by
  unfold arrC
  exact List.map_congr_left (fun d hd => by rw [h d (List.mem_range.1 hd)])
theorem want_step {T : Ones} {i dn : Nat} (h : (tkd T i).1 = dn) : arrC (fset (wantF T i) dn (wantF T i dn + (tkd T i).2)) = arrC (wantF T (i + 1)) := arr_congr fun j _ => by
  unfold fset; simp only [wantF, h]
  by_cases e : j = dn
  · subst e; simp
  · rw [if_neg e, if_neg (by omega)]; simp
def rrN (T : Ones) (e : Nat) (l : Int) (rr : Nat) : Nat := if l - 1 > 0 then rr else if e + 1 = T.length then rr + 1 else rr
theorem share_pos {T : Ones} {e : Nat} {l : Int} (h : At T e l) (rr : Nat) : (rrN T e l rr : Int) * sumT T T.length + posT T (nxE T e l) (nxL T e l) = rr * sumT T T.length + posT T e l + 1 := by
  have h0 := h.pos
  have hlt := h.lt
  unfold rrN nxE nxL
  by_cases hl : l - 1 > 0
  · simp only [if_pos hl]; unfold posT; omega
  · simp only [if_neg hl]
    have hl1 : l = 1 := by omega
    by_cases hw : e + 1 = T.length
    · rw [if_pos hw, hw, Nat.mod_self]
      have h1 : ((rr + 1 : Nat) : Int) * sumT T T.length = rr * sumT T T.length + sumT T T.length := by rw [Int.natCast_add, Int.add_mul]; simp
      have h2 : sumT T T.length = sumT T e + (tkd T e).2 := by rw [← hw]; rfl
      rw [h1]; unfold posT; simp only [sumT]; omega
    · rw [if_neg hw, Nat.mod_eq_of_lt (by omega)]
      have h2 : sumT T (e + 1) = sumT T e + (tkd T e).2 := rfl
      unfold posT; omega
theorem share_got {T : Ones} {e : Nat} {l : Int} (h : At T e l) (rr d : Nat) : (rrN T e l rr : Int) * wantF T T.length d + gotF T (nxE T e l) (nxL T e l) d = rr * wantF T T.length d + gotF T e l d + if (tkd T e).1 = d then 1 else 0 := by
  have h0 := h.pos
  have hlt := h.lt
  unfold rrN nxE nxL
  by_cases hl : l - 1 > 0
  · simp only [if_pos hl]; unfold gotF; split <;> omega
  · simp only [if_neg hl]
    have hl1 : l = 1 := by omega
    by_cases hw : e + 1 = T.length
    · rw [if_pos hw, hw, Nat.mod_self]
      have h1 : ((rr + 1 : Nat) : Int) * wantF T T.length d = rr * wantF T T.length d + wantF T T.length d := by rw [Int.natCast_add, Int.add_mul]; simp
      have h2 : wantF T T.length d = wantF T e d + if (tkd T e).1 = d then (tkd T e).2 else 0 := by rw [← hw]; rfl
      rw [h1]; unfold gotF; simp only [wantF]
      split at h2 <;> split <;> simp_all <;> omega
    · rw [if_neg hw, Nat.mod_eq_of_lt (by omega)]
      have h2 : wantF T (e + 1) d = wantF T e d + if (tkd T e).1 = d then (tkd T e).2 else 0 := rfl
      unfold gotF; rw [h2]
      by_cases hc : (tkd T e).1 = d
      · simp only [if_pos hc]; split <;> omega
      · simp only [if_neg hc]; split <;> omega
theorem share_begun {T : Ones} {e : Nat} {l : Int} (h : At T e l) (rr : Nat) : rrN T e l rr * T.length + nxE T e l = rr * T.length + e + if l - 1 > 0 then 0 else 1 := by
  have hlt := h.lt
  unfold rrN nxE
  by_cases hl : l - 1 > 0
  · simp only [if_pos hl]; omega
  · simp only [if_neg hl]
    by_cases hw : e + 1 = T.length
    · rw [if_pos hw, hw, Nat.mod_self, Nat.add_mul]; omega
    · rw [if_neg hw, Nat.mod_eq_of_lt (by omega)]; omega
/-- Behind just so many rounds. -/
theorem share_end {T : Ones} {e rr r : Nat} {l : Int} (h : At T e l) (hr : r ≤ 2) (hp : (rr : Int) * sumT T T.length + posT T e l = r * sumT T T.length) : rr = r ∧ e = 0 ∧ l = (tkd T 0).2 := by
  obtain ⟨h1, h2, h3, h4⟩ := h.pos_ge
  have hrr : rr = r := by
    rcases Nat.lt_trichotomy rr r with hlt | heq | hgt
    · exfalso
      have : ((rr : Int) + 1) * sumT T T.length ≤ r * sumT T T.length := Int.mul_le_mul_of_nonneg_right (by omega) (by omega)
      rw [Int.add_mul] at this; omega
    · exact heq
    · exfalso
      have : ((r : Int) + 1) * sumT T T.length ≤ rr * sumT T T.length := Int.mul_le_mul_of_nonneg_right (by omega) (by omega)
      rw [Int.add_mul] at this; omega
  subst hrr
  have hp0 : posT T e l = 0 := by omega
  have he : e = 0 := by
    cases e with
    | zero => rfl
    | succ e =>
      have h5 := sumT_mono h.ok (n := 1) (m := e + 1) (by omega) (Nat.le_of_lt h.lt)
      have h6 := (h.ok.2 _ (List.mem_of_getElem? (tkd_get (show 0 < T.length by have := h.lt; omega)))).2.1
      have h7 : sumT T 1 = 0 + (tkd T 0).2 := rfl
      omega
  subst he
  refine ⟨rfl, rfl, ?_⟩
  unfold posT at hp0; simp only [sumT] at hp0; omega
theorem gotF_start (T : Ones) (d : Nat) : gotF T 0 (tkd T 0).2 d = 0 := by unfold gotF; simp [wantF]

/-! A plan -/
def planU (T : Ones) : Nat → List Int
  | 0 => []
  | e + 1 => planU T e ++ List.replicate (tkd T e).2.toNat (tkd T e).1
theorem plan_len {T : Ones} (h : tmsOk T) : ∀ {e : Nat}, e ≤ T.length → ((planU T e).length : Int) = sumT T e
  | 0, _ => rfl
  | e + 1, he => by
    have ih := plan_len h (e := e) (by omega)
    have ht := (h.2 _ (List.mem_of_getElem? (tkd_get (show e < T.length by omega)))).2
    simp only [planU, sumT, List.length_append, List.length_replicate]; omega
theorem plan_get {T : Ones} (h : tmsOk T) : ∀ {m e : Nat} {p : Nat}, m ≤ T.length → e < m → sumT T e ≤ p → (p : Int) < sumT T (e + 1) → (planU T m)[p]? = some (tkd T e).1
  | 0, e, p, _, h1, _, _ => by omega
  | m + 1, e, p, hm, h1, h2, h3 => by
    have hl := plan_len h (e := m) (by omega)
    have h5 : sumT T (e + 1) = sumT T e + (tkd T e).2 := rfl
    simp only [planU]
    by_cases he : e = m
    · subst he
      rw [List.getElem?_append_right (by omega), List.getElem?_replicate, if_pos (by omega)]
    · have h6 := sumT_mono h (n := e + 1) (m := m) (by omega) (by omega)
      rw [List.getElem?_append_left (by omega)]
      exact plan_get h (by omega) (by omega) h2 h3
theorem At.plan {T : Ones} {e : Nat} {l : Int} (h : At T e l) {p : Nat} (hp : posT T e l = p) : (planU T T.length)[p]? = some (tkd T e).1 := by
  obtain ⟨h1, h2, _, _⟩ := h.pos_ge
  exact plan_get h.ok (Nat.le_refl _) h.lt (by omega) (by omega)
theorem replicate_snoc {T : Ones} {e k : Nat} : planU T e ++ List.replicate (k + 1) (tkd T e).1 = (planU T e ++ List.replicate k (tkd T e).1) ++ [(tkd T e).1] := by
  rw [List.replicate_succ', List.append_assoc]

end Go.Proofs.Ytpjodkcghiklcab
