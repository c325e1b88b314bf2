/- Layer 7 in plain Lean, seventh part: the document's store, and that it holds what the program's holds. No condition. -/
import Derived.Test.YtdodfnjmkpgdbaaM07g
import Derived.Test.YtdodfnjmkpgdbaaMS
set_option linter.unusedVariables false
set_option linter.unusedSimpArgs false
namespace Go.Proofs.Ytdodfnjmkpgdbaa
open Go.SL

structure DN where
  id : Nat
  rad : Nat
  caps : List CapM
  cb : Nat
def dnC (d : DN) : List Value := [.int .i64 d.id, .int .i64 d.rad, .slice (some ⟨d.cb, 0, none⟩) d.caps.length d.caps.length]
instance : Enc dnC 3 := ⟨fun _ => rfl, fun _ => rfl⟩
def dIds (l : List DN) : List Int := l.map fun d => (d.id : Int)
theorem dIds_len (l : List DN) : (dIds l).length = l.length := by simp [dIds]
abbrev DN.o (d : DN) : Obj := .cells (capsCells d.caps).toArray 24
def dCaps (l : List DN) : Hp := l.map fun d => (d.cb, d.o)
theorem dCaps_app (l m : List DN) : dCaps (l ++ m) = dCaps l ++ dCaps m := by simp [dCaps]
/- The block in which the row lies (in a seat that has donjonref10.Caps: ahead of its tree uT). -/
def dfind (l : List DN) (id : Int) : Option DN := l.find? fun d => decide ((d.id : Int) = id)
theorem dfind_cons (a : DN) (l : List DN) (id : Int) : dfind (a :: l) id = if (a.id : Int) = id then some a else dfind l id := by
  unfold dfind; rw [List.find?_cons]
  by_cases h : (a.id : Int) = id
  · simp [h]
  · simp [h]
theorem dfind_app (l m : List DN) (id : Int) : dfind (l ++ m) id = (dfind l id).or (dfind m id) := by unfold dfind; rw [List.find?_append]
theorem dfind_some {id : Int} {d : DN} : ∀ {l : List DN}, dfind l id = some d → ∃ i : Nat, idxM (dIds l) id = i ∧ l[i]? = some d ∧ (d.id : Int) = id
  | [], h => by cases h
  | a :: l, h => by
    rw [dfind_cons] at h
    split at h
    · rename_i e; cases h; exact ⟨0, by simp [dIds, idxM, e], rfl, e⟩
    · rename_i e
      obtain ⟨i, h1, h2, h3⟩ := dfind_some h
      refine ⟨i + 1, ?_, by simpa using h2, h3⟩
      show (if (a.id : Int) = id then 0 else if idxM (dIds l) id < 0 then -1 else idxM (dIds l) id + 1) = _
      rw [if_neg e, h1, if_neg (by omega)]; push_cast; rfl
theorem dfind_none {id : Int} : ∀ {l : List DN}, dfind l id = none → idxM (dIds l) id = -1
  | [], _ => rfl
  | a :: l, h => by
    rw [dfind_cons] at h
    split at h
    · cases h
    · rename_i e
      show (if (a.id : Int) = id then 0 else if idxM (dIds l) id < 0 then -1 else idxM (dIds l) id + 1) = _
      rw [if_neg e, dfind_none h]; rfl
theorem dfind_mem {l : List DN} {id : Int} {d : DN} (h : dfind l id = some d) : d ∈ l := List.mem_of_find?_eq_some h
theorem dids_idx {l : List DN} {i : Nat} {d : DN} (h : l[i]? = some d) : (dIds l)[i]? = some (d.id : Int) := by simp [dIds, h]

/-! ### What is answered -/
def dcap? (l : List DN) (s : SlotM) : Option CapM :=
  match dfind l s.1 with
  | none => none
  | some d => if 0 ≤ s.2 ∧ s.2 < d.caps.length then d.caps[s.2.toNat]? else none
def dget (l : List DN) (s : SlotM) : CapM × Int := match dcap? l s with | none => (CapM.zero, 6) | some x => (x, 0)
def dradix (l : List DN) (id : Int) : Int := match dfind l id with | none => 0 | some d => (d.rad : Int)
def dsetC (l : List DN) (s : SlotM) (c : CapM) : List DN := match dfind l s.1 with | none => l | some d => l.set (idxM (dIds l) s.1).toNat { d with caps := d.caps.set s.2.toNat c }
def dput (l : List DN) (s : SlotM) (c : CapM) : Int × List DN :=
  match dcap? l s with
  | none => (6, l)
  | some x => if checkM c ≠ 0 then (checkM c, l) else if c.kind = 0 then (3, l) else if x.kind ≠ 0 then (4, l) else (0, dsetC l s c)
def dtake (l : List DN) (s : SlotM) : CapM × Int × List DN :=
  match dcap? l s with
  | none => (CapM.zero, 6, l)
  | some x => if x.kind = 0 then (x, 3, l) else (x, 0, dsetC l s CapM.zero)
def dfull (l : List DN) : List SlotM := l.flatMap fun d => nodeFull d.id d.caps d.caps.length
def dcount (l : List DN) (k o : Int) : Nat := (dfull l).countP fun s => decide ((dget l s).1.kind = k) && decide ((dget l s).1.object = o)
def daddErr (l : List DN) (id r : Int) : Int := if id < 0 ∨ 64 ≤ id ∨ r < 1 ∨ 4 < r then 1 else if (dfind l id).isSome then 4 else 0
def dempty (d : DN) : Prop := ∀ c, c ∈ d.caps → c.kind = 0
def ddel (l : List DN) (id : Int) : List DN := l.eraseIdx (idxM (dIds l) id).toNat
theorem dcap_some {l : List DN} {s : SlotM} {c : CapM} (h : dcap? l s = some c) : ∃ d, dfind l s.1 = some d ∧ (0 ≤ s.2 ∧ s.2 < d.caps.length) ∧ d.caps[s.2.toNat]? = some c := by
  unfold dcap? at h
  split at h
  · cases h
  · rename_i d hd
    split at h
    · rename_i hs; exact ⟨d, hd, hs, h⟩
    · cases h
theorem dcap_none {l : List DN} {s : SlotM} {d : DN} (h : dcap? l s = none) (hd : dfind l s.1 = some d) : ¬ (0 ≤ s.2 ∧ s.2 < d.caps.length) := by
  unfold dcap? at h
  rw [hd] at h
  dsimp only at h
  intro hs
  rw [if_pos hs, List.getElem?_eq_none_iff] at h
  omega

/-! ### The document's check is the program's -/
def i64R (x : Int) : Prop := -9223372036854775808 ≤ x ∧ x < 9223372036854775808
def u64R (x : Int) : Prop := 0 ≤ x ∧ x < 18446744073709551616
structure CapM.Rg (c : CapM) : Prop where
  rights : i64R c.rights
  badge : u64R c.badge
  guard : u64R c.guard
theorem mask7 (x : BitVec 64) : (x &&& ~~~7#64) = 0#64 ↔ x.toNat < 8 := by
  have e7 : (x &&& 7#64).toNat = x.toNat % 8 := by
    rw [BitVec.toNat_and, show (7#64).toNat = 2 ^ 3 - 1 by rfl, Nat.and_two_pow_sub_one_eq_mod]
  have es : x = (x &&& 7#64) ||| (x &&& ~~~7#64) := by
    apply BitVec.eq_of_getLsbD_eq
    intro i hi
    simp only [BitVec.getLsbD_or, BitVec.getLsbD_and, BitVec.getLsbD_not, hi, decide_true, Bool.true_and]
    cases x.getLsbD i <;> cases (7#64).getLsbD i <;> rfl
  constructor
  · intro h
    rw [h, BitVec.or_zero] at es
    rw [es, e7]; omega
  · intro h
    have : x = x &&& 7#64 := by
      apply BitVec.eq_of_toNat_eq
      rw [e7]; omega
    rw [this, BitVec.and_assoc]
    have z : (7#64 &&& ~~~7#64) = 0#64 := by decide
    rw [z, BitVec.and_zero]
theorem rights_iff {r : Int} (h : i64R r) : rightsOk r = true ↔ 0 ≤ r ∧ r ≤ 7 := by
  have hx : (BitVec.ofInt 64 r).toNat = (r % 18446744073709551616).toNat := by rw [BitVec.toNat_ofInt]; rfl
  have hb := (BitVec.ofInt 64 r &&& ~~~BitVec.ofInt 64 7).isLt
  have hw : ∀ m : Nat, m < 2 ^ 64 → (IntKind.i64.wrap (m : Int) = 0 ↔ m = 0) := by
    intro m hm
    simp [IntKind.wrap, IntKind.signed, IntKind.bits]; omega
  have e : bitsI .andNot .i64 r 7 = IntKind.i64.wrap ((BitVec.ofInt 64 r &&& ~~~BitVec.ofInt 64 7).toNat : Int) := rfl
  unfold rightsOk
  rw [decide_eq_true_iff, e, hw _ hb]
  have z : (BitVec.ofInt 64 r &&& ~~~BitVec.ofInt 64 7).toNat = 0 ↔ (BitVec.ofInt 64 r &&& ~~~7#64) = 0#64 :=
    ⟨fun h => BitVec.eq_of_toNat_eq h, fun h => congrArg BitVec.toNat h⟩
  rw [z, mask7, hx]
  unfold i64R at h
  omega
def dOk (c : CapM) : Prop :=
  ((0 ≤ c.object ∧ c.object ≤ 63) ∧ (0 ≤ c.rights ∧ c.rights ≤ 7) ∧ c.badge < 268435456 ∧ ((0 ≤ c.bits ∧ c.bits ≤ 16) ∧ c.guard < 2 ^ c.bits.toNat)) ∧
    (c.kind = 0 ∨ c.kind = 10 → c.object = 0) ∧ (¬ ((c.kind = 4 ∨ c.kind = 5) ∨ c.kind = 6) → c.rights = 0) ∧ (¬ (c.kind = 4 ∨ c.kind = 5) → c.badge = 0) ∧ (c.kind ≠ 2 → c.bits = 0)
theorem fits_iff {g b : Int} (h : u64R g) : fitsM g b = true ↔ (0 ≤ b ∧ b ≤ 16) ∧ g < 2 ^ b.toNat := by
  unfold fitsM
  rw [Bool.and_eq_true, Bool.and_eq_true, decide_eq_true_iff, decide_eq_true_iff, decide_eq_true_iff]
  obtain ⟨m, rfl⟩ : ∃ m : Nat, g = m := ⟨g.toNat, by unfold u64R at h; omega⟩
  by_cases hb : 0 ≤ b ∧ b ≤ 16
  · rw [show min b.toNat 64 = b.toNat by omega, fdiv_pow]
    have e : ((2 : Int) ^ b.toNat) = ((2 ^ b.toNat : Nat) : Int) := by norm_cast
    rw [e]
    have hp : 0 < 2 ^ b.toNat := Nat.two_pow_pos _
    constructor
    · rintro ⟨h1, h2, h3⟩
      refine ⟨⟨h1, h2⟩, ?_⟩
      have : m / 2 ^ b.toNat = 0 := by omega
      have := (Nat.div_eq_zero_iff_lt hp).1 this
      omega
    · rintro ⟨⟨h1, h2⟩, h3⟩
      refine ⟨h1, h2, ?_⟩
      rw [Nat.div_eq_of_lt (by omega)]; rfl
  · constructor
    · rintro ⟨h1, h2, h3⟩; exact absurd ⟨h1, h2⟩ hb
    · rintro ⟨h1, _⟩; exact absurd h1 hb
theorem plain_iff (c : CapM) (hg : 0 ≤ c.guard) : plainM c = c ↔ (c.kind = 0 ∨ c.kind = 10 → c.object = 0) ∧ (¬ ((c.kind = 4 ∨ c.kind = 5) ∨ c.kind = 6) → c.rights = 0) ∧ (¬ (c.kind = 4 ∨ c.kind = 5) → c.badge = 0) ∧ (c.kind ≠ 2 → c.bits = 0 ∧ c.guard = 0) := by
  obtain ⟨k, o, r, b, g, n⟩ := c
  unfold plainM
  dsimp only at hg ⊢
  split
  · simp only [CapM.mk.injEq, true_and, and_true]; omega
  · split
    · simp only [CapM.mk.injEq, true_and, and_true]; omega
    · split
      · simp only [CapM.mk.injEq, true_and, and_true]; omega
      · split
        · simp only [CapM.mk.injEq, true_and, and_true]; omega
        · simp only [CapM.mk.injEq, true_and, and_true]; omega
theorem check_doc {c : CapM} (hr : c.Rg) (hk : 0 ≤ c.kind ∧ c.kind ≤ 11) [Decidable (dOk c)] : checkM c = if dOk c then 0 else 10 := by
  have h1 := rights_iff hr.rights
  have h2 := fits_iff (b := c.bits) hr.guard
  have h3 := plain_iff c hr.guard.1
  obtain ⟨m, hm⟩ : ∃ m : Nat, c.badge = m := ⟨c.badge.toNat, by have := hr.badge.1; omega⟩
  have h4 : c.badge.fdiv (2 ^ 28) = ((m / 2 ^ 28 : Nat) : Int) := by rw [hm, fdiv_pow]
  unfold checkM
  rw [if_neg (by omega), h4]
  have ho : (c.object < 0 ∨ c.object.fdiv (2 ^ 6) ≠ 0) ↔ ¬ (0 ≤ c.object ∧ c.object ≤ 63) := by
    by_cases h0 : c.object < 0
    · constructor
      · intro _; omega
      · intro _; exact .inl h0
    · obtain ⟨j, hj⟩ : ∃ j : Nat, c.object = j := ⟨c.object.toNat, by omega⟩
      rw [hj, fdiv_pow]; omega
  by_cases hd : dOk c
  · rw [if_pos hd]
    obtain ⟨⟨d1, d2, d3, d4⟩, d5, d6, d7, d8⟩ := hd
    rw [if_neg]
    rintro (e | e | e | e | e | e)
    · refine e (h3.2 ⟨d5, d6, d7, fun hk2 => ⟨d8 hk2, ?_⟩⟩)
      have hb := d8 hk2
      have := d4.2
      rw [hb] at this
      have := hr.guard.1
      simp at *; omega
    · exact ho.1 (.inl e) d1
    · exact ho.1 (.inr e) d1
    · rw [h1.2 d2] at e; cases e
    · omega
    · rw [h2.2 d4] at e; cases e
  · rw [if_neg hd, if_pos]
    by_cases q1 : plainM c = c
    · refine .inr ?_
      obtain ⟨p1, p2, p3, p4⟩ := h3.1 q1
      by_cases q2 : 0 ≤ c.object ∧ c.object ≤ 63
      · by_cases q3 : rightsOk c.rights = true
        · by_cases q4 : m / 2 ^ 28 = 0
          · by_cases q5 : fitsM c.guard c.bits = true
            · exact absurd ⟨⟨q2, h1.1 q3, by omega, h2.1 q5⟩, p1, p2, p3, fun h => (p4 h).1⟩ hd
            · exact .inr (.inr (.inr (.inr (by simpa using q5))))
          · exact .inr (.inr (.inr (.inl (by omega))))
        · exact .inr (.inr (.inl (by simpa using q3)))
      · rcases ho.2 q2 with h | h
        · exact .inl h
        · exact .inr (.inl h)
    · exact .inl q1

theorem check_ok {c : CapM} (hr : c.Rg) (hk : 0 ≤ c.kind ∧ c.kind ≤ 11) (h : dOk c) : checkM c = 0 := by
  haveI : Decidable (dOk c) := .isTrue h
  rw [check_doc hr hk, if_pos h]
theorem check_no {c : CapM} (hr : c.Rg) (hk : 0 ≤ c.kind ∧ c.kind ≤ 11) (h : ¬ dOk c) : checkM c = 10 := by
  haveI : Decidable (dOk c) := .isFalse h
  rw [check_doc hr hk, if_neg h]
theorem check_bad {c : CapM} (h : c.kind < 0 ∨ 11 < c.kind) : checkM c = 2 := by unfold checkM; rw [if_pos h]
theorem shlI {b : Int} (h : 0 ≤ b) (h2 : b ≤ 16) : IntKind.u64.wrap (1 * 2 ^ (min b.toNat 64)) = (2 : Int) ^ b.toNat := by
  obtain ⟨k, rfl⟩ : ∃ k : Nat, b = k := ⟨b.toNat, by omega⟩
  rw [shl1 (by omega), Int.toNat_natCast]; norm_cast

/-! ### The document's blocks -/
theorem d_lt {l : List DN} {i : Nat} {d : DN} (h : l[i]? = some d) : i < l.length := (List.getElem?_eq_some_iff.1 h).1
theorem dCaps_split {l : List DN} {i : Nat} {d : DN} (h : l[i]? = some d) : dCaps l = dCaps (l.take i) ++ (d.cb, d.o) :: dCaps (l.drop (i + 1)) := by
  have hlt := d_lt h
  have he : l[i] = d := by rw [List.getElem?_eq_getElem hlt] at h; exact Option.some.inj h
  conv => lhs; rw [← List.take_append_drop i l, List.drop_eq_getElem_cons hlt, he]
  simp [dCaps]
theorem dCaps_blk {l : List DN} {i : Nat} {d : DN} (h : l[i]? = some d) : Blk (dCaps l) d.cb (.cells (capsCells d.caps).toArray 24 (0, 0)) := ⟨by rw [dCaps_split h]; simp⟩
theorem dCaps_upd {l : List DN} {i : Nat} {d d' : DN} (h : l[i]? = some d) (hb : d'.cb = d.cb) {o : Obj} (ho : o = d'.o) : Upd (dCaps l) d.cb o (dCaps (l.set i d')) := by
  subst ho
  refine ⟨dCaps (l.take i), dCaps (l.drop (i + 1)), d.o, dCaps_split h, ?_⟩
  rw [List.set_eq_take_append_cons_drop, if_pos (d_lt h), dCaps_app]
  simp [dCaps, hb]
theorem cel_set {l : List DN} {i : Nat} {d d' : DN} (h : l[i]? = some d) (he : dnC d' = dnC d) : cel dnC (l.set i d') = cel dnC l := by
  have hlt := d_lt h
  have e0 : l[i] = d := by rw [List.getElem?_eq_getElem hlt] at h; exact Option.some.inj h
  rw [List.set_eq_take_append_cons_drop, if_pos hlt, cel_app, cel_cons, he]
  conv => rhs; rw [← List.take_append_drop i l, List.drop_eq_getElem_cons hlt, e0, cel_app, cel_cons]
theorem caps_setL {l : List CapM} {i : Nat} {c c' : CapM} (h : l[i]? = some c) : SetL (capsCells l) (0 + i * 6) c'.cells (capsCells (l.set i c')) := by
  have hlt : i < l.length := (List.getElem?_eq_some_iff.1 h).1
  refine setL_of (capsCells (l.take i)) (capsCells (l.drop (i + 1))) c.cells (capsCells_split h) (capsCells_set h) ?_ rfl
  simp [capsCells_len, Nat.min_eq_left (Nat.le_of_lt hlt)]; omega
theorem caps_reads0 {l : List CapM} {i : Nat} {c : CapM} (h : l[i]? = some c) : Reads (capsCells l) (0 + i * 6) c.cells := by rw [Nat.zero_add]; exact caps_reads h
theorem dnC_set (d : DN) (j : Nat) (c : CapM) : dnC { d with caps := d.caps.set j c } = dnC d := by simp [dnC]
theorem dsetC_eq {l : List DN} {s : SlotM} {d : DN} {i : Nat} (h : dfind l s.1 = some d) (hi : idxM (dIds l) s.1 = i) (c : CapM) : dsetC l s c = l.set i { d with caps := d.caps.set s.2.toNat c } := by
  unfold dsetC; rw [h, hi]; rfl
theorem dput_none {l : List DN} {s : SlotM} (h : dcap? l s = none) (c : CapM) : dput l s c = (6, l) := by unfold dput; rw [h]
theorem dput_some {l : List DN} {s : SlotM} {x : CapM} (h : dcap? l s = some x) (c : CapM) : dput l s c = if checkM c ≠ 0 then (checkM c, l) else if c.kind = 0 then (3, l) else if x.kind ≠ 0 then (4, l) else (0, dsetC l s c) := by unfold dput; rw [h]
theorem dtake_none {l : List DN} {s : SlotM} (h : dcap? l s = none) : dtake l s = (CapM.zero, 6, l) := by unfold dtake; rw [h]
theorem dtake_some {l : List DN} {s : SlotM} {x : CapM} (h : dcap? l s = some x) : dtake l s = if x.kind = 0 then (x, 3, l) else (x, 0, dsetC l s CapM.zero) := by unfold dtake; rw [h]
theorem dget_none {l : List DN} {s : SlotM} (h : dcap? l s = none) : dget l s = (CapM.zero, 6) := by unfold dget; rw [h]
theorem dget_some {l : List DN} {s : SlotM} {x : CapM} (h : dcap? l s = some x) : dget l s = (x, 0) := by unfold dget; rw [h]

/-! ### What is full, in the document's order -/
def dfullTo (l : List DN) (i : Nat) : List SlotM := dfull (l.take i)
theorem dfullTo_succ {l : List DN} {i : Nat} {d : DN} (h : l[i]? = some d) : dfullTo l (i + 1) = dfullTo l i ++ nodeFull d.id d.caps d.caps.length := by
  unfold dfullTo dfull
  rw [List.take_add_one, h, List.flatMap_append]; simp
theorem dfullTo_all (l : List DN) : dfullTo l l.length = dfull l := by unfold dfullTo; rw [List.take_length]
/-- No more than so many slots a node. -/
def dSmall (l : List DN) : Prop := ∀ d, d ∈ l → d.caps.length ≤ 16
theorem dfull_len {l : List DN} (h : dSmall l) : (dfull l).length ≤ l.length * 16 := by
  induction l with
  | nil => simp [dfull]
  | cons a l ih =>
    have h1 := nodeFull_len a.id a.caps a.caps.length
    have h2 := h a (List.mem_cons_self ..)
    have h3 := ih (fun d hd => h d (List.mem_cons_of_mem _ hd))
    have e : dfull (a :: l) = nodeFull a.id a.caps a.caps.length ++ dfull l := rfl
    rw [e, List.length_append, List.length_cons]; omega
theorem dfullTo_len {l : List DN} (h : dSmall l) (i : Nat) : (dfullTo l i).length ≤ l.length * 16 := by
  have h1 := dfull_len (l := l.take i) (fun d hd => h d (List.mem_of_mem_take hd))
  have h2 : (l.take i).length ≤ l.length := by rw [List.length_take]; omega
  unfold dfullTo
  have := Nat.mul_le_mul_right 16 h2
  omega
def dcntTo (l : List DN) (k o : Int) (i : Nat) : Nat := ((dfull l).take i).countP fun s => decide ((dget l s).1.kind = k) && decide ((dget l s).1.object = o)
theorem dcntTo_succ {l : List DN} {k o : Int} {i : Nat} {s : SlotM} (h : (dfull l)[i]? = some s) : dcntTo l k o (i + 1) = dcntTo l k o i + if (dget l s).1.kind = k ∧ (dget l s).1.object = o then 1 else 0 := by
  unfold dcntTo
  rw [List.take_add_one, h, List.countP_append]
  simp [List.countP_cons]
theorem dcntTo_zero (l : List DN) (k o : Int) : dcntTo l k o 0 = 0 := by unfold dcntTo; simp
theorem dcntTo_all (l : List DN) (k o : Int) : dcntTo l k o (dfull l).length = dcount l k o := by unfold dcntTo dcount; rw [List.take_length]
theorem dcntTo_le {l : List DN} (k o : Int) (i : Nat) : dcntTo l k o i ≤ (dfull l).length := by
  unfold dcntTo
  exact Nat.le_trans List.countP_le_length (by rw [List.length_take]; omega)
theorem nodeFull_yes {id : Nat} {caps : List CapM} {j : Nat} {c : CapM} (h : caps[j]? = some c) (hk : c.kind ≠ 0) : nodeFull id caps (j + 1) = nodeFull id caps j ++ [((id : Int), (j : Int))] := by simp only [nodeFull, h, Option.getD_some]; rw [if_pos hk]
theorem nodeFull_no {id : Nat} {caps : List CapM} {j : Nat} {c : CapM} (h : caps[j]? = some c) (hk : ¬ c.kind ≠ 0) : nodeFull id caps (j + 1) = nodeFull id caps j := by simp only [nodeFull, h, Option.getD_some]; rw [if_neg hk, List.append_nil]

/-! ### A node that comes or goes -/
theorem replicate_caps (r : Nat) : (List.replicate r CapM.zero.cells).flatten = capsCells (List.replicate r CapM.zero) := by
  rw [capsCells, List.flatMap_def, List.map_replicate]
theorem dadd_perm {l : List DN} {n : Nat} {d : DN} {H F : Hp} : ((d.cb, d.o) :: (H ++ (dCaps l ++ F))).Perm (H ++ (dCaps (l.take n ++ d :: l.drop n) ++ F)) := by
  have e : dCaps (l.take n ++ d :: l.drop n) = dCaps (l.take n) ++ (d.cb, d.o) :: dCaps (l.drop n) := by simp [dCaps]
  have e2 : dCaps l = dCaps (l.take n) ++ dCaps (l.drop n) := by rw [← dCaps_app, List.take_append_drop]
  rw [e, e2]
  refine (List.perm_middle.symm.trans ?_)
  refine List.Perm.append_left H ?_
  rw [← List.cons_append]
  exact (List.perm_middle.symm).append_right F
theorem ddel_perm {l : List DN} {i : Nat} {d : DN} (h : l[i]? = some d) : (dCaps l).Perm ((d.cb, d.o) :: dCaps (l.eraseIdx i)) := by
  rw [dCaps_split h, List.eraseIdx_eq_take_drop_succ, dCaps_app]
  exact List.perm_middle
theorem sh1N {k : Nat} (h : k ≤ 4) : IntKind.i64.wrap (1 * 2 ^ (min (k : Int).toNat 64)) = ((2 ^ k : Nat) : Int) := by
  match k, h with
  | 0, _ => rfl
  | 1, _ => rfl
  | 2, _ => rfl
  | 3, _ => rfl
  | 4, _ => rfl
theorem pow4 {k : Nat} (h : k ≤ 4) : 1 ≤ 2 ^ k ∧ 2 ^ k ≤ 1048576 := by
  match k, h with
  | 0, _ => decide
  | 1, _ => decide
  | 2, _ => decide
  | 3, _ => decide
  | 4, _ => decide
def newN (m k cb : Nat) : DN := ⟨m, k, List.replicate (2 ^ k) CapM.zero, cb⟩
theorem newN_c (m k cb : Nat) : dnC (newN m k cb) = [.int .i64 m, .int .i64 k, .slice (some ⟨cb, 0, none⟩) (2 ^ k) (2 ^ k)] := by simp [dnC, newN]
/-- Where a node of that id stands. -/
def dPlace (l : List DN) (id : Int) (n : Nat) : Prop := n ≤ l.length ∧ (∀ j d, j < n → l[j]? = some d → (d.id : Int) < id) ∧ ∀ d, l[n]? = some d → ¬ (d.id : Int) < id
/- What Add answers, and leaves. -/
theorem cel_ins {l : List DN} {n : Nat} (d : DN) : cel dnC (l.take n) ++ dnC d ++ cel dnC (l.drop n) = cel dnC (l.take n ++ d :: l.drop n) := by rw [cel_app, cel_cons, List.append_assoc]
theorem len_ins {l : List DN} {n : Nat} (d : DN) (h : n ≤ l.length) : (l.take n).length + 1 + (l.drop n).length = (l.take n ++ d :: l.drop n).length := by simp; omega
/- What Drop answers, and leaves. -/
theorem dempty_no {d : DN} {j : Nat} {c : CapM} (h : d.caps[j]? = some c) (hk : c.kind ≠ 0) : ¬ dempty d := fun e => hk (e c (List.mem_of_getElem? h))
theorem dempty_yes {d : DN} (h : ∀ j c, j < d.caps.length → d.caps[j]? = some c → c.kind = 0) : dempty d := fun c hc => by
  obtain ⟨j, hj⟩ := List.getElem?_of_mem hc
  exact h j c (List.getElem?_eq_some_iff.1 hj).1 hj
theorem ddel_len {l : List DN} {i : Nat} (h : i < l.length) : (l.take i).length + (l.drop (i + 1)).length = (l.eraseIdx i).length := by rw [List.length_eraseIdx]; simp [h]; omega
theorem ddel_cel {l : List DN} {i : Nat} : cel dnC (l.take i) ++ cel dnC (l.drop (i + 1)) = cel dnC (l.eraseIdx i) := by rw [List.eraseIdx_eq_take_drop_succ, cel_app]
theorem ddel_eq {l : List DN} {x : Int} {i : Nat} (h : idxM (dIds l) x = i) : ddel l x = l.eraseIdx i := by unfold ddel; rw [h]; rfl
end Go.Proofs.Ytdodfnjmkpgdbaa
