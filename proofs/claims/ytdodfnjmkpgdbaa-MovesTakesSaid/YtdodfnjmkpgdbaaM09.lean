/- Layer 9 in plain Lean: a tree of slots, how it lies in memory, and what its acts leave. No condition. -/
import Derived.Test.YtdodfnjmkpgdbaaSP
import Derived.Test.YtdodfnjmkpgdbaaM09f
import Derived.Test.YtdodfnjmkpgdbaaM07f
set_option linter.unusedVariables false
set_option linter.unusedSimpArgs false
namespace Go.Proofs.Ytdodfnjmkpgdbaa
open Go.SL

structure TreeM where
  n : Nat
  sl : Nat → SlotM
  par : Nat → Option Nat
  kids : Nat → List Nat
  M : List (SlotM × Nat × Nat)

def tget (s : SlotM) : List (SlotM × Nat × Nat) → Option Nat
  | [] => none
  | e :: l => if s = e.1 then some e.2.1 else tget s l
def tdel (s : SlotM) : List (SlotM × Nat × Nat) → List (SlotM × Nat × Nat)
  | [] => []
  | e :: l => if s = e.1 then l else e :: tdel s l
theorem tget_app {s : SlotM} : ∀ {l m : List (SlotM × Nat × Nat)}, tget s (l ++ m) = (tget s l).or (tget s m)
  | [], m => rfl
  | e :: l, m => by
    simp only [List.cons_append, tget]
    split
    · rfl
    · exact tget_app
theorem tget_notin {s : SlotM} : ∀ {l : List (SlotM × Nat × Nat)}, s ∉ l.map Prod.fst → tget s l = none
  | [], _ => rfl
  | e :: l, h => by
    simp only [List.map_cons, List.mem_cons, not_or] at h
    simp only [tget]; rw [if_neg h.1]; exact tget_notin h.2
theorem tget_none {s : SlotM} : ∀ {l : List (SlotM × Nat × Nat)}, tget s l = none → s ∉ l.map Prod.fst
  | [], _ => by simp
  | e :: l, h => by
    simp only [tget] at h
    split at h
    · cases h
    · rename_i he
      simp only [List.map_cons, List.mem_cons, not_or]
      exact ⟨he, tget_none h⟩
theorem tget_del {s : SlotM} : ∀ {l : List (SlotM × Nat × Nat)}, (l.map Prod.fst).Nodup → ∀ o, tget o (tdel s l) = if o = s then none else tget o l
  | [], _, o => by simp [tdel, tget]
  | e :: l, h, o => by
    simp only [List.map_cons, List.nodup_cons] at h
    simp only [tdel]
    by_cases he : s = e.1
    · rw [if_pos he]
      by_cases ho : o = s
      · rw [if_pos ho, ho, he]; exact tget_notin h.1
      · rw [if_neg ho]; simp only [tget]; rw [if_neg (by rw [← he]; exact ho)]
    · rw [if_neg he]
      simp only [tget]
      rw [tget_del h.2 o]
      by_cases ho : o = s
      · subst ho; simp [he]
      · simp [ho]
theorem tdel_sub {s : SlotM} : ∀ {l : List (SlotM × Nat × Nat)}, (tdel s l).Sublist l
  | [] => List.Sublist.refl _
  | e :: l => by
    simp only [tdel]
    split
    · exact List.sublist_cons_self _ _
    · exact tdel_sub.cons_cons _
theorem tdel_len {s : SlotM} {i : Nat} : ∀ {l : List (SlotM × Nat × Nat)}, tget s l = some i → (tdel s l).length + 1 = l.length
  | [], h => by cases h
  | e :: l, h => by
    simp only [tget] at h
    simp only [tdel]
    split at h
    · rename_i he; rw [if_pos he]; rfl
    · rename_i he; rw [if_neg he, List.length_cons, List.length_cons, tdel_len h]

/-! ### In memory -/
def ptrO (blk : Nat → Nat) : Option Nat → Value
  | none => .pointer none
  | some j => .pointer (some ⟨blk j, 0, none⟩)
abbrev knC (blk : Nat → Nat) (T : TreeM) (kv : Nat → Value) (i : Nat) : List Value := [.int .i64 (T.sl i).1, .int .i64 (T.sl i).2, ptrO blk (T.par i), kv i]
abbrev knO (blk : Nat → Nat) (T : TreeM) (kv : Nat → Value) (i : Nat) : Obj := .cells (knC blk T kv i).toArray 113
def knS (blk : Nat → Nat) (T : TreeM) (kv : Nat → Value) (kH : Nat → Hp) (i : Nat) : Hp := (blk i, knO blk T kv i) :: kH i
def kvT (blk : Nat → Nat) (M : List (SlotM × Nat × Nat)) : List (SlotM × Value × Nat) := M.map fun e => (e.1, .pointer (some ⟨blk e.2.1, 0, none⟩), e.2.2)
def kidsOk (blk : Nat → Nat) (T : TreeM) (kv : Nat → Value) (kH : Nat → Hp) : Prop := ∀ i, i < T.n → Slc 109 1 (kv i) (T.kids i).length (ptsC ((T.kids i).map blk)) (kH i)
abbrev trBlk (tb mb : Nat) : Nat × Obj := (tb, .cells [.map (some mb)].toArray 107)
abbrev mpBlk (mb : Nat) (blk : Nat → Nat) (M : List (SlotM × Nat × Nat)) (clk : Nat) : Nat × Obj := (mb, mapO encS (kvT blk M) clk)
def TrH (T : TreeM) (tb : Nat) (L : Hp) : Prop := ∃ mb clk blk kv kH, kidsOk blk T kv kH ∧ L = trBlk tb mb :: mpBlk mb blk T.M clk :: segs (knS blk T kv kH) T.n
def tptr (blk : Nat → Nat) (M : List (SlotM × Nat × Nat)) (s : SlotM) : Option Addr := (tget s M).map fun i => ⟨blk i, 0, none⟩
theorem mget_kvT (blk : Nat → Nat) (s : SlotM) : ∀ M, mget s (kvT blk M) = (tget s M).map fun i => .pointer (some ⟨blk i, 0, none⟩)
  | [] => rfl
  | e :: l => by
    simp only [kvT, List.map_cons, mget, tget]
    split
    · rfl
    · exact mget_kvT blk s l
theorem tptr_hm (blk : Nat → Nat) (M : List (SlotM × Nat × Nat)) (s : SlotM) : (mget s (kvT blk M)).getD (.pointer none) = .pointer (tptr blk M s) := by
  rw [mget_kvT]; unfold tptr; cases tget s M <;> rfl
theorem tptr_is {blk : Nat → Nat} {M : List (SlotM × Nat × Nat)} {s : SlotM} : (tptr blk M s).isSome = (tget s M).isSome := by unfold tptr; cases tget s M <;> rfl
theorem tptr_some {blk : Nat → Nat} {M : List (SlotM × Nat × Nat)} {s : SlotM} {i : Nat} (h : tget s M = some i) : tptr blk M s = some ⟨blk i, 0, none⟩ := by unfold tptr; rw [h]; rfl
theorem tptr_no {blk : Nat → Nat} {M : List (SlotM × Nat × Nat)} {s : SlotM} (h : tget s M = none) : tptr blk M s = none := by unfold tptr; rw [h]; rfl
theorem kn_blk {blk : Nat → Nat} {T : TreeM} {kv : Nat → Value} {kH : Nat → Hp} {i n : Nat} (h : i < n) : Blk (segs (knS blk T kv kH) n) (blk i) (.cells [.int .i64 (T.sl i).1, .int .i64 (T.sl i).2, ptrO blk (T.par i), kv i].toArray 113 (0, 0)) := ⟨segs_mem h (List.mem_cons_self ..)⟩
theorem kn_view {blk : Nat → Nat} {T : TreeM} {kv : Nat → Value} {kH : Nat → Hp} {i : Nat} (hk : kidsOk blk T kv kH) (h : i < T.n) : View (segs (knS blk T kv kH) T.n) 1 (kv i) (T.kids i).length (ptsC ((T.kids i).map blk)) :=
  (hk i h).view.mono fun p hp => segs_mem h (List.mem_cons_of_mem _ hp)
theorem kn_isC {blk : Nat → Nat} {T : TreeM} {kv : Nat → Value} {kH : Nat → Hp} {i n : Nat} (h : i < n) : isC (segs (knS blk T kv kH) n) (blk i) := ⟨_, _, segs_mem h (List.mem_cons_self ..)⟩
/-- A segment's first block, written. -/
theorem segs_split {h : Nat → Hp} {i : Nat} : ∀ {n : Nat}, i < n → ∃ A B, ∀ H, segs (fset h i H) n = A ++ (H ++ B)
  | 0, hi => by omega
  | n + 1, hi => by
    by_cases e : i = n
    · subst e
      refine ⟨segs h i, [], fun H => ?_⟩
      rw [segs_succ, fset_same, segs_congr (h := fset h i H) (k := h) (fun j hj => fset_ne (by omega)), List.append_nil]
    · obtain ⟨A, B, hAB⟩ := segs_split (h := h) (i := i) (n := n) (by omega)
      refine ⟨A, B ++ h n, fun H => ?_⟩
      rw [segs_succ, fset_ne (show n ≠ i by omega), hAB, List.append_assoc, List.append_assoc]
theorem fset_selfT {α : Type} {f : Nat → α} {i : Nat} : fset f i (f i) = f := by
  funext j; unfold fset; split
  · rename_i h; rw [h]
  · rfl
theorem segs_upd {h : Nat → Hp} {i n b : Nat} {o o' : Obj} {H : Hp} (hi : i < n) (hh : h i = (b, o) :: H) : Upd (segs h n) b o' (segs (fset h i ((b, o') :: H)) n) := by
  obtain ⟨A, B, hAB⟩ := segs_split (h := h) hi
  have e := hAB (h i)
  rw [fset_selfT] at e
  refine ⟨A, H ++ B, o, ?_, ?_⟩
  · rw [e, hh]; rfl
  · rw [hAB]; rfl

/-! ### What the acts leave -/
/-- A knot more, of slot s, that comes of p. -/
def TreeM.more (T : TreeM) (s : SlotM) (p : Option Nat) (t : Nat) : TreeM :=
  { n := T.n + 1, sl := fset T.sl T.n s, par := fset T.par T.n p,
    kids := match p with | none => fset T.kids T.n [] | some j => fset (fset T.kids T.n []) j (T.kids j ++ [T.n]),
    M := T.M ++ [(s, T.n, t)] }
theorem tput_new {s : SlotM} {v : Value} {t : Nat} {blk : Nat → Nat} : ∀ {M : List (SlotM × Nat × Nat)}, tget s M = none → mput s v t (kvT blk M) = kvT blk M ++ [(s, v, t)]
  | [], _ => rfl
  | e :: l, h => by
    simp only [tget] at h
    split at h
    · cases h
    · rename_i hid
      have := tput_new (v := v) (t := t) (blk := blk) h
      simp only [kvT, List.map_cons, mput, hid, if_false, List.cons_append] at this ⊢
      rw [this]
theorem tclk_new {s : SlotM} {cl : Nat} {blk : Nat → Nat} {M : List (SlotM × Nat × Nat)} (h : tget s M = none) : mclk s (kvT blk M) cl = cl + 1 := by
  simp [mclk, mget_kvT, h]
theorem tdel_kvT {s : SlotM} {blk : Nat → Nat} : ∀ M : List (SlotM × Nat × Nat), mdel s (kvT blk M) = kvT blk (tdel s M)
  | [] => rfl
  | e :: l => by
    simp only [kvT, List.map_cons, mdel, tdel]
    split
    · rfl
    · have := tdel_kvT (s := s) (blk := blk) l
      simp only [kvT] at this
      rw [this]; rfl
theorem kvT_congr {blk blk' : Nat → Nat} {M : List (SlotM × Nat × Nat)} (h : ∀ e, e ∈ M → blk' e.2.1 = blk e.2.1) : kvT blk' M = kvT blk M := List.map_congr_left fun e he => by rw [h e he]
theorem tget_mem {s : SlotM} {i : Nat} : ∀ {M : List (SlotM × Nat × Nat)}, tget s M = some i → ∃ t, (s, i, t) ∈ M
  | [], h => by cases h
  | e :: l, h => by
    simp only [tget] at h
    split at h
    · rename_i he; cases h; obtain ⟨a, b, c⟩ := e; dsimp only at he; subst he; exact ⟨c, List.mem_cons_self ..⟩
    · obtain ⟨t, ht⟩ := tget_mem h; exact ⟨t, List.mem_cons_of_mem _ ht⟩
/-- The numbers that are spoken of are knots'. -/
structure TreeM.Ix (T : TreeM) : Prop where
  par : ∀ i j, i < T.n → T.par i = some j → j < T.n
  kids : ∀ i j, i < T.n → j ∈ T.kids i → j < T.n
  map : ∀ e, e ∈ T.M → e.2.1 < T.n
  small : ∀ i, i < T.n → (T.kids i).length ≤ T.n
theorem TreeM.Ix.get {T : TreeM} (h : T.Ix) {s : SlotM} {i : Nat} (hi : tget s T.M = some i) : i < T.n := by
  obtain ⟨t, ht⟩ := tget_mem hi; exact h.map _ ht

/-! ### What is told -/
def tparS (T : TreeM) (s : SlotM) : SlotM := match (tget s T.M).bind T.par with | none => (0, 0) | some j => T.sl j
def tparB (T : TreeM) (s : SlotM) : Bool := ((tget s T.M).bind T.par).isSome
def tkids (T : TreeM) (s : SlotM) : List SlotM := match tget s T.M with | none => [] | some i => (T.kids i).map T.sl
def tkin (T : TreeM) (F : (Fo Nat)) (s : SlotM) : List SlotM := match tget s T.M with | none => [] | some i => (Fo.sub i F).all.map T.sl
structure TOk (T : TreeM) (F : (Fo Nat)) : Prop where
  nd : Fo.Nd F
  lt : ∀ i, i ∈ F.all → i < T.n
  par : Fo.OkP T.par F none
  kids : Fo.OkK T.kids F
  map : ∀ s i, tget s T.M = some i ↔ i ∈ F.all ∧ T.sl i = s
  uniq : (T.M.map Prod.fst).Nodup
  len : T.M.length = F.all.length
  ix : T.Ix
theorem TOk.mem {T : TreeM} {F : (Fo Nat)} (h : TOk T F) {s : SlotM} {i : Nat} (hi : tget s T.M = some i) : i ∈ F.all := ((h.map s i).1 hi).1
theorem TOk.sl {T : TreeM} {F : (Fo Nat)} (h : TOk T F) {s : SlotM} {i : Nat} (hi : tget s T.M = some i) : T.sl i = s := ((h.map s i).1 hi).2
theorem TOk.get {T : TreeM} {F : (Fo Nat)} (h : TOk T F) {i : Nat} (hi : i ∈ F.all) : tget (T.sl i) T.M = some i := (h.map _ i).2 ⟨hi, rfl⟩
theorem TOk.inj {T : TreeM} {F : (Fo Nat)} (h : TOk T F) {i j : Nat} (hi : i ∈ F.all) (hj : j ∈ F.all) (e : T.sl i = T.sl j) : i = j := by
  have h1 := h.get hi
  rw [e, h.get hj] at h1; exact (Option.some.inj h1).symm
theorem nodup_len : ∀ {n : Nat} {l : List Nat}, l.Nodup → (∀ x, x ∈ l → x < n) → l.length ≤ n
  | 0, l, _, hl => by cases l with
    | nil => exact Nat.le_refl _
    | cons a l => exact absurd (hl a (List.mem_cons_self ..)) (Nat.not_lt_zero a)
  | n + 1, l, hn, hl => by
    have h1 := nodup_len (n := n) (l := l.erase n) (hn.erase n) (fun x hx => by
      have h2 := (hn.mem_erase_iff.1 hx)
      have := hl x h2.2
      have := h2.1; omega)
    have h2 := List.length_erase (a := n) (l := l)
    split at h2 <;> omega
theorem TOk.all_len {T : TreeM} {F : (Fo Nat)} (h : TOk T F) : F.all.length ≤ T.n := nodup_len h.nd h.lt
theorem sub_len : ∀ (f : (Fo Nat)) (x : Nat), (Fo.sub x f).all.length ≤ f.all.length
  | .nil, _ => Nat.le_refl _
  | .cons i c r, x => by
    simp only [Fo.sub, Fo.all, List.length_cons, List.length_append]
    split
    · omega
    · split
      · have := sub_len c x; omega
      · have := sub_len r x; omega
theorem roots_len : ∀ f : (Fo Nat), f.roots.length ≤ f.all.length
  | .nil => Nat.le_refl _
  | .cons i c r => by
    have := roots_len r
    simp only [Fo.roots, Fo.all, List.length_cons, List.length_append]; omega
theorem kn_view2 {blk : Nat → Nat} {T : TreeM} {kv : Nat → Value} {kH : Nat → Hp} {i : Nat} (hk : kidsOk blk T kv kH) (h : i < T.n) : View (segs (knS blk T kv kH) T.n) 1 (kv i) ((T.kids i).map blk).length (ptsC ((T.kids i).map blk)) := by
  rw [List.length_map]; exact kn_view hk h
theorem kn_form {blk : Nat → Nat} {T : TreeM} {kv : Nat → Value} {kH : Nat → Hp} {i : Nat} (hk : kidsOk blk T kv kH) (h : i < T.n) : ∃ a c, kv i = .slice a ((T.kids i).map blk).length c := by
  rw [List.length_map]; exact (hk i h).form
theorem fo_cons {g : (Fo Nat)} {blk : Nat → Nat} (h : ((g.roots.map blk).length : Int) > 0) : ∃ q c r, g = .cons q c r := by
  cases g with
  | nil => simp [Fo.roots] at h
  | cons q c r => exact ⟨q, c, r, rfl⟩
theorem fo_nil {g : (Fo Nat)} {blk : Nat → Nat} (h : ¬ ((g.roots.map blk).length : Int) > 0) : g = .nil := by
  cases g with
  | nil => rfl
  | cons q c r => simp [Fo.roots] at h

/-! ### A knot more, in memory -/
theorem ptrO_congr {blk blk' : Nat → Nat} {p : Option Nat} (h : ∀ j, p = some j → blk' j = blk j) : ptrO blk' p = ptrO blk p := by
  cases p with
  | none => rfl
  | some j => simp only [ptrO, h j rfl]
section more
variable {T : TreeM} (hx : T.Ix) {blk : Nat → Nat} {kv : Nat → Value} {kH : Nat → Hp} {s : SlotM} {b t clk : Nat}
include hx
theorem more_kvT : kvT (fset blk T.n b) (T.M ++ [(s, T.n, t)]) = kvT blk T.M ++ [(s, .pointer (some ⟨b, 0, none⟩), t)] := by
  have e : kvT (fset blk T.n b) T.M = kvT blk T.M := kvT_congr fun e he => fset_ne (by have := hx.map e he; omega)
  have e2 : kvT (fset blk T.n b) (T.M ++ [(s, T.n, t)]) = kvT (fset blk T.n b) T.M ++ [(s, .pointer (some ⟨fset blk T.n b T.n, 0, none⟩), t)] := by simp [kvT]
  rw [e2, e, fset_same]
theorem more_kids {i : Nat} (hi : i < T.n) : (T.kids i).map (fset blk T.n b) = (T.kids i).map blk := List.map_congr_left fun j hj => fset_ne (by have := hx.kids i j hi hj; omega)
theorem more_root : segs (knS (fset blk T.n b) (T.more s none t) (fset kv T.n (.slice none 0 0)) (fset kH T.n [])) (T.n + 1) = segs (knS blk T kv kH) T.n ++ [(b, .cells [.int .i64 s.1, .int .i64 s.2, .pointer none, .slice none 0 0].toArray 113)] := by
  rw [segs_succ]
  congr 1
  · refine segs_congr fun i hi => ?_
    have h1 : i ≠ T.n := by omega
    have h2 : ptrO (fset blk T.n b) (T.par i) = ptrO blk (T.par i) := ptrO_congr fun j hj => fset_ne (by have := hx.par i j hi hj; omega)
    simp only [knS, knO, knC, TreeM.more, fset_ne h1, h2]
  · simp only [knS, knO, knC, TreeM.more, fset_same, ptrO]
theorem more_child {j : Nat} {v1 : Value} {H1 : Hp} (hj : j < T.n) : segs (knS (fset blk T.n b) (T.more s (some j) t) (fset (fset kv T.n (.slice none 0 0)) j v1) (fset (fset kH T.n []) j H1)) (T.n + 1) =
    segs (fset (knS blk T kv kH) j ((blk j, .cells [.int .i64 (T.sl j).1, .int .i64 (T.sl j).2, ptrO blk (T.par j), v1].toArray 113) :: H1)) T.n ++ [(b, .cells [.int .i64 s.1, .int .i64 s.2, .pointer (some ⟨blk j, 0, none⟩), .slice none 0 0].toArray 113)] := by
  have hjn : j ≠ T.n := by omega
  rw [segs_succ]
  congr 1
  · refine segs_congr fun i hi => ?_
    have h1 : i ≠ T.n := by omega
    have h2 : ptrO (fset blk T.n b) (T.par i) = ptrO blk (T.par i) := ptrO_congr fun j hj => fset_ne (by have := hx.par i j hi hj; omega)
    by_cases e : i = j
    · subst e
      simp only [knS, knO, knC, TreeM.more, fset_ne h1, h2, fset_same]
    · rw [fset_ne e]
      simp only [knS, knO, knC, TreeM.more, fset_ne h1, h2, fset_ne e]
  · simp only [knS, knO, knC, TreeM.more, fset_same, ptrO, fset_ne (Ne.symm hjn), fset_ne hjn]
theorem more_root_ok (hk : kidsOk blk T kv kH) : kidsOk (fset blk T.n b) (T.more s none t) (fset kv T.n (.slice none 0 0)) (fset kH T.n []) := by
  intro i hi
  simp only [TreeM.more] at hi ⊢
  by_cases e : i = T.n
  · subst e; rw [fset_same, fset_same, fset_same]; exact Slc.nil _ _
  · rw [fset_ne e, fset_ne e, fset_ne e, more_kids hx (by omega)]; exact hk i (by omega)
theorem more_child_ok (hk : kidsOk blk T kv kH) {j : Nat} {v1 : Value} {H1 : Hp} (hj : j < T.n) (hs : Slc 109 1 v1 ((T.kids j).length + 1) (ptsC ((T.kids j).map blk) ++ [.pointer (some ⟨b, 0, none⟩)]) H1) :
    kidsOk (fset blk T.n b) (T.more s (some j) t) (fset (fset kv T.n (.slice none 0 0)) j v1) (fset (fset kH T.n []) j H1) := by
  intro i hi
  simp only [TreeM.more] at hi ⊢
  by_cases e2 : i = j
  · subst e2
    rw [fset_same, fset_same, fset_same, List.map_append, more_kids hx hj, List.length_append, ptsC_app, List.map_singleton, fset_same]
    exact hs
  · rw [fset_ne e2, fset_ne e2, fset_ne e2]
    by_cases e : i = T.n
    · subst e; rw [fset_same, fset_same, fset_same]; exact Slc.nil _ _
    · rw [fset_ne e, fset_ne e, fset_ne e, more_kids hx (by omega)]; exact hk i (by omega)
end more

/-- What add answers, and leaves. -/
def TAdd (T : TreeM) (s : SlotM) (p : Option Nat) (e : Int) (T' : TreeM) : Prop := (∃ i, tget s T.M = some i ∧ e = 4 ∧ T' = T) ∨ (tget s T.M = none ∧ e = 0 ∧ ∃ t, T' = T.more s p t)
def TChild (T : TreeM) (o s : SlotM) (e : Int) (T' : TreeM) : Prop := (tget o T.M = none ∧ e = 3 ∧ T' = T) ∨ ∃ j, tget o T.M = some j ∧ TAdd T s (some j) e T'
/-- Knot i in another place. -/
def TreeM.moved (T : TreeM) (f s : SlotM) (i t : Nat) : TreeM := { T with sl := fset T.sl i s, M := tdel f T.M ++ [(s, i, t)] }
def TMove (T : TreeM) (f s : SlotM) (e : Int) (T' : TreeM) : Prop :=
  (tget f T.M = none ∧ e = 3 ∧ T' = T) ∨ ∃ i, tget f T.M = some i ∧ ((∃ j, tget s T.M = some j ∧ e = 4 ∧ T' = T) ∨ (tget s T.M = none ∧ e = 0 ∧ ∃ t, T' = T.moved f s i t))
theorem moved_segs {T : TreeM} {blk : Nat → Nat} {kv : Nat → Value} {kH : Nat → Hp} {f s : SlotM} {i t : Nat} :
    segs (fset (knS blk T kv kH) i ((blk i, .cells [.int .i64 s.1, .int .i64 s.2, ptrO blk (T.par i), kv i].toArray 113) :: kH i)) T.n = segs (knS blk (T.moved f s i t) kv kH) T.n := by
  refine segs_congr fun z hz => ?_
  by_cases e : z = i
  · subst e; rw [fset_same]; simp only [knS, knO, knC, TreeM.moved, fset_same]
  · rw [fset_ne e]; simp only [knS, knO, knC, TreeM.moved, fset_ne e]
theorem tdel_none {s f : SlotM} : ∀ {M : List (SlotM × Nat × Nat)}, tget s M = none → tget s (tdel f M) = none
  | [], _ => rfl
  | e :: l, h => by
    simp only [tget] at h
    split at h
    · cases h
    · rename_i he
      simp only [tdel]
      split
      · exact h
      · simp only [tget]; rw [if_neg he]; exact tdel_none h

/-! ### A knot that goes, in memory -/
/-- The first k of x's children come of what x comes of. -/
def TreeM.dropK (T : TreeM) (x k : Nat) : TreeM := { T with par := fun z => if z ∈ (T.kids x).take k then T.par x else T.par z }
def TreeM.gone (T : TreeM) (s : SlotM) (x : Nat) : TreeM :=
  { T with par := fun z => if z ∈ T.kids x then T.par x else T.par z, kids := match T.par x with | none => T.kids | some j => fset T.kids j (Fo.repl x (T.kids x) (T.kids j)), M := tdel s T.M }
def TDrop (T : TreeM) (s : SlotM) (e : Int) (T' : TreeM) : Prop := (tget s T.M = none ∧ e = 3 ∧ T' = T) ∨ ∃ i, tget s T.M = some i ∧ e = 0 ∧ T' = T.gone s i
section drop
variable {T : TreeM} {blk : Nat → Nat} {kv : Nat → Value} {kH : Nat → Hp}
theorem dropK_zero (x : Nat) : T.dropK x 0 = T := by
  unfold TreeM.dropK; rw [List.take_zero]; simp
theorem dropK_par {x k : Nat} (h : x ∉ T.kids x) : (T.dropK x k).par x = T.par x := if_neg fun e => h (List.mem_of_mem_take e)
theorem dropK_succ {x k q : Nat} (hq : (T.kids x)[k]? = some q) :
    segs (fset (knS blk (T.dropK x k) kv kH) q ((blk q, .cells [.int .i64 (T.sl q).1, .int .i64 (T.sl q).2, ptrO blk (T.par x), kv q].toArray 113) :: kH q)) T.n = segs (knS blk (T.dropK x (k + 1)) kv kH) T.n := by
  have hm : ∀ z, z ∈ (T.kids x).take (k + 1) ↔ z ∈ (T.kids x).take k ∨ z = q := by
    intro z; rw [List.take_add_one, hq]; simp
  refine segs_congr fun z hz => ?_
  by_cases e : z = q
  · subst e
    rw [fset_same]
    have : (T.dropK x (k + 1)).par z = T.par x := if_pos ((hm z).2 (.inr rfl))
    simp only [knS, knO, knC, this]; rfl
  · rw [fset_ne e]
    have : (T.dropK x (k + 1)).par z = (T.dropK x k).par z := by
      unfold TreeM.dropK
      dsimp only
      by_cases h : z ∈ (T.kids x).take k
      · rw [if_pos h, if_pos ((hm z).2 (.inl h))]
      · rw [if_neg h, if_neg (fun h2 => by rcases (hm z).1 h2 with h2 | h2; exact h h2; exact e h2)]
    simp only [knS, knO, knC, this]; rfl
theorem gone_none {s : SlotM} {x : Nat} (hp : T.par x = none) : segs (knS blk (T.dropK x (T.kids x).length) kv kH) T.n = segs (knS blk (T.gone s x) kv kH) T.n := by
  refine segs_congr fun z hz => ?_
  simp only [knS, knO, knC, TreeM.dropK, TreeM.gone, List.take_length]
theorem gone_some {s : SlotM} {x j : Nat} (hp : T.par x = some j) {v1 : Value} {H1 : Hp} :
    segs (fset (knS blk (T.dropK x (T.kids x).length) kv kH) j ((blk j, .cells [.int .i64 (T.sl j).1, .int .i64 (T.sl j).2, ptrO blk ((T.dropK x (T.kids x).length).par j), v1].toArray 113) :: H1)) T.n = segs (knS blk (T.gone s x) (fset kv j v1) (fset kH j H1)) T.n := by
  refine segs_congr fun z hz => ?_
  by_cases e : z = j
  · subst e; rw [fset_same]; simp only [knS, knO, knC, TreeM.dropK, TreeM.gone, List.take_length, fset_same]
  · rw [fset_ne e]; simp only [knS, knO, knC, TreeM.dropK, TreeM.gone, List.take_length, fset_ne e]
theorem gone_none_ok {s : SlotM} {x : Nat} (hp : T.par x = none) (hk : kidsOk blk T kv kH) : kidsOk blk (T.gone s x) kv kH := by
  intro i hi; simp only [TreeM.gone, hp]; exact hk i hi
theorem gone_some_ok {s : SlotM} {x j : Nat} (hp : T.par x = some j) (hk : kidsOk blk T kv kH) {v1 : Value} {H1 : Hp} (hs : Slc 109 1 v1 (Fo.repl x (T.kids x) (T.kids j)).length (ptsC ((Fo.repl x (T.kids x) (T.kids j)).map blk)) H1) :
    kidsOk blk (T.gone s x) (fset kv j v1) (fset kH j H1) := by
  intro i hi
  simp only [TreeM.gone, hp]
  by_cases e : i = j
  · subst e; rw [fset_same, fset_same, fset_same]; exact hs
  · rw [fset_ne e, fset_ne e, fset_ne e]; exact hk i hi
end drop
theorem repl_at {x : Nat} {l : List Nat} : ∀ {m : List Nat}, x ∈ m → ∃ p : Nat, idxN m x = p ∧ m[p]? = some x ∧ Fo.repl x l m = m.take p ++ l ++ m.drop (p + 1)
  | [], h => by cases h
  | a :: m, h => by
    by_cases e : a = x
    · refine ⟨0, by simp [idxN, e], by simp [e], ?_⟩
      simp [Fo.repl, e]
    · have hm : x ∈ m := by
        rcases List.mem_cons.1 h with h | h
        · exact absurd h.symm e
        · exact h
      obtain ⟨p, h1, h2, h3⟩ := repl_at (l := l) hm
      refine ⟨p + 1, ?_, by simpa using h2, ?_⟩
      · simp only [idxN, if_neg e, h1]; rw [if_neg (by omega)]; push_cast; rfl
      · simp only [Fo.repl, if_neg e, h3]; simp
theorem segs_inj {h : Nat → Hp} {b : Nat → Nat} {o : Nat → Obj} {H : Nat → Hp} (hh : ∀ i, h i = (b i, o i) :: H i) : ∀ {n : Nat}, ((segs h n).map Prod.fst).Nodup → ∀ i j, i < n → j < n → b i = b j → i = j
  | 0, _, i, _, hi, _, _ => absurd hi (Nat.not_lt_zero i)
  | n + 1, hnd, i, j, hi, hj, e => by
    rw [segs_succ, List.map_append, List.nodup_append] at hnd
    have hlast : b n ∈ (h n).map Prod.fst := by rw [hh]; simp
    have hin : ∀ k, k < n → b k ∈ (segs h n).map Prod.fst := fun k hk => List.mem_map.2 ⟨(b k, o k), segs_mem hk (by rw [hh]; exact List.mem_cons_self ..), rfl⟩
    by_cases h1 : i = n
    · by_cases h2 : j = n
      · omega
      · subst h1; exact absurd e.symm (hnd.2.2 _ (hin j (by omega)) _ hlast)
    · by_cases h2 : j = n
      · subst h2; exact absurd e (hnd.2.2 _ (hin i (by omega)) _ hlast)
      · exact segs_inj hh hnd.1 i j (by omega) (by omega) e
theorem Own.swapSeg {W w : World} {h : Nat → Hp} {j n b : Nat} {o : Obj} {K0 K R : Hp} (hj : j < n) (ho : Own W w (K ++ (segs (fset h j ((b, o) :: K0)) n ++ R))) : Own W w (segs (fset h j ((b, o) :: K)) n ++ R) := by
  have e1 := segs_take (h := fset h j ((b, o) :: K0)) hj
  have e2 := segs_take (h := fset h j ((b, o) :: K)) hj
  rw [fset_same, fset_fset] at e1 e2
  have h1 := ho.perm (List.Perm.append_left K (e1.append_right R))
  have h1' : Own W w ((b, o) :: (K0 ++ (K ++ (segs (fset h j []) n ++ R)))) := by
    refine h1.perm ?_
    simp only [List.cons_append]
    refine List.perm_middle.trans (List.Perm.cons _ ?_)
    rw [List.append_assoc]
    exact List.perm_append_comm_assoc ..
  have h2 : Own W w ((b, o) :: (K ++ (segs (fset h j []) n ++ R))) := h1'.sublist ((List.sublist_append_right K0 _).cons_cons _)
  refine h2.perm ?_
  have := e2.symm.append_right R
  simp only [List.cons_append, List.append_assoc] at this
  exact this
end Go.Proofs.Ytdodfnjmkpgdbaa
