/- KernelCalls. Laid together by pack.py out of the texts in wip. -/
import Derived.Test.YtipncceiekalfaaGreatPKernelCalls2
set_option linter.unusedVariables false
set_option linter.unusedSimpArgs false
set_option linter.unusedSectionVars false
section
set_option linter.unusedVariables false
set_option linter.unusedSimpArgs false
namespace Go.Proofs.YtipncceiekalfaaGreat
open Go.SL
abbrev ptrV (b : Nat) : Value := .pointer (some ⟨b, 0, none⟩)
def schC (v : Value) (e l : Int) (p : Nat → Value) : List Value := v :: .int .i64 e :: .int .i64 l :: (List.range 4).map p
theorem sch_p {v : Value} {e l : Int} {p : Nat → Value} {d : Nat} (hd : d < 4) : nth (schC v e l p) (3 + d * 1) = some (p d) := by
 rw [nth_eq, Nat.mul_one, Nat.add_comm]
 unfold schC
 simp only [List.getElem?_cons_succ]
 rw [List.getElem?_map, List.getElem?_range hd]; rfl
theorem arr_p {p : Nat → Value} {d : Nat} (hd : d < 4) : nth ((List.range 4).map p) (d * 1) = some (p d) := by
 rw [nth_eq, Nat.mul_one, List.getElem?_map, List.getElem?_range hd]; rfl
theorem sch_reads {v : Value} {e l : Int} {p : Nat → Value} : Reads (schC v e l p) 3 ((List.range 4).map p) := ⟨rfl, rfl, rfl, rfl, trivial⟩
theorem map_set4 {p : Nat → Value} {d : Nat} {x : Value} (hd : d < 4) : ((List.range 4).map p).set d x = (List.range 4).map (fset p d x) := by
 apply List.ext_getElem?
 intro j
 rw [List.getElem?_set, List.getElem?_map, List.getElem?_map, List.length_map, List.length_range]
 by_cases e : d = j
 ·
  subst e; rw [if_pos rfl, if_pos hd, List.getElem?_range hd, Option.map_some, fset_same]
 ·
  rw [if_neg e]
  by_cases h : j < 4
  ·
   rw [List.getElem?_range h, Option.map_some, Option.map_some, fset_ne (Ne.symm e)]
  ·
   rw [List.getElem?_eq_none (by simpa using h)]; rfl
theorem sch_setL {v : Value} {e l : Int} {p : Nat → Value} {d : Nat} {x : Value} (hd : d < 4) : SetL (schC v e l p) (3 + d * 1) [x] (schC v e l (fset p d x)) := by
 have h := SetL.set1 (l := schC v e l p) (i := 3 + d * 1) (v := x) (by simp [schC]; omega)
 have e2 : (schC v e l p).set (3 + d * 1) x = schC v e l (fset p d x) := by
  unfold schC
  rw [show 3 + d * 1 = d + 1 + 1 + 1 by omega, List.set_cons_succ, List.set_cons_succ, List.set_cons_succ, map_set4 hd]
 rw [e2] at h; exact h
theorem sch_0 {v : Value} {e l : Int} {p : Nat → Value} : nth (schC v e l p) 0 = some v := rfl
theorem sch_1 {v : Value} {e l : Int} {p : Nat → Value} : nth (schC v e l p) 1 = some (.int .i64 e) := rfl
def Rdys (L : Nat → Ones) (rb : Nat → Nat) (h : Nat → Hp) : Prop := ∀ d, d < 4 → RdyH (L d) (rb d) (h d)
def DRdys (L : Nat → Ones) (rb : Nat → Nat) (h : Nat → Hp) : Prop := ∀ d, d < 4 → DRdyH (L d) (rb d) (h d)
theorem Rdys.set {L : Nat → Ones} {rb : Nat → Nat} {h : Nat → Hp} (hR : Rdys L rb h) {d : Nat} {M : Ones} {H : Hp} (hM : RdyH M (rb d) H) : Rdys (fset L d M) rb (fset h d H) := fun j hj => by
 by_cases e : j = d
 ·
  subst e; rw [fset_same, fset_same]; exact hM
 ·
  rw [fset_ne e, fset_ne e]; exact hR j hj
theorem DRdys.set {L : Nat → Ones} {rb : Nat → Nat} {h : Nat → Hp} (hR : DRdys L rb h) {d : Nat} {M : Ones} {H : Hp} (hM : DRdyH M (rb d) H) : DRdys (fset L d M) rb (fset h d H) := fun j hj => by
 by_cases e : j = d
 ·
  subst e; rw [fset_same, fset_same]; exact hM
 ·
  rw [fset_ne e, fset_ne e]; exact hR j hj
def SchH (T : Ones) (e : Nat) (l : Int) (L : Nat → Ones) (sb : Nat) (H : Hp) : Prop := ∃ v K rb h, Slc 132 2 v T.length (cel oneC T) K ∧ Rdys L rb h ∧ H = (sb, .cells (schC v (e : Int) l (fun d => ptrV (rb d))).toArray 162) :: (K ++ segs h 4)
theorem sch_congr {v : Value} {e l : Int} {p q : Nat → Value} (h : ∀ d, d < 4 → p d = q d) : schC v e l p = schC v e l q := by
 unfold schC
 rw [List.map_congr_left (fun d hd => h d (List.mem_range.1 hd))]
def domN (T : Ones) (e : Nat) : Nat := (tkd T e).1.toNat
theorem At.domN {T : Ones} {e : Nat} {l : Int} (h : At T e l) : (tkd T e).1 = (domN T e : Nat) ∧ domN T e < 4 := by
 have := h.dom.1
 unfold Proofs.YtipncceiekalfaaGreat.domN
 exact ⟨by omega, by omega⟩
theorem tms_iff {T : Ones} : tmsOk T ↔ (1 ≤ T.length ∧ T.length ≤ 16) ∧ ∀ j, j < T.length → tmOk (tkd T j) := by
 constructor
 ·
  rintro ⟨h1, h2⟩; exact ⟨h1, fun j hj => h2 _ (List.mem_of_getElem? (tkd_get hj))⟩
 ·
  rintro ⟨h1, h2⟩
  refine ⟨h1, fun t ht => ?_⟩
  obtain ⟨j, hj, e⟩ := List.mem_iff_getElem.1 ht
  have := h2 j hj
  have e2 := tkd_get hj
  rw [List.getElem?_eq_getElem hj, e] at e2
  rw [Option.some.inj e2]; exact this
theorem tms_bad {T : Ones} {i : Nat} (hi : i < T.length) (h : ¬ tmOk (tkd T i)) : ¬ tmsOk T := fun e => h (e.2 _ (List.mem_of_getElem? (tkd_get hi)))
theorem reads_app2 {cc : List Value} : ∀ {A B : List Value} {o : Nat}, Reads cc o A → Reads cc (o + A.length) B → Reads cc o (A ++ B)
  | [], B, o, _, h => by simpa using h
  | a :: A, B, o, h, k => ⟨h.1, reads_app2 h.2 (by rw [show o + 1 + A.length = o + (a :: A).length by simp; omega]; exact k)⟩
theorem reads_cel {α : Type} {f : α → List Value} {k : Nat} [hf : Enc f k] {cc : List Value} : ∀ {l : List α} {o : Nat}, (∀ i a, l[i]? = some a → Reads cc (o + i * k) (f a)) → Reads cc o (cel f l)
  | [], _, _ => trivial
  | a :: l, o, h => by
    rw [cel_cons]
    refine reads_app2 (by simpa using h 0 a rfl) ?_
    rw [hf.len]
    exact reads_cel (fun i b hi => by
      have := h (i + 1) b (by simpa using hi)
      rwa [show o + (i + 1) * k = o + k + i * k by rw [Nat.add_mul]; omega] at this)
theorem argS_view {α : Type} {f : α → List Value} {k : Nat} [hf : Enc f k] {G : Hp} (hnd : (G.map Prod.fst).Nodup) {a : Option Addr} {c : Nat} {l : List α} (ha : ArgS G k a (l.map f)) (hc : l.length ≤ c) : View G k (.slice a l.length c) l.length (cel f l) := by
 refine ⟨cel_len l, a, c, rfl, hc, ?_⟩
 by_cases h0 : l.length = 0
 ·
  exact .inl h0
 ·
  right
  obtain ⟨x, hx⟩ : ∃ x, l[0]? = some x := ⟨_, List.getElem?_eq_getElem (by omega)⟩
  obtain ⟨_, b, o, cc, T, g, rfl, hm, _⟩ := ha 0 (f x) (by rw [List.getElem?_map, hx]; rfl)
  refine ⟨b, o, cc, T, g, rfl, hm, reads_cel fun i y hy => ?_⟩
  obtain ⟨_, b', o', cc', T', g', e, hm', hr⟩ := ha i (f y) (by rw [List.getElem?_map, hy]; rfl)
  cases e
  have := nodup_key hnd hm hm'
  injection this with e1 e2 e3
  have e4 : cc = cc' := List.toArray_inj e1
  rw [e4]; exact hr
end Go.Proofs.YtipncceiekalfaaGreat
end
section
set_option linter.unusedVariables false
set_option linter.unusedSimpArgs false
namespace Go.Proofs.YtipncceiekalfaaGreat
open Go.SL
theorem tr_listS {rb : Nat → Nat} {h : Nat → Hp} {L : Nat → Ones} (hR : Rdys L rb h) (hW : RdysW L) (hl : RdysL L (2 ^ 20)) {d : Nat} (hd : d < 4) (k : Int) : Tr Tryz.prog 203 [.pointer (some ⟨rb d, 0, none⟩), .int .i64 k] (segs h 4) (fun u L' => ∃ H', Slc 3 1 u (lvl (L d) k).length (intsC (lvl (L d) k)) H' ∧ L' = H' ++ segs h 4) :=
  ((tr_rdyList (rb d) (h d) (L d) (hR d hd) (hW d hd) (hl d hd) k).inSeg hd).post (by
    rintro v L1 ⟨L2, ⟨H', hs, rfl⟩, rfl⟩
    exact ⟨_, ⟨H', hs, rfl⟩, by rw [List.append_assoc]; exact List.Perm.append_left H' (segs_take hd).symm⟩)
theorem tr_putS {rb : Nat → Nat} {h : Nat → Hp} {L : Nat → Ones} (hR : Rdys L rb h) (hW : RdysW L) (hl : RdysL L (2 ^ 20)) {d : Nat} (hd : d < 4) (x k : Int) : Tr Tryz.prog 162 [.pointer (some ⟨rb d, 0, none⟩), .int .i64 x, .int .i64 k] (segs h 4) (fun u L' => u = .int .i64 (putE (L d) x k) ∧ ∃ H', RdyH (putR (L d) x k) (rb d) H' ∧ L' = segs (fset h d H') 4) :=
  ((tr_rdyPut (rb d) (h d) (L d) (hR d hd) (hW d hd) (hl d hd) x k).inSeg hd).post (by
    rintro v L1 ⟨L2, ⟨rfl, hs⟩, rfl⟩
    exact ⟨_, ⟨rfl, L2, hs, rfl⟩, segs_put hd⟩)
theorem tr_dropS {rb : Nat → Nat} {h : Nat → Hp} {L : Nat → Ones} (hR : Rdys L rb h) (hW : RdysW L) (hl : RdysL L (2 ^ 20)) {d : Nat} (hd : d < 4) (x : Int) : Tr Tryz.prog 161 [.pointer (some ⟨rb d, 0, none⟩), .int .i64 x] (segs h 4) (fun u L' => u = .bool (inR (L d) x) ∧ ∃ H', RdyH (dropR (L d) x) (rb d) H' ∧ L' = segs (fset h d H') 4) :=
  ((tr_rdyDrop (rb d) (h d) (L d) (hR d hd) (hW d hd) (hl d hd) x).inSeg hd).post (by
    rintro v L1 ⟨L2, ⟨rfl, hs⟩, rfl⟩
    exact ⟨_, ⟨rfl, L2, hs, rfl⟩, segs_put hd⟩)
theorem tr_nextS {rb : Nat → Nat} {h : Nat → Hp} {L : Nat → Ones} (hR : Rdys L rb h) (hW : RdysW L) (hl : RdysL L (2 ^ 20)) {d : Nat} (hd : d < 4) : TrR Tryz.prog 74 [.pointer (some ⟨rb d, 0, none⟩)] (segs h 4) (.tuple #[.int .i64 (nextV (L d)), .bool (nextB (L d))]) :=
  (tr_rdyNext (rb d) (h d) (L d) (hR d hd) (hW d hd) (hl d hd)).inSeg hd
theorem tr_domain (x : Int) : TrR Tryz.prog 92 [.int .i64 x] ([]) (.bool (domB x)) := by
 refine Tr.enter Tryz.func92 rfl Tryz.ntmps92 rfl (fun W F => ?_)
 refine Wp.app ?_
 refine zq [3,4,1,2,5,3,4,0,43,0] ?_
 refine Ops.pvc rfl rfl (fun hg => pv_move rfl) rfl ?_
 refine Ops.pvc rfl rfl (fun hg => Pv.setE (t := 6) rfl (cv_pos hg) (pv_lss rfl rfl)) rfl ?_
 refine zq [46,1,2,5,10] ?_
 exact zr ⟨rfl, rfl⟩
theorem tr_cloneT (G : Hp) (a : Option Addr) (c : Nat) (l : Ones) (hv : View G 2 (.slice a l.length c) l.length (cel oneC l)) (hl : l.length ≤ 2 ^ 40) : Tr Tryz.prog 93 [.slice a l.length c] (G) (fun v L' => ∃ H, Slc 132 2 v l.length (cel oneC l) H ∧ L' = H ++ G) := by
 refine Tr.enter Tryz.func93 rfl Tryz.ntmps93 rfl (fun W F => ?_)
 refine Wp.app ?_
 refine zq [3,4,1,2,5,3,3,4,0] ?_
 refine Ops.pv (pv_eql_slcnil rfl rfl) rfl ?_
 refine On ?_
 refine Wp.cond_t rfl (fun h1 => ?_) (fun h1 => ?_)
 ·
  obtain rfl := Option.isNone_iff_eq_none.1 h1
  obtain ⟨e0, e1⟩ := view_nil' hv
  refine zq [3,4,1,2,5,10,12] ?_
  exact Ends.ret (L' := G) (res1 rfl rfl) ⟨[], by rw [e0, e1]; exact Slc.nil _ _, rfl⟩
 refine zq [11,5,3,4] ?_
 refine Ops.ef rfl (ef_buildSlice0 rfl) ?_
 rintro _ _ ⟨b1, rfl, rfl⟩
 refine zq [0] ?_
 refine Ops.ef rfl (ef_appendV (H := [(b1, .cells ([] : List Value).toArray 132)]) rfl (slc_empty' 132 2 b1) rfl (hv.mono (by intro p hp; simp [hp])) (cel_one l) (by omega) (by omega) rfl rfl) ?_
 rintro _ _ ⟨v1, H1, hs1, rfl, rfl⟩
 refine Ops.app ?_
 skip
 refine zq [1,2,5,10] ?_
 rw [Nat.zero_add, List.nil_append] at hs1
 exact Ends.ret (L' := H1 ++ G) (res1 rfl rfl) ⟨H1, hs1, rfl⟩
theorem tr_sDomain (sb : Nat) (H : Hp) (T : Ones) (e : Nat) (l : Int) (L : Nat → Ones) (hH : SchH T e l L sb H) (hA : At T e l) : TrR Tryz.prog 73 [.pointer (some ⟨sb, 0, none⟩)] (H) (.int .i64 (tkd T e).1) := by
 obtain ⟨v, K, rb, h, hs, hR, rfl⟩ := hH
 obtain ⟨a, c, rfl⟩ := hs.form
 have hv := hs.view
 have hlt := hA.lt
 obtain ⟨b, o, cap, cc, T0, f, hv1, hbv, hr⟩ := hv.open (by omega)
 cases hv1
 obtain ⟨q0, q1⟩ := one_read hr (tkd_get hlt)
 refine Tr.enter Tryz.func73 rfl Tryz.ntmps73 rfl (fun W F => ?_)
 refine Wp.app ?_
 refine zq [3,4,1,2,5,3] ?_
 refine AnyH.startL 12 rfl ?_
 refine zd [0,1,1,3,2,0] ?_
 refine Tk 3 rfl rfl (pv_load rfl rfl sch_0) rfl ?_
 refine zd [4,1,5,3,6,0] ?_
 refine Tk 7 rfl rfl (pv_load rfl rfl sch_1) rfl ?_
 refine Tk 8 rfl rfl (pv_indexAddr (i := e) rfl rfl rfl hlt) rfl ?_
 refine zd [9,6] ?_
 refine Tk 10 rfl rfl (pv_load rfl rfl q0) rfl ?_
 refine zd [11,5] ?_
 refine AnyH.done (by kernel_rfl) ?_
 refine zq [5,10] ?_
 exact zr ⟨rfl, rfl⟩
theorem tr_sFind (sb : Nat) (H : Hp) (T : Ones) (e : Nat) (l : Int) (L : Nat → Ones) (hH : SchH T e l L sb H) (hW : RdysW L) (hl : RdysL L (2 ^ 20)) (x : Int) : TrR Tryz.prog 160 [.pointer (some ⟨sb, 0, none⟩), .int .i64 x] (H) (.tuple #[.int .i64 (fdD L x), .int .i64 (fdK L x), .bool (fdB L x)]) := by
 obtain ⟨v, K, rb, h, hs, hR, rfl⟩ := hH
 refine Tr.enter Tryz.func160 rfl Tryz.ntmps160 rfl (fun W F => ?_)
 refine Wp.app ?_
 refine zq [3,4,1,1,1,2,5,3,3,4,0,9,6] ?_
 refine Ops.pv (pv_loadK ((List.range 4).map (fun d => ptrV (rb d))) rfl rfl rfl sch_reads) rfl ?_
 refine zq [0,2,5,20] ?_
 refine Wp.loopK (σ := Nat) [(1, _), (13, _)] (fun s => [(14, .int .i64 s)]) (fun s => (sb, .cells (schC v e l (fun d => ptrV (rb d))).toArray 162) :: (K ++ (segs h 4 ++ F))) (fun s => s ≤ 4 ∧ ∀ j, j < s → levOf (L j) x = none) (fun s => 4 - s) 0 ⟨Nat.zero_le _, fun j hj => absurd hj (Nat.not_lt_zero j)⟩ ⟨rfl, rfl, trivial⟩ ⟨rfl, trivial⟩ (by intro w ho; (try dsimp only [List.nil_append, List.cons_append]); exact Drop.own ho) ?_
 rintro d KK ⟨hd, hn⟩ hK
 dsimp only [List.cons_append, List.nil_append] at hK ⊢
 refine zq [3,4,42,2,5,3] ?_
 refine Wp.cond_dect rfl (fun h1 => ?_) (fun h1 => ?_)
 ·
  have hd4 : d < 4 := by omega
  refine zq [11,5,3,20,3,4,0] ?_
  refine Ops.pv (pv_index1 (i := d) rfl rfl rfl rfl (by omega) (arr_p hd4)) rfl ?_
  refine zq [1,1,2,5,3,4,0,2,5,20] ?_
  refine Wp.loopK (σ := Nat) [(1, _), (7, _), (8, _), (13, _), (14, _)] (fun s => [(18, .int .i64 s)]) (fun s => (sb, .cells (schC v e l (fun d => ptrV (rb d))).toArray 162) :: (K ++ (segs h 4 ++ F))) (fun s => s ≤ 8 ∧ ∀ j : Nat, j < s → ¬ 0 ≤ idxM (lvl (L d) j) x) (fun s => 8 - s) 0 ⟨Nat.zero_le _, fun j hj => absurd hj (Nat.not_lt_zero j)⟩ ⟨rfl, rfl, rfl, rfl, rfl, trivial⟩ ⟨rfl, trivial⟩ (by intro w ho; (try dsimp only [List.nil_append, List.cons_append]); exact Drop.own ho) ?_
  rintro k KK ⟨hk, hm⟩ hK1
  dsimp only [List.cons_append, List.nil_append] at hK1 ⊢
  refine zq [3,4,42,2,5,3] ?_
  refine Wp.cond_dect rfl (fun h2 => ?_) (fun h2 => ?_)
  ·
   refine zq [11,5,3,20,3,4,0,1,2,5,3,4,0,0] ?_
   refine zD (tr_listS hR hW hl hd4 k) ?_
   rintro _ _ ⟨C1, hc1, rfl⟩
   refine Ops.app ?_
   obtain ⟨p1, q1, rfl⟩ := hc1.form
   have hll := Nat.le_trans (lvl_len (L d) k) (hl d hd4)
   refine zq [0] ?_
   refine zC (tr_contains C1 _ _ (lvl (L d) k) x hc1.view (by omega)) ?_
   refine On ?_
   refine Wp.cond_dect rfl (fun h3 => ?_) (fun h3 => ?_)
   ·
    refine zq [3,4,0,0,1,1,1,2,5,10,15,12,12,15,15,12,12,15,12] ?_
    obtain ⟨m1, m2, m3⟩ := fd_some (find_hit hd4 hn (lev_hit (hW d hd4) (by assumption)))
    exact Ends.ret (res3 rfl rfl rfl rfl) ⟨by rw [m1, m2, m3], rfl⟩
   refine zq [11,19,5,4,52,0,2,49] ?_
   refine Goes.back (hK1 (k + 1) ⟨by omega, fun j hj => ?_⟩ (by omega)) ⟨rfl, rfl, rfl, rfl, rfl, rfl, trivial⟩
   rcases Nat.lt_succ_iff_lt_or_eq.1 hj with hj | rfl
   ·
    exact hm j hj
   assumption
  refine zq [41,16,16,40,19,5,4,52,0,2,49] ?_
  have hlm := lev_miss (hW d hd4) (x := x) (fun k hk => hm k (by omega))
  refine Goes.back (hK (d + 1) ⟨by omega, fun j hj => ?_⟩ (by omega)) ⟨rfl, rfl, rfl, trivial⟩
  rcases Nat.lt_succ_iff_lt_or_eq.1 hj with hj | rfl
  ·
   exact hn j hj
  exact hlm
 refine zq [41,16,16,40,5,3,4,1,1,1,2,5,10] ?_
 obtain ⟨m1, m2, m3⟩ := fd_none (find_miss (L := L) (x := x) (fun j hj => hn j (by omega)))
 exact Ends.ret (res3 rfl rfl rfl rfl) ⟨by rw [m1, m2, m3], rfl⟩
theorem tr_sPut (sb : Nat) (H : Hp) (T : Ones) (e : Nat) (l : Int) (L : Nat → Ones) (hH : SchH T e l L sb H) (hA : At T e l) (hW : RdysW L) (hl : RdysL L (2 ^ 20)) (x d0 k : Int) : Tr Tryz.prog 133 [.pointer (some ⟨sb, 0, none⟩), .int .i64 x, .int .i64 d0, .int .i64 k] (H) (fun u L' => u = .int .i64 (spE L x d0 k) ∧ SchH T e l (spL L x d0 k) sb L') := by
 obtain ⟨v, K, rb, h, hs, hR, rfl⟩ := hH
 refine Tr.enter Tryz.func133 rfl Tryz.ntmps133 rfl (fun W F => ?_)
 refine Wp.app ?_
 refine zq [3,4,1,2,5,3,3,4,0] ?_
 refine zC (tr_domain d0) ?_
 refine zq [55,0] ?_
 refine Ops.split (t := 15) rfl (fun h1 => ?_) (fun h1 => ?_)
 ·
  refine zq [13,13,24,0,13,13,24,0,13,13,24,0,13,13,24,2,5,18,3,4,1,2,5,10,12] ?_
  obtain ⟨m1, m2⟩ := sp_out (L := L) (x := x) (d := d0) (k := k) (by rintro ⟨_, hq, _⟩; simp_all [domB])
  exact Ends.ret (L' := (sb, .cells (schC v e l (fun d => ptrV (rb d))).toArray 162) :: (K ++ segs h 4)) (res1 rfl rfl) ⟨by rw [m1], by rw [m2]; exact ⟨_, K, rb, h, hs, hR, rfl⟩⟩
 refine zq [21] ?_
 refine Ops.pvg ⟨_, _, rfl, rfl, rfl⟩ (pv_lss rfl rfl) rfl ?_
 refine zq [26,0] ?_
 refine Ops.pvcn rfl rfl (fun hg => pv_move rfl) rfl ?_
 refine Ops.pvcn rfl rfl (fun hg => Pv.setE (t := 20) rfl (cv_pos hg) (pv_geq rfl rfl)) rfl ?_
 refine zq [47,0] ?_
 refine Ops.pvcn rfl rfl (fun hg => pv_move rfl) rfl ?_
 refine Ops.pvcn rfl rfl (fun hg => Pv.setE (t := 24) rfl (cv_pos hg) (pv_lss rfl rfl)) rfl ?_
 refine zq [47,0] ?_
 refine Ops.pvcn rfl rfl (fun hg => pv_move rfl) rfl ?_
 refine Ops.pvcn rfl rfl (fun hg => Pv.setE (t := 28) rfl (cv_pos hg) (pv_geq rfl rfl)) rfl ?_
 refine zq [47,2,5] ?_
 refine Wp.cond_dect rfl (fun h2 => ?_) (fun h2 => ?_)
 ·
  refine zq [3,4,1,2,5,10,12] ?_
  obtain ⟨m1, m2⟩ := sp_out (L := L) (x := x) (d := d0) (k := k) (by simp only [rightM]; rintro ⟨hr, _, hk⟩; simp at hr; omega)
  exact Ends.ret (L' := (sb, .cells (schC v e l (fun d => ptrV (rb d))).toArray 162) :: (K ++ segs h 4)) (res1 rfl rfl) ⟨by rw [m1], by rw [m2]; exact ⟨_, K, rb, h, hs, hR, rfl⟩⟩
 refine zq [11,5,3,3,4,0,0] ?_
 refine zC (tr_sFind sb _ T e l L ⟨_, K, rb, h, hs, hR, rfl⟩ hW hl x) ?_
 refine zq [0,7,7,7,1,1,1,2,5,3,4,0,2,5] ?_
 refine Wp.cond_t rfl (fun h3 => ?_) (fun h3 => ?_)
 ·
  refine zq [3,4,1,2,5,10,12] ?_
  have hdm : 0 ≤ d0 ∧ d0 < 4 := by simp_all [domB]
  obtain ⟨m1, m2⟩ := sp_twice (L := L) (x := x) (d := d0) (k := k) ⟨by simp [rightM]; omega, hdm, by omega, by omega⟩ (by assumption)
  exact Ends.ret (L' := (sb, .cells (schC v e l (fun d => ptrV (rb d))).toArray 162) :: (K ++ segs h 4)) (res1 rfl rfl) ⟨by rw [m1], by rw [m2]; exact ⟨_, K, rb, h, hs, hR, rfl⟩⟩
 refine zq [11,5,3,4] ?_
 have hdm : 0 ≤ d0 ∧ d0 < 4 := by simp_all [domB]
 obtain ⟨d, rfl⟩ : ∃ n : Nat, d0 = n := ⟨d0.toNat, by omega⟩
 have hd4 : d < 4 := by omega
 refine zq [0,0,9,6] ?_
 refine Ops.pv (pv_indexAddrA (i := d) rfl rfl rfl hd4) rfl ?_
 refine Ops.pv (pv_load rfl rfl (sch_p hd4)) rfl ?_
 refine zq [0,0] ?_
 refine zD (tr_putS hR hW hl hd4 x k) ?_
 rintro _ _ ⟨rfl, HH1, hN1, rfl⟩
 refine Ops.app ?_
 refine zq [1,2,5,10] ?_
 obtain ⟨m1, m2⟩ := sp_put (L := L) (x := x) (d := d) (k := k) ⟨by simp [rightM]; omega, hdm, by omega, by omega⟩ (by assumption)
 exact Ends.ret (L' := (sb, .cells (schC v e l (fun d => ptrV (rb d))).toArray 162) :: (K ++ segs (fset h d HH1) 4)) (res1 rfl rfl) ⟨by rw [m1], _, K, rb, _, hs, by rw [m2]; exact hR.set hN1, rfl⟩
theorem tr_sDrop_some (sb : Nat) (H : Hp) (T : Ones) (e : Nat) (l : Int) (L : Nat → Ones) (hH : SchH T e l L sb H) (hA : At T e l) (hW : RdysW L) (hl : RdysL L (2 ^ 20)) (x : Int) (d : Nat) (k : Int) (hf : findM L x = some (d, k)) : Tr Tryz.prog 132 [.pointer (some ⟨sb, 0, none⟩), .int .i64 x] (H) (fun u L' => u = .bool (inR (L d) x) ∧ SchH T e l (fset L d (dropR (L d) x)) sb L') := by
 obtain ⟨v, K, rb, h, hs, hR, rfl⟩ := hH
 obtain ⟨f1, f2, f3⟩ := fd_some hf
 obtain ⟨hd4, _⟩ := find_some hf
 refine Tr.enter Tryz.func132 rfl Tryz.ntmps132 rfl (fun W F => ?_)
 refine Wp.app ?_
 refine zq [3,4,1,2,5,3,4,0,0] ?_
 refine zC ((tr_sFind sb _ T e l L ⟨_, K, rb, h, hs, hR, rfl⟩ hW hl x).eq (by rw [f1, f2, f3])) ?_
 refine zq [0,7,7,7,1,1,1,2,5,3,4,0,0,21,21,57,50] ?_
 refine Ops.pvg ⟨_, _, rfl, rfl, rfl⟩ (pv_indexAddrA (i := d) rfl rfl rfl hd4) rfl ?_
 refine Ops.pvg ⟨_, _, rfl, rfl, rfl⟩ (pv_load rfl rfl (sch_p hd4)) rfl ?_
 refine zq [21] ?_
 refine Ops.efg ⟨_, _, rfl, rfl, rfl⟩ (ef_call (tr_dropS hR hW hl hd4 x) rfl rfl) ?_
 rintro _ _ ⟨_, _, ⟨rfl, HH1, hN1, rfl⟩, rfl, rfl⟩
 refine Ops.app ?_
 have hR2 := hR.set hN1
 have hW2 := hW.set (d := d) ((hW d hd4).drop x)
 have hl2 := drops_len hl d x
 refine zq [24,1,2,5,10] ?_
 exact zr (L' := (sb, .cells (schC v e l (fun d => ptrV (rb d))).toArray 162) :: (K ++ segs (fset h d HH1) 4)) ⟨rfl, _, K, rb, _, hs, hR2, rfl⟩
theorem tr_sDrop_none (sb : Nat) (H : Hp) (T : Ones) (e : Nat) (l : Int) (L : Nat → Ones) (hH : SchH T e l L sb H) (hA : At T e l) (hW : RdysW L) (hl : RdysL L (2 ^ 20)) (x : Int) (hf : findM L x = none) : Tr Tryz.prog 132 [.pointer (some ⟨sb, 0, none⟩), .int .i64 x] (H) (fun u L' => u = .bool false ∧ SchH T e l L sb L') := by
 obtain ⟨v, K, rb, h, hs, hR, rfl⟩ := hH
 obtain ⟨f1, f2, f3⟩ := fd_none hf
 refine Tr.enter Tryz.func132 rfl Tryz.ntmps132 rfl (fun W F => ?_)
 refine Wp.app ?_
 refine zq [3,4,1,2,5,3,4,0,0] ?_
 refine zC ((tr_sFind sb _ T e l L ⟨_, K, rb, h, hs, hR, rfl⟩ hW hl x).eq (by rw [f1, f2, f3])) ?_
 refine zq [0,7,7,7,1,1,1,2,5,3,4,0,0,13,13,13,13,13,13,13,13,26,1,2,5,10] ?_
 exact zr (L' := (sb, .cells (schC v e l (fun d => ptrV (rb d))).toArray 162) :: (K ++ segs h 4)) ⟨rfl, _, K, rb, _, hs, hR, rfl⟩
theorem tr_sYield_some (sb : Nat) (H : Hp) (T : Ones) (e : Nat) (l : Int) (L : Nat → Ones) (hH : SchH T e l L sb H) (hA : At T e l) (hW : RdysW L) (hl : RdysL L (2 ^ 20)) (x : Int) (d : Nat) (k : Int) (hf : findM L x = some (d, k)) : Tr Tryz.prog 106 [.pointer (some ⟨sb, 0, none⟩), .int .i64 x] (H) (fun u L' => u = .bool true ∧ SchH T e l (fset L d (putR (dropR (L d) x) x k)) sb L') := by
 obtain ⟨v, K, rb, h, hs, hR, rfl⟩ := hH
 obtain ⟨f1, f2, f3⟩ := fd_some hf
 obtain ⟨hd4, _⟩ := find_some hf
 refine Tr.enter Tryz.func106 rfl Tryz.ntmps106 rfl (fun W F => ?_)
 refine Wp.app ?_
 refine zq [3,4,1,2,5,3,4,0,0] ?_
 refine zC ((tr_sFind sb _ T e l L ⟨_, K, rb, h, hs, hR, rfl⟩ hW hl x).eq (by rw [f1, f2, f3])) ?_
 refine zq [0,7,7,7,1,1,1,2,5,3,3,4,0,2,5,18,3,4,0,0,9,6] ?_
 refine Ops.pv (pv_indexAddrA (i := d) rfl rfl rfl hd4) rfl ?_
 refine Ops.pv (pv_load rfl rfl (sch_p hd4)) rfl ?_
 refine zq [0] ?_
 refine zD (tr_dropS hR hW hl hd4 x) ?_
 rintro _ _ ⟨rfl, HH1, hN1, rfl⟩
 refine Ops.app ?_
 have hR2 := hR.set hN1
 have hW2 := hW.set (d := d) ((hW d hd4).drop x)
 have hl2 := drops_len hl d x
 refine zq [2,5,4,0,0,9,6] ?_
 refine Ops.pv (pv_indexAddrA (i := d) rfl rfl rfl hd4) rfl ?_
 refine Ops.pv (pv_load rfl rfl (sch_p hd4)) rfl ?_
 refine zq [0,0] ?_
 refine zD (tr_putS hR2 hW2 hl2 hd4 x k) ?_
 rintro _ _ ⟨rfl, HH2, hN2, rfl⟩
 refine Ops.app ?_
 have hR3 := hR2.set hN2
 rw [fset_fset, fset_fset, fset_same] at hR3
 rw [fset_fset]
 refine zq [2,5,3,4,0,1,2,5,10] ?_
 exact zr (L' := (sb, .cells (schC v e l (fun d => ptrV (rb d))).toArray 162) :: (K ++ segs (fset h d HH2) 4)) ⟨rfl, _, K, rb, _, hs, hR3, rfl⟩
theorem tr_sYield_none (sb : Nat) (H : Hp) (T : Ones) (e : Nat) (l : Int) (L : Nat → Ones) (hH : SchH T e l L sb H) (hA : At T e l) (hW : RdysW L) (hl : RdysL L (2 ^ 20)) (x : Int) (hf : findM L x = none) : Tr Tryz.prog 106 [.pointer (some ⟨sb, 0, none⟩), .int .i64 x] (H) (fun u L' => u = .bool false ∧ SchH T e l L sb L') := by
 obtain ⟨v, K, rb, h, hs, hR, rfl⟩ := hH
 obtain ⟨f1, f2, f3⟩ := fd_none hf
 refine Tr.enter Tryz.func106 rfl Tryz.ntmps106 rfl (fun W F => ?_)
 refine Wp.app ?_
 refine zq [3,4,1,2,5,3,4,0,0] ?_
 refine zC ((tr_sFind sb _ T e l L ⟨_, K, rb, h, hs, hR, rfl⟩ hW hl x).eq (by rw [f1, f2, f3])) ?_
 refine zq [0,7,7,7,1,1,1,2,5,3,3,4,0,2,5,17,11,5,3,4,0,1,2,5,10] ?_
 exact zr (L' := (sb, .cells (schC v e l (fun d => ptrV (rb d))).toArray 162) :: (K ++ segs h 4)) ⟨rfl, _, K, rb, _, hs, hR, rfl⟩
theorem tr_sPick (sb : Nat) (H : Hp) (T : Ones) (e : Nat) (l : Int) (L : Nat → Ones) (hH : SchH T e l L sb H) (hA : At T e l) (hW : RdysW L) (hl : RdysL L (2 ^ 20)) : TrR Tryz.prog 32 [.pointer (some ⟨sb, 0, none⟩)] (H) (.tuple #[.int .i64 (nextV (L (domN T e))), .bool (nextB (L (domN T e)))]) := by
 obtain ⟨v, K, rb, h, hs, hR, rfl⟩ := hH
 obtain ⟨hdn, hd4⟩ := hA.domN
 refine Tr.enter Tryz.func32 rfl Tryz.ntmps32 rfl (fun W F => ?_)
 refine Wp.app ?_
 refine zq [3,4,1,1,2,5,3] ?_
 refine AnyH.startL 12 rfl ?_
 refine zd [0,1,1,1,3,3,4,0] ?_
 refine AnyH.one 2 (by kernel_rfl) ?_
 refine Turn.ef rfl rfl (ef_callr ((tr_sDomain sb _ T e l L ⟨_, K, rb, h, hs, hR, rfl⟩ hA).eq (by rw [hdn])) rfl rfl) ?_ ?_
 ·
  rintro _ _ ⟨rfl, rfl⟩; infer_instance
 rintro _ _ ⟨rfl, rfl⟩
 refine Tk 5 rfl rfl (pv_indexAddrA (i := domN T e) rfl rfl rfl hd4) rfl ?_
 refine Tk 6 rfl rfl (pv_load rfl rfl (sch_p hd4)) rfl ?_
 refine AnyH.one 7 (by kernel_rfl) ?_
 refine Turn.ef rfl rfl (ef_callr (tr_nextS hR hW hl hd4) rfl rfl) ?_ ?_
 ·
  rintro _ _ ⟨rfl, rfl⟩; infer_instance
 rintro _ _ ⟨rfl, rfl⟩
 refine zd [8,4,9,4,10,5,11,5] ?_
 refine AnyH.done (by kernel_rfl) ?_
 refine zq [5,10] ?_
 exact zr ⟨rfl, rfl⟩
theorem tr_sNew (G : Hp) (a : Option Addr) (c : Nat) (T : Ones) (hv : View G 2 (.slice a T.length c) T.length (cel oneC T)) (hl : T.length ≤ 2 ^ 30) : Tr Tryz.prog 41 [.slice a T.length c] (G) (fun u L' => (tmsOk T ∧ ∃ sb H, u = .tuple #[.pointer (some ⟨sb, 0, none⟩), .int .i64 0] ∧ SchH T 0 (tkd T 0).2 (fun _ => []) sb H ∧ L' = H ++ G) ∨ (¬ tmsOk T ∧ u = .tuple #[.pointer none, .int .i64 1] ∧ L' = G)) := by
 refine Tr.enter Tryz.func41 rfl Tryz.ntmps41 rfl (fun W F => ?_)
 refine Wp.app ?_
 refine zq [3,4,1,1,2,5,3,3,4,0] ?_
 refine Ops.pv (pv_len_slice (T := 64) rfl rfl) rfl ?_
 refine zq [42,0] ?_
 refine Ops.pvcn rfl rfl (fun hg => pv_move rfl) rfl ?_
 refine Ops.pvcn rfl rfl (fun hg => Pv.setE (t := 12) rfl (cv_pos hg) (pv_len_slice (T := 64) rfl rfl)) rfl ?_
 refine Ops.pvcn rfl rfl (fun hg => Pv.setE (t := 12) rfl (cv_pos hg) (Pv.setE (t := 13) rfl (cv_pos hg) (pv_gtr rfl rfl))) rfl ?_
 refine zq [47,2,5] ?_
 refine Wp.cond_dect rfl (fun h1 => ?_) (fun h1 => ?_)
 ·
  refine zq [3,4,1,1,2,5,10,12] ?_
  exact Ends.ret (L' := G) (res2 rfl rfl rfl) (.inr ⟨fun e => by have := e.1; omega, rfl, rfl⟩)
 refine zq [11,5,3,3,4,0] ?_
 refine Ops.pv (pv_len_slice (T := 64) rfl rfl) rfl ?_
 refine zq [0,2,5,20] ?_
 refine Wp.loopK (σ := Nat) [(0, _), (16, _), (17, _)] (fun s => [(18, .int .i64 s)]) (fun s => G ++ F) (fun s => s ≤ T.length ∧ ∀ j, j < s → tmOk (tkd T j)) (fun s => T.length - s) 0 ⟨Nat.zero_le _, fun j hj => absurd hj (Nat.not_lt_zero j)⟩ ⟨rfl, rfl, rfl, trivial⟩ ⟨rfl, trivial⟩ (by intro w ho; (try dsimp only [List.nil_append, List.cons_append]); exact Drop.own ho) ?_
 rintro i KK ⟨hi, hn⟩ hK
 dsimp only [List.cons_append, List.nil_append] at hK ⊢
 refine zq [3,4,42,2,5,3] ?_
 refine Wp.cond_dect rfl (fun h2 => ?_) (fun h2 => ?_)
 ·
  obtain ⟨b, o, cap, cc, T0, f, hv1, hbv, hr⟩ := hv.open (by omega)
  cases hv1
  obtain ⟨q0, q1⟩ := one_read hr (tkd_get (show i < T.length by omega))
  refine zq [11,5,3,20,3,4] ?_
  refine Ops.pv (pv_indexAddr rfl rfl rfl (by omega)) rfl ?_
  refine Ops.pv (pv_loadK [.int .i64 (tkd T i).1, .int .i64 (tkd T i).2] rfl rfl rfl (cel_reads (f := oneC) hr (tkd_get (show i < T.length by omega)))) rfl ?_
  refine zA fun b1 => ?_
  refine zq [14,2,5,3,4,6,8] ?_
  refine zC (tr_domain (tkd T i).1) ?_
  refine zq [55,0] ?_
  refine Ops.split (t := 26) rfl (fun h3 => ?_) (fun h3 => ?_)
  ·
   refine zq [13,13,13,24,0,13,13,13,24,2,5,18,3,4,1,1,2,5,10,15,12,12,15,12] ?_
   exact Ends.ret (L' := G) (res2 rfl rfl rfl) (.inr ⟨tms_bad (show i < T.length by omega) (by first | (unfold tmOk; intro e; omega) | (unfold tmOk; simp_all [domB]; done) | (unfold tmOk; intro e; simp_all [domB]; omega)), rfl, rfl⟩)
  refine zq [50,51] ?_
  refine Ops.pvg ⟨_, _, rfl, rfl, rfl⟩ (pv_lss rfl rfl) rfl ?_
  refine zq [26,0] ?_
  refine Ops.pvcn rfl rfl (fun hg => pv_fieldAddr0 rfl rfl) rfl ?_
  refine Ops.pvcn rfl rfl (fun hg => Pv.setE (t := 32) rfl (cv_pos hg) (pv_load rfl rfl rfl)) rfl ?_
  refine Ops.pvcn rfl rfl (fun hg => Pv.setE (t := 32) rfl (cv_pos hg) (Pv.setE (t := 33) rfl (cv_pos hg) (pv_gtr rfl rfl))) rfl ?_
  refine zq [47,2,5] ?_
  refine Wp.cond_dect rfl (fun h4 => ?_) (fun h4 => ?_)
  ·
   refine zq [3,4,1,1,2,5,10,15,12,12,15,12] ?_
   exact Ends.ret (L' := G) (res2 rfl rfl rfl) (.inr ⟨tms_bad (show i < T.length by omega) (by first | (unfold tmOk; intro e; omega) | (unfold tmOk; simp_all [domB]; done) | (unfold tmOk; intro e; simp_all [domB]; omega)), rfl, rfl⟩)
  refine zq [11,19,5,4,52,0,2,49] ?_
  refine Goes.back (hK (i + 1) ⟨by omega, fun j hj => ?_⟩ (by omega)) ⟨rfl, rfl, rfl, rfl, trivial⟩
  rcases Nat.lt_succ_iff_lt_or_eq.1 hj with hj | rfl
  ·
   exact hn j hj
  unfold tmOk; first | (simp_all [domB]; done) | (simp_all [domB]; omega)
 obtain ⟨b, o, cap, cc, T0, f, hv1, hbv, hr⟩ := hv.open (by omega)
 cases hv1
 obtain ⟨q0, q1⟩ := one_read hr (tkd_get (show 0 < T.length by omega))
 refine zq [41,16,16,40,5,3] ?_
 refine AnyH.start G 9 rfl ?_
 refine zd [0,1,2,1] ?_
 refine Tk 3 rfl rfl (pv_indexAddr (i := 0) rfl rfl rfl (by first | omega | (simp; done) | (simp; omega))) rfl ?_
 refine zd [4,6] ?_
 refine Tk 5 rfl rfl (pv_load rfl rfl q1) rfl ?_
 refine AnyH.one 1 (by kernel_rfl) ?_
 refine Turn.ef rfl rfl (ef_call (tr_cloneT G _ c T hv (by omega)) rfl rfl) ?_ ?_
 ·
  rintro _ _ ⟨_, _, ⟨C1, hc1, rfl⟩, rfl, rfl⟩; infer_instance
 rintro _ _ ⟨_, _, ⟨C1, hc1, rfl⟩, rfl, rfl⟩
 refine AnyH.app ?_
 obtain ⟨cp, cq, rfl⟩ := hc1.form
 refine zd [6,9] ?_
 refine AnyH.one 7 (by kernel_rfl) ?_
 refine Turn.ef rfl rfl (ef_boxK rfl rfl) ?_ ?_
 ·
  rintro _ _ ⟨b2, rfl, rfl⟩; infer_instance
 rintro _ _ ⟨b2, rfl, rfl⟩
 refine zd [8,5] ?_
 refine AnyH.done (by kernel_rfl) ?_
 refine zq [5,3,3,4,0,2,5,20] ?_
 have eb : ([.slice cp T.length cq, .int .i64 0, .int .i64 (tkd T 0).2, .pointer none, .pointer none, .pointer none, .pointer none] : List Value) = schC (.slice cp T.length cq) 0 (tkd T 0).2 (fun _ => .pointer none) := rfl
 rw [eb]
 have es : ([] : Hp) = segs (fun _ => []) 4 := (segs_nil 4).symm
 refine Wp.loopK (σ := Nat × (Nat → Value) × (Nat → Nat) × (Nat → Hp)) [(6, _)] (fun s => [(45, .int .i64 s.1)]) (fun s => (b2, .cells (schC (.slice cp T.length cq) 0 (tkd T 0).2 s.2.1).toArray 162) :: (C1 ++ (segs s.2.2.2 4 ++ (G ++ F)))) (fun s => s.1 ≤ 4 ∧ (∀ j, j < s.1 → RdyH [] (s.2.2.1 j) (s.2.2.2 j)) ∧ (∀ j, s.1 ≤ j → s.2.2.2 j = []) ∧ ∀ j, j < s.1 → s.2.1 j = ptrV (s.2.2.1 j)) (fun s => 4 - s.1) (0, fun _ => .pointer none, fun _ => 0, fun _ => []) ⟨Nat.zero_le _, fun j hj => absurd hj (Nat.not_lt_zero j), fun _ _ => rfl, fun j hj => absurd hj (Nat.not_lt_zero j)⟩ ⟨rfl, trivial⟩ ⟨rfl, trivial⟩ (by intro w ho; (try dsimp only [List.nil_append, List.cons_append]); rw [segs_nil]; exact Drop.own ho) ?_
 rintro ⟨d, p, rb, h⟩ KK ⟨hd, hR, hz, hp⟩ hK
 dsimp only [List.cons_append, List.nil_append] at hK ⊢
 dsimp only at hd hR hz hp ⊢
 refine zq [3,4,42,2,5,3] ?_
 refine Wp.cond_dect rfl (fun h5 => ?_) (fun h5 => ?_)
 ·
  have hd4 : d < 4 := by omega
  have hset : ∀ x, SetL (schC (.slice cp T.length cq) 0 (tkd T 0).2 p) (3 + d * 1) [x] (schC (.slice cp T.length cq) 0 (tkd T 0).2 (fset p d x)) := fun x => sch_setL hd4
  refine zq [11,5,3,20,3,4,0,1,2,5] ?_
  refine AnyH.start ([] : Hp) 7 rfl ?_
  refine zd [0,1,1,1,3,3,4,0] ?_
  refine AnyH.one 2 (by kernel_rfl) ?_
  refine Turn.ef rfl rfl (ef_call (tr_newReady) rfl rfl) ?_ ?_
  ·
   rintro _ _ ⟨_, HN1, ⟨rb1, rfl, hN1⟩, rfl, rfl⟩; infer_instance
  rintro _ _ ⟨_, HN1, ⟨rb1, rfl, hN1⟩, rfl, rfl⟩
  refine AnyH.app ?_
  skip
  refine Tk 5 rfl rfl (pv_indexAddrA (i := d) rfl rfl rfl hd4) rfl ?_
  refine z1 6 ?_
  refine AnyH.done (by kernel_rfl) ?_
  refine zq [19,5,4,52,0,2,49] ?_
  rw [show h = fset h d [] by rw [← hz d (Nat.le_refl _), fset_self]]
  refine Goes.closeS h 4 d HN1 hd4 ?_
  refine Goes.back (hK (d + 1, fset p d (ptrV rb1), fset rb d rb1, fset h d HN1) ⟨by dsimp only; omega, fun j hj => ?_, fun j hj => ?_, fun j hj => ?_⟩ (by dsimp only; omega)) ⟨rfl, rfl, trivial⟩
  ·
   dsimp only; by_cases e : j = d
   ·
    subst e; rw [fset_same, fset_same]; exact hN1
   rw [fset_ne e, fset_ne e]; exact hR j (by dsimp only at hj; omega)
  ·
   dsimp only at hj ⊢; rw [fset_ne (by omega)]; exact hz j (by omega)
  dsimp only at hj ⊢; by_cases e : j = d
  ·
   subst e; rw [fset_same, fset_same]
  rw [fset_ne e, fset_ne e]; exact hp j (by omega)
 refine zq [41,16,16,40,5,3,4,0,1,1,2,5,10] ?_
 obtain rfl : d = 4 := by omega
 rw [sch_congr (q := fun d => ptrV (rb d)) hp]
 exact Ends.ret (L' := (b2, .cells (schC (.slice cp T.length cq) 0 (tkd T 0).2 (fun d => ptrV (rb d))).toArray 162) :: (C1 ++ (segs h 4 ++ G))) (res2 rfl rfl rfl) (.inl ⟨tms_iff.2 ⟨by omega, fun j hj => hn j (by omega)⟩, b2, _, rfl, ⟨_, _, rb, h, hc1, hR, rfl⟩, by rw [List.cons_append, List.append_assoc]; rfl⟩)
end Go.Proofs.YtipncceiekalfaaGreat
end
section
set_option linter.unusedVariables false
namespace Go.Proofs.YtipncceiekalfaaGreat
open Go.SL
structure OpL where
  kind : Int
  id : Int
  level : Int
abbrev OpL.cells (o : OpL) : List Value := [.int .i64 o.kind, .int .i64 o.id, .int .i64 o.level]
end Go.Proofs.YtipncceiekalfaaGreat
end
section
set_option linter.unusedVariables false
set_option linter.unusedSimpArgs false
namespace Go.Proofs.YtipncceiekalfaaGreat
open Go.SL
theorem tr_lnew  : Tr Tryz.prog 157 [] ([]) (fun v L' => ∃ lb, v = .pointer (some ⟨lb, 0, none⟩) ∧ L' = [(lb, .cells [.slice none 0 0].toArray 241)]) := by
 refine Tr.enter Tryz.func157 rfl Tryz.ntmps157 rfl (fun W F => ?_)
 refine Wp.app ?_
 refine zq [3,4,1,2,5,3,4,23] ?_
 refine zB fun b1 => ?_
 refine zq [1,2,5,10] ?_
 exact Ends.ret (L' := [(b1, .cells [.slice none 0 0].toArray 241)]) (res1 rfl rfl) ⟨b1, rfl, rfl⟩
end Go.Proofs.YtipncceiekalfaaGreat
end
section
set_option linter.unusedVariables false
set_option linter.unusedSimpArgs false
namespace Go.Proofs.YtipncceiekalfaaGreat
open Go.SL
theorem push_cases (l : List Int) (x : Int) : (pushE l x = 0 ∧ pushL l x = l ++ [x] ∧ x ∉ l) ∨ (pushE l x ≠ 0 ∧ pushL l x = l) := by
 unfold pushL
 by_cases h : pushE l x = 0
 ·
  left
  refine ⟨h, if_pos h, ?_⟩
  intro hm
  unfold pushE at h
  split at h
  ·
   omega
  ·
   rw [if_pos ((idx_mem _ _).2 hm)] at h; omega
 ·
  right; exact ⟨h, if_neg h⟩
theorem push_ok0 {l : List Int} {x : Int} (h : pushE l x = 0) : pushL l x = l ++ [x] ∧ x ∉ l := by
 rcases push_cases l x with h1 | h1
 ·
  exact h1.2
 ·
  exact absurd h h1.1
theorem push_no {l : List Int} {x : Int} (h : ¬ pushE l x = 0) : pushL l x = l := by
 rcases push_cases l x with h1 | h1
 ·
  exact absurd h1.1 h
 ·
  exact h1.2
end Go.Proofs.YtipncceiekalfaaGreat
end
section
set_option linter.unusedVariables false
set_option linter.unusedSimpArgs false
namespace Go.Proofs.YtipncceiekalfaaGreat
open Go.SL
theorem push_right {l : List Int} {x : Int} (h : pushE l x = 0) : rightM x = true ∧ x ∉ l := by
 refine ⟨?_, (push_ok0 h).2⟩
 unfold pushE at h
 split at h
 ·
  omega
 ·
  rename_i h1; simpa using h1
theorem idx_snoc : ∀ {l : List Int} {x : Int}, x ∉ l → idxM (l ++ [x]) x = l.length
  | [], x, _ => by simp [idxM]
  | a :: l, x, h => by
    rw [List.mem_cons, not_or] at h
    have ih := idx_snoc h.2
    simp only [List.cons_append, idxM, if_neg (Ne.symm h.1), ih, List.length_cons]
    rw [if_neg (by omega)]; push_cast; rfl
theorem rem_snoc {l : List Int} {x : Int} (h : x ∉ l) : remL (l ++ [x]) x = l := by
 unfold remL; rw [idx_snoc h, if_pos (by omega)]; simp
theorem head_snoc {l : List Int} {x : Int} (h : x ∉ l) : ∃ f, (l ++ [x])[0]? = some f ∧ (f ≠ x ↔ l ≠ []) ∧ (l ≠ [] → f = l.headD 0) := by
 cases l with
 | nil => exact ⟨x, rfl, by simp, fun h => absurd rfl h⟩
 | cons a t =>
  refine ⟨a, rfl, ?_, fun _ => rfl⟩
  rw [List.mem_cons, not_or] at h
  simp [Ne.symm h.1]
structure Ep where
  w : Int
  l : List Int
def meets (S : Ep) (way : Int) : Bool := !S.l.isEmpty && decide (S.w ≠ way)
def meetB (S : Ep) (id way : Int) : Bool := decide (pushE S.l id = 0) && meets S way
def meetV (S : Ep) (id way : Int) : Int := if meetB S id way then S.l.headD 0 else 0
def meetS (S : Ep) (id way : Int) (wait : Bool) : Ep := if pushE S.l id = 0 then (if meets S way then ⟨S.w, S.l.tail⟩ else if wait then ⟨way, S.l ++ [id]⟩ else S) else S
def stW (S : Ep) : Int := if S.l = [] then 0 else S.w
theorem meet_err {S : Ep} {id way : Int} {wait : Bool} (h : ¬ pushE S.l id = 0) : meetV S id way = 0 ∧ meetB S id way = false ∧ meetS S id way wait = S := by
 have h2 : meetB S id way = false := by unfold meetB; rw [decide_eq_false h]; rfl
 exact ⟨by unfold meetV; rw [h2]; rfl, h2, if_neg h⟩
theorem meet_yes {S : Ep} {id way : Int} {wait : Bool} (h : pushE S.l id = 0) (h1 : S.l ≠ []) (h2 : S.w ≠ way) : meetV S id way = S.l.headD 0 ∧ meetB S id way = true ∧ meetS S id way wait = ⟨S.w, S.l.tail⟩ := by
 have h3 : meets S way = true := by unfold meets; simp [h1, h2]
 have h4 : meetB S id way = true := by unfold meetB; rw [decide_eq_true h, h3]; rfl
 exact ⟨by unfold meetV; rw [if_pos h4], h4, by unfold meetS; rw [if_pos h, if_pos h3]⟩
theorem meet_no {S : Ep} {id way : Int} {wait : Bool} (h : pushE S.l id = 0) (h1 : ¬ (S.l ≠ [] ∧ S.w ≠ way)) : meetV S id way = 0 ∧ meetB S id way = false ∧ meetS S id way wait = if wait then ⟨way, S.l ++ [id]⟩ else S := by
 have h3 : meets S way = false := by
  unfold meets
  by_cases e : S.l = []
  ·
   simp [e]
  ·
   have : S.w = way := Decidable.byContradiction fun h => h1 ⟨e, h⟩
   simp [this]
 have h4 : meetB S id way = false := by unfold meetB; rw [h3, Bool.and_false]
 exact ⟨by unfold meetV; rw [h4]; rfl, h4, by unfold meetS; rw [if_pos h, h3]; rfl⟩
def wOf (r : Bool) : Int := if r then 2 else 1
structure Nt where
  w : Int
  l : List Int
  b : List Int
abbrev orI (a b : Int) : Int := bitsI .or .u64 a b
def sgV (S : Nt) (bound : Bool) : Int := if S.l ≠ [] then S.l.headD 0 else if bound = true ∧ S.b ≠ [] then S.b.headD 0 else 0
def sgW (S : Nt) (x : Int) (bound : Bool) : Int := if S.l ≠ [] then x else if bound = true ∧ S.b ≠ [] then orI S.w x else 0
def sgB (S : Nt) (bound : Bool) : Bool := if S.l ≠ [] then true else if bound = true ∧ S.b ≠ [] then true else false
def sgS (S : Nt) (x : Int) (bound : Bool) : Nt := if S.l ≠ [] then ⟨S.w, S.l.tail, S.b⟩ else if bound = true ∧ S.b ≠ [] then ⟨0, S.l, S.b⟩ else ⟨orI S.w x, S.l, S.b⟩
def wtE (S : Nt) (id : Int) : Int := pushE S.l id
def wtW (S : Nt) (id : Int) : Int := if pushE S.l id = 0 then S.w else 0
def wtB (S : Nt) (id : Int) : Bool := decide (pushE S.l id = 0 ∧ S.w ≠ 0)
def wtS (S : Nt) (id : Int) (wait : Bool) : Nt := if pushE S.l id = 0 then (if S.w = 0 ∧ wait = true then ⟨S.w, S.l ++ [id], S.b⟩ else ⟨0, S.l, S.b⟩) else S
end Go.Proofs.YtipncceiekalfaaGreat
end
section
set_option linter.unusedVariables false
set_option linter.unusedSimpArgs false
namespace Go.Proofs.YtipncceiekalfaaGreat
open Go.SL
def EpH (S : Ep) (pb : Nat) (H : Hp) : Prop := ∃ lb v K, Slc 3 1 v S.l.length (intsC S.l) K ∧ H = (pb, .cells [.int .i64 S.w, .pointer (some ⟨lb, 0, none⟩)].toArray 188) :: (lb, .cells [v].toArray 241) :: K
def NtH (S : Nt) (nb : Nat) (H : Hp) : Prop := ∃ lb bb v u K J, Slc 3 1 v S.l.length (intsC S.l) K ∧ Slc 3 1 u S.b.length (intsC S.b) J ∧
  H = (nb, .cells [.int .u64 S.w, .pointer (some ⟨lb, 0, none⟩), .pointer (some ⟨bb, 0, none⟩)].toArray 191) :: (lb, .cells [v].toArray 241) :: (bb, .cells [u].toArray 241) :: (K ++ J)
end Go.Proofs.YtipncceiekalfaaGreat
end
section
set_option linter.unusedVariables false
set_option linter.unusedSimpArgs false
namespace Go.Proofs.YtipncceiekalfaaGreat
open Go.SL
theorem tr_epNew  : Tr Tryz.prog 123 [] ([]) (fun u L' => ∃ pb, u = .pointer (some ⟨pb, 0, none⟩) ∧ EpH ⟨0, []⟩ pb L') := by
 refine Tr.enter Tryz.func123 rfl Tryz.ntmps123 rfl (fun W F => ?_)
 refine Wp.app ?_
 refine zq [3,4,1,2,5,3,4] ?_
 refine zD (tr_lnew) ?_
 rintro _ _ ⟨lb1, rfl, rfl⟩
 refine Ops.app ?_
 refine zq [23] ?_
 refine zB fun b1 => ?_
 refine zq [1,2,5,10] ?_
 exact Ends.ret (L' := [(b1, .cells [.int .i64 0, .pointer (some ⟨lb1, 0, none⟩)].toArray 188), (lb1, .cells [.slice none 0 0].toArray 241)]) (res1 rfl rfl) ⟨b1, rfl, lb1, _, [], Slc.nil _ _, rfl⟩
theorem tr_meet (pb : Nat) (H : Hp) (S : Ep) (hH : EpH S pb H) (hl : S.l.length ≤ 2 ^ 20) (id way : Int) (wait : Bool) : Tr Tryz.prog 214 [.pointer (some ⟨pb, 0, none⟩), .int .i64 id, .int .i64 way, .bool wait] (H) (fun u L' => u = .tuple #[.int .i64 (meetV S id way), .bool (meetB S id way), .int .i64 (pushE S.l id)] ∧ EpH (meetS S id way wait) pb L') := by
 obtain ⟨w, l⟩ := S
 obtain ⟨lb, v, K, hs, rfl⟩ := hH
 dsimp only at hs hl ⊢
 refine Tr.enter Tryz.func214 rfl Tryz.ntmps214 rfl (fun W F => ?_)
 refine Wp.app ?_
 refine zq [3,4,1,1,1,2,5,3,3,4,0,9,6,8,0] ?_
 refine zD (tr_lpush lb v K l id hs (by omega)) ?_
 rintro _ _ ⟨rfl, v1, H1, hs1, rfl⟩
 refine Ops.app ?_
 refine zq [1,2,5,3,4,0,27,2,5] ?_
 refine Wp.cond_dect rfl (fun h1 => ?_) (fun h1 => ?_)
 ·
  have he : ¬ pushE l id = 0 := by assumption
  rw [push_no he] at hs1
  refine zq [3,4,0,1,1,1,2,5,10,12] ?_
  obtain ⟨m1, m2, m3⟩ := meet_err (S := (⟨w, l⟩ : Ep)) (way := way) (wait := wait) he
  exact Ends.ret (L' := (pb, .cells [.int .i64 w, .pointer (some ⟨lb, 0, none⟩)].toArray 188) :: (lb, .cells [v1].toArray 241) :: H1) (res3 rfl rfl rfl rfl) ⟨by rw [m1, m2], by rw [m3]; exact ⟨lb, _, _, hs1, rfl⟩⟩
 have he : pushE l id = 0 := by omega
 obtain ⟨hp1, hp2⟩ := push_ok0 he
 rw [hp1] at hs1
 obtain ⟨f, hf1, hf2, hf3⟩ := head_snoc hp2
 refine zq [11,5,3,4,0,9,6,8] ?_
 refine zD (tr_list lb v1 H1 (l ++ [id]) hs1 (by rw [List.length_append]; simp; omega)) ?_
 rintro _ _ ⟨C1, hc1, rfl⟩
 refine Ops.app ?_
 obtain ⟨p1, q1, rfl⟩ := hc1.form
 obtain ⟨b5, o5, cap5, cc5, T5, f5, hv5, hbv5, hr5⟩ := hc1.view.open (by simp)
 have hny := ints_nth hr5 hf1
 cases hv5
 refine Ops.pv (pv_indexAddr (i := 0) rfl rfl rfl (by first | omega | (simp; done) | (simp; omega))) rfl ?_
 refine Ops.pv (pv_load rfl rfl hny) rfl ?_
 refine zq [1,2,5,3,20,3,4,0,0,27,0] ?_
 refine Ops.pvc rfl rfl (fun hg => pv_move rfl) rfl ?_
 refine Ops.pvc rfl rfl (fun hg => Pv.setE (t := 40) rfl (cv_pos hg) (pv_nilCheck rfl)) rfl ?_
 refine Ops.pvc rfl rfl (fun hg => Pv.setE (t := 40) rfl (cv_pos hg) (Pv.setE (t := 41) rfl (cv_pos hg) (pv_fieldAddr0 rfl rfl))) rfl ?_
 refine Ops.pvc rfl rfl (fun hg => Pv.setE (t := 40) rfl (cv_pos hg) (Pv.setE (t := 41) rfl (cv_pos hg) (Pv.setE (t := 42) rfl (cv_pos hg) (pv_load rfl rfl rfl)))) rfl ?_
 refine Ops.pvc rfl rfl (fun hg => Pv.setE (t := 40) rfl (cv_pos hg) (Pv.setE (t := 41) rfl (cv_pos hg) (Pv.setE (t := 42) rfl (cv_pos hg) (Pv.setE (t := 43) rfl (cv_pos hg) (pv_move rfl))))) rfl ?_
 refine Ops.pvc rfl rfl (fun hg => Pv.setE (t := 40) rfl (cv_pos hg) (Pv.setE (t := 41) rfl (cv_pos hg) (Pv.setE (t := 42) rfl (cv_pos hg) (Pv.setE (t := 43) rfl (cv_pos hg) (Pv.setE (t := 44) rfl (cv_pos hg) (pv_neq rfl rfl)))))) rfl ?_
 refine zq [46,1,2,5] ?_
 refine Wp.cond_dect rfl (fun hj => ?_) (fun hj => ?_)
 ·
  refine zq [3,4,0,9,6,8,0] ?_
  refine zD (tr_lremove lb v1 H1 (l ++ [id]) id hs1 (by rw [List.length_append]; simp; omega)) ?_
  rintro _ _ ⟨rfl, v2, H2, hs2, rfl⟩
  refine Ops.app ?_
  rw [rem_snoc hp2] at hs2
  refine zq [2,5,3,4,0,9,6,8] ?_
  refine zD (tr_lpop lb v2 H2 l hs2 (by omega)) ?_
  rintro _ _ ⟨rfl, v3, H3, hs3, rfl⟩
  refine Ops.app ?_
  refine zq [2,5,3,4,0,1,1,1,2,5,10,15,12] ?_
  obtain ⟨m1, m2, m3⟩ := meet_yes (S := (⟨w, l⟩ : Ep)) (way := way) (wait := wait) he (hf2.1 hj.1) hj.2
  exact Ends.ret (L' := (pb, .cells [.int .i64 w, .pointer (some ⟨lb, 0, none⟩)].toArray 188) :: (lb, .cells [v3].toArray 241) :: H3) (res3 rfl rfl rfl rfl) ⟨by rw [m1, m2, hf3 (hf2.1 hj.1), he], by rw [m3]; exact ⟨lb, _, _, hs3, rfl⟩⟩
 refine zq [3,4,0,1,2,5] ?_
 refine Wp.cond_t rfl (fun h3 => ?_) (fun h3 => ?_)
 ·
  refine zq [4,0,0,9,6,25,2,19,5,3,4,1,1,1,2,5,10] ?_
  have hj2 : ¬ (l ≠ [] ∧ w ≠ way) := fun e => hj ⟨hf2.2 e.1, e.2⟩
  have hw : wait = true := by assumption
  subst hw
  obtain ⟨m1, m2, m3⟩ := meet_no (S := (⟨w, l⟩ : Ep)) (way := way) (wait := true) he hj2
  exact Ends.ret (L' := (pb, .cells [.int .i64 way, .pointer (some ⟨lb, 0, none⟩)].toArray 188) :: (lb, .cells [v1].toArray 241) :: H1) (res3 rfl rfl rfl rfl) ⟨by rw [m1, m2, he], by rw [m3]; exact ⟨lb, _, _, hs1, rfl⟩⟩
 refine zq [4,0,9,6,8,0] ?_
 refine zD (tr_lremove lb v1 H1 (l ++ [id]) id hs1 (by rw [List.length_append]; simp; omega)) ?_
 rintro _ _ ⟨rfl, v4, H4, hs4, rfl⟩
 refine Ops.app ?_
 rw [rem_snoc hp2] at hs4
 refine zq [2,19,5,3,4,1,1,1,2,5,10] ?_
 have hj2 : ¬ (l ≠ [] ∧ w ≠ way) := fun e => hj ⟨hf2.2 e.1, e.2⟩
 have hw : wait = false := by assumption
 subst hw
 obtain ⟨m1, m2, m3⟩ := meet_no (S := (⟨w, l⟩ : Ep)) (way := way) (wait := false) he hj2
 exact Ends.ret (L' := (pb, .cells [.int .i64 w, .pointer (some ⟨lb, 0, none⟩)].toArray 188) :: (lb, .cells [v4].toArray 241) :: H4) (res3 rfl rfl rfl rfl) ⟨by rw [m1, m2, he], by rw [m3]; exact ⟨lb, _, _, hs4, rfl⟩⟩
theorem tr_epSend (pb : Nat) (H : Hp) (S : Ep) (hH : EpH S pb H) (hl : S.l.length ≤ 2 ^ 20) (id : Int) (wait : Bool) : Tr Tryz.prog 180 [.pointer (some ⟨pb, 0, none⟩), .int .i64 id, .bool wait] (H) (fun u L' => u = .tuple #[.int .i64 (meetV S id (wOf false)), .bool (meetB S id (wOf false)), .int .i64 (pushE S.l id)] ∧ EpH (meetS S id (wOf false) wait) pb L') := by
 refine Tr.enter Tryz.func180 rfl Tryz.ntmps180 rfl (fun W F => ?_)
 refine Wp.app ?_
 refine zq [3,4,1,1,1,2,5,3,4,0,0,0] ?_
 refine zD (tr_meet pb H S hH hl id (wOf false) wait) ?_
 rintro _ _ ⟨rfl, hH1⟩
 refine Ops.app ?_
 refine zq [7,7,7,1,1,1,2,5,10] ?_
 exact zr ⟨rfl, hH1⟩
theorem tr_epRecv (pb : Nat) (H : Hp) (S : Ep) (hH : EpH S pb H) (hl : S.l.length ≤ 2 ^ 20) (id : Int) (wait : Bool) : Tr Tryz.prog 186 [.pointer (some ⟨pb, 0, none⟩), .int .i64 id, .bool wait] (H) (fun u L' => u = .tuple #[.int .i64 (meetV S id (wOf true)), .bool (meetB S id (wOf true)), .int .i64 (pushE S.l id)] ∧ EpH (meetS S id (wOf true) wait) pb L') := by
 refine Tr.enter Tryz.func186 rfl Tryz.ntmps186 rfl (fun W F => ?_)
 refine Wp.app ?_
 refine zq [3,4,1,1,1,2,5,3,4,0,0,0] ?_
 refine zD (tr_meet pb H S hH hl id (wOf true) wait) ?_
 rintro _ _ ⟨rfl, hH1⟩
 refine Ops.app ?_
 refine zq [7,7,7,1,1,1,2,5,10] ?_
 exact zr ⟨rfl, hH1⟩
theorem tr_epCancel (pb : Nat) (H : Hp) (S : Ep) (hH : EpH S pb H) (hl : S.l.length ≤ 2 ^ 20) (id : Int) : Tr Tryz.prog 81 [.pointer (some ⟨pb, 0, none⟩), .int .i64 id] (H) (fun u L' => u = .bool (remB S.l id) ∧ EpH ⟨S.w, remL S.l id⟩ pb L') := by
 obtain ⟨w, l⟩ := S
 obtain ⟨lb, v, K, hs, rfl⟩ := hH
 dsimp only at hs hl ⊢
 refine Tr.enter Tryz.func81 rfl Tryz.ntmps81 rfl (fun W F => ?_)
 refine Wp.app ?_
 refine zq [3,4,1,2,5,3,4,0,9,6,8,0] ?_
 refine zD (tr_lremove lb v K l id hs (by omega)) ?_
 rintro _ _ ⟨rfl, v1, H1, hs1, rfl⟩
 refine Ops.app ?_
 refine zq [1,2,5,10] ?_
 exact zr (L' := (pb, .cells [.int .i64 w, .pointer (some ⟨lb, 0, none⟩)].toArray 188) :: (lb, .cells [v1].toArray 241) :: H1) ⟨rfl, lb, _, _, hs1, rfl⟩
end Go.Proofs.YtipncceiekalfaaGreat
end
section
set_option linter.unusedVariables false
set_option linter.unusedSimpArgs false
namespace Go.Proofs.YtipncceiekalfaaGreat
open Go.SL
structure OpE where
  kind : Int
  id : Int
  wait : Bool
abbrev OpE.cells (o : OpE) : List Value := [.int .i64 o.kind, .int .i64 o.id, .bool o.wait]
structure MRel (S : Ep) (A : List OpE) : Prop where
  ids : S.l = A.map OpE.id
  nd : S.l.Nodup
  kind : ∀ o, o ∈ A → S.w = o.kind + 1
theorem MRel.nil {w : Int} : MRel ⟨w, []⟩ [] := ⟨rfl, List.nodup_nil, fun o h => (List.not_mem_nil h).elim⟩
theorem MRel.same {S : Ep} {A : List OpE} (h : MRel S A) {a b : OpE} (ha : a ∈ A) (hb : b ∈ A) : a.kind = b.kind := by have := h.kind a ha; have := h.kind b hb; omega
theorem MRel.len {S : Ep} {A : List OpE} (h : MRel S A) : S.l.length = A.length := by rw [h.ids, List.length_map]
def seg (i n : Nat) : List Int := (List.range' i (n - i)).map (fun k : Nat => (k : Int))
end Go.Proofs.YtipncceiekalfaaGreat
end
section
set_option linter.unusedVariables false
set_option linter.unusedSimpArgs false
namespace Go.Proofs.YtipncceiekalfaaGreat
open Go.SL
theorem sg_wait {S : Nt} (x : Int) (bound : Bool) (h : S.l ≠ []) : sgV S bound = S.l.headD 0 ∧ sgW S x bound = x ∧ sgB S bound = true ∧ sgS S x bound = ⟨S.w, S.l.tail, S.b⟩ :=
  ⟨if_pos h, if_pos h, if_pos h, if_pos h⟩
theorem sg_bound {S : Nt} (x : Int) {bound : Bool} (h : S.l = []) (h2 : bound = true ∧ S.b ≠ []) : sgV S bound = S.b.headD 0 ∧ sgW S x bound = orI S.w x ∧ sgB S bound = true ∧ sgS S x bound = ⟨0, [], S.b⟩ := by
 have h1 : ¬ S.l ≠ [] := fun e => e h
 refine ⟨?_, ?_, ?_, ?_⟩
 ·
  unfold sgV; rw [if_neg h1, if_pos h2]
 ·
  unfold sgW; rw [if_neg h1, if_pos h2]
 ·
  unfold sgB; rw [if_neg h1, if_pos h2]
 ·
  unfold sgS; rw [if_neg h1, if_pos h2, h]
theorem sg_none {S : Nt} (x : Int) {bound : Bool} (h : S.l = []) (h2 : ¬ (bound = true ∧ S.b ≠ [])) : sgV S bound = 0 ∧ sgW S x bound = 0 ∧ sgB S bound = false ∧ sgS S x bound = ⟨orI S.w x, [], S.b⟩ := by
 have h1 : ¬ S.l ≠ [] := fun e => e h
 refine ⟨?_, ?_, ?_, ?_⟩
 ·
  unfold sgV; rw [if_neg h1, if_neg h2]
 ·
  unfold sgW; rw [if_neg h1, if_neg h2]
 ·
  unfold sgB; rw [if_neg h1, if_neg h2]
 ·
  unfold sgS; rw [if_neg h1, if_neg h2, h]
theorem wt_err {S : Nt} {id : Int} {wait : Bool} (h : ¬ pushE S.l id = 0) : wtW S id = 0 ∧ wtB S id = false ∧ wtS S id wait = S :=
  ⟨if_neg h, by unfold wtB; exact decide_eq_false (fun e => h e.1), if_neg h⟩
theorem wt_waits {S : Nt} {id : Int} {wait : Bool} (h : pushE S.l id = 0) (h2 : S.w = 0 ∧ wait = true) : wtW S id = 0 ∧ wtB S id = false ∧ wtS S id wait = ⟨S.w, S.l ++ [id], S.b⟩ :=
  ⟨by unfold wtW; rw [if_pos h, h2.1], by unfold wtB; exact decide_eq_false (fun e => e.2 h2.1), by unfold wtS; rw [if_pos h, if_pos h2]⟩
theorem wt_takes {S : Nt} {id : Int} {wait : Bool} (h : pushE S.l id = 0) (h2 : ¬ (S.w = 0 ∧ wait = true)) : wtW S id = S.w ∧ wtB S id = decide (S.w ≠ 0) ∧ wtS S id wait = ⟨0, S.l, S.b⟩ :=
  ⟨if_pos h, by unfold wtB; exact decide_eq_decide.2 ⟨fun e => e.2, fun e => ⟨h, e⟩⟩, by unfold wtS; rw [if_pos h, if_neg h2]⟩
structure OpN where
  kind : Int
  id : Int
  badge : Int
  flag : Bool
abbrev OpN.cells (o : OpN) : List Value := [.int .i64 o.kind, .int .i64 o.id, .int .u64 o.badge, .bool o.flag]
def OpN.wf (o : OpN) : Prop := 0 ≤ o.badge ∧ o.badge < 18446744073709551616
end Go.Proofs.YtipncceiekalfaaGreat
end
section
set_option linter.unusedVariables false
set_option linter.unusedSimpArgs false
namespace Go.Proofs.YtipncceiekalfaaGreat
open Go.SL
theorem tr_ntNew  : Tr Tryz.prog 124 [] ([]) (fun u L' => ∃ nb, u = .pointer (some ⟨nb, 0, none⟩) ∧ NtH ⟨0, [], []⟩ nb L') := by
 refine Tr.enter Tryz.func124 rfl Tryz.ntmps124 rfl (fun W F => ?_)
 refine Wp.app ?_
 refine zq [3,4,1,2,5,3,4] ?_
 refine zD (tr_lnew) ?_
 rintro _ _ ⟨lb1, rfl, rfl⟩
 refine Ops.app ?_
 refine zD (tr_lnew) ?_
 rintro _ _ ⟨lb2, rfl, rfl⟩
 refine Ops.app ?_
 refine zq [23] ?_
 refine zB fun b1 => ?_
 refine zq [1,2,5,10] ?_
 exact Ends.ret (L' := [(b1, .cells [.int .u64 0, .pointer (some ⟨lb1, 0, none⟩), .pointer (some ⟨lb2, 0, none⟩)].toArray 191), (lb1, .cells [.slice none 0 0].toArray 241), (lb2, .cells [.slice none 0 0].toArray 241)]) (res1 rfl rfl) ⟨b1, rfl, lb1, lb2, _, _, [], [], Slc.nil _ _, Slc.nil _ _, rfl⟩
theorem tr_ntBound (nb : Nat) (H : Hp) (S : Nt) (hH : NtH S nb H) (hl : S.l.length ≤ 2 ^ 20) (hb : S.b.length ≤ 1) : TrR Tryz.prog 156 [.pointer (some ⟨nb, 0, none⟩)] (H) (.tuple #[.int .i64 (S.b.headD 0), .bool (!S.b.isEmpty)]) := by
 obtain ⟨w, l, bd⟩ := S
 obtain ⟨lb, bb, v, u, K, J, hs, hu, rfl⟩ := hH
 dsimp only at hs hu hl hb ⊢
 refine Tr.enter Tryz.func156 rfl Tryz.ntmps156 rfl (fun W F => ?_)
 refine Wp.app ?_
 refine zq [3,4,1,1,2,5,3,4,0,9,6,8] ?_
 refine zD (tr_list bb u J bd hu (by omega)) ?_
 rintro _ _ ⟨C1, hc1, rfl⟩
 refine Ops.app ?_
 obtain ⟨p1, q1, rfl⟩ := hc1.form
 refine zq [1,2,5,3,3,4,0] ?_
 refine Ops.pv (pv_len_slice (T := 54) rfl rfl) rfl ?_
 refine zq [22,2,5] ?_
 refine Wp.cond_dect rfl (fun h1 => ?_) (fun h1 => ?_)
 ·
  obtain rfl : bd = [] := List.eq_nil_of_length_eq_zero (by omega)
  refine zq [3,4,1,1,2,5,10,12] ?_
  exact zr ⟨rfl, rfl⟩
 obtain ⟨y, t, rfl⟩ : ∃ y t, bd = y :: t := by cases bd with | nil => simp_all | cons y t => exact ⟨y, t, rfl⟩
 obtain ⟨b5, o5, cap5, cc5, T5, f5, hv5, hbv5, hr5⟩ := hc1.view.open (by simp)
 have hny := ints_nth (i := 0) hr5 rfl
 cases hv5
 refine zq [11,5,3,4,0] ?_
 refine Ops.pv (pv_indexAddr (i := 0) rfl rfl rfl (by simp)) rfl ?_
 refine Ops.pv (pv_load rfl rfl (by assumption)) rfl ?_
 refine zq [1,1,2,5,10] ?_
 exact zr ⟨rfl, rfl⟩
theorem tr_ntTake (nb : Nat) (H : Hp) (S : Nt) (hH : NtH S nb H) : Tr Tryz.prog 219 [.pointer (some ⟨nb, 0, none⟩)] (H) (fun u L' => u = .int .u64 S.w ∧ NtH ⟨0, S.l, S.b⟩ nb L') := by
 obtain ⟨w, l, bd⟩ := S
 obtain ⟨lb, bb, v, u, K, J, hs, hu, rfl⟩ := hH
 dsimp only at hs hu ⊢
 refine Tr.enter Tryz.func219 rfl Tryz.ntmps219 rfl (fun W F => ?_)
 refine Wp.app ?_
 refine zq [3,4,1,2,5,3,4,0,9,6,8,1,2,5,3,4,0,9,6,25,2,5,3,4,0,1,2,5,10] ?_
 exact zr (L' := (nb, .cells [.int .u64 0, .pointer (some ⟨lb, 0, none⟩), .pointer (some ⟨bb, 0, none⟩)].toArray 191) :: (lb, .cells [v].toArray 241) :: (bb, .cells [u].toArray 241) :: (K ++ J)) ⟨rfl, ⟨lb, bb, _, _, _, _, hs, hu, rfl⟩⟩
theorem tr_ntSignal (nb : Nat) (H : Hp) (S : Nt) (hH : NtH S nb H) (hl : S.l.length ≤ 2 ^ 20) (hb : S.b.length ≤ 1) (x : Int) (bound : Bool) : Tr Tryz.prog 192 [.pointer (some ⟨nb, 0, none⟩), .int .u64 x, .bool bound] (H) (fun u L' => u = .tuple #[.int .i64 (sgV S bound), .int .u64 (sgW S x bound), .bool (sgB S bound)] ∧ NtH (sgS S x bound) nb L') := by
 obtain ⟨w, l, bd⟩ := S
 obtain ⟨lb, bb, v, u, K, J, hs, hu, rfl⟩ := hH
 dsimp only at hs hu hl hb ⊢
 refine Tr.enter Tryz.func192 rfl Tryz.ntmps192 rfl (fun W F => ?_)
 refine Wp.app ?_
 refine zq [3,4,1,1,1,2,5,3,3,4,0,9,6,8] ?_
 refine zD (tr_lpop lb v K l hs (by omega)) ?_
 rintro _ _ ⟨rfl, v1, H1, hs1, rfl⟩
 refine Ops.app ?_
 refine zq [0,7,7,1,1,2,5,3,4,0,2,5] ?_
 refine Wp.cond_t rfl (fun h1 => ?_) (fun h1 => ?_)
 ·
  have hne : l ≠ [] := by rintro rfl; simp_all [popB]
  refine zq [3,4,0,0,1,1,1,2,5,10,12] ?_
  obtain ⟨m1, m2, m3, m4⟩ := sg_wait (S := (⟨w, l, bd⟩ : Nt)) x bound hne
  exact Ends.ret (L' := (nb, .cells [.int .u64 w, .pointer (some ⟨lb, 0, none⟩), .pointer (some ⟨bb, 0, none⟩)].toArray 191) :: (lb, .cells [v1].toArray 241) :: (bb, .cells [u].toArray 241) :: (H1 ++ J)) (res3 rfl rfl rfl rfl) ⟨by rw [m1, m2, m3]; rfl, by rw [m4]; exact ⟨lb, bb, _, _, _, _, hs1, hu, rfl⟩⟩
 have hne : l = [] := by have h9 : popB l = false := (by assumption); simpa [popB] using h9
 refine zq [11,5,3,4,0,9,6,8,0] ?_
 refine Ops.pv (pv_or rfl rfl rfl) rfl ?_
 refine zq [9,6,25,2,5,3,4,0] ?_
 refine zC (tr_ntBound nb _ ⟨orI w x, l.tail, bd⟩ ⟨lb, bb, _, _, _, _, hs1, hu, rfl⟩ (by dsimp only; simp; omega) hb) ?_
 refine zq [0,7,7,1,1,2,5,3,3,4,0,39,0] ?_
 refine Ops.splitb (t := 39) rfl (fun h2 => ?_) (fun h2 => ?_)
 ·
  refine zq [13,13,24,2,5,18,3,4,1,1,1,2,5,10,12] ?_
  subst hne
  obtain ⟨m1, m2, m3, m4⟩ := sg_none (S := (⟨w, [], bd⟩ : Nt)) x (bound := bound) rfl (by rintro ⟨e, _⟩; simp_all)
  exact Ends.ret (L' := (nb, .cells [.int .u64 (orI w x), .pointer (some ⟨lb, 0, none⟩), .pointer (some ⟨bb, 0, none⟩)].toArray 191) :: (lb, .cells [v1].toArray 241) :: (bb, .cells [u].toArray 241) :: (H1 ++ J)) (res3 rfl rfl rfl rfl) ⟨by rw [m1, m2, m3], by rw [m4]; exact ⟨lb, bb, _, _, _, _, hs1, hu, rfl⟩⟩
 refine zq [21,54,26,2,5] ?_
 refine Wp.cond_t rfl (fun h3 => ?_) (fun h3 => ?_)
 ·
  refine zq [3,4,1,1,1,2,5,10,12] ?_
  subst hne
  obtain ⟨m1, m2, m3, m4⟩ := sg_none (S := (⟨w, [], bd⟩ : Nt)) x (bound := bound) rfl (by rintro ⟨_, e⟩; simp_all)
  exact Ends.ret (L' := (nb, .cells [.int .u64 (orI w x), .pointer (some ⟨lb, 0, none⟩), .pointer (some ⟨bb, 0, none⟩)].toArray 191) :: (lb, .cells [v1].toArray 241) :: (bb, .cells [u].toArray 241) :: (H1 ++ J)) (res3 rfl rfl rfl rfl) ⟨by rw [m1, m2, m3], by rw [m4]; exact ⟨lb, bb, _, _, _, _, hs1, hu, rfl⟩⟩
 refine zq [11,5,3,4,0,0] ?_
 refine zD (tr_ntTake nb _ ⟨orI w x, l.tail, bd⟩ ⟨lb, bb, _, _, _, _, hs1, hu, rfl⟩) ?_
 rintro _ _ ⟨rfl, hN1⟩
 refine Ops.app ?_
 refine zq [1,1,1,2,5,10] ?_
 subst hne
 obtain ⟨m1, m2, m3, m4⟩ := sg_bound (S := (⟨w, [], bd⟩ : Nt)) x (bound := bound) rfl ⟨by simp_all, by simp_all⟩
 exact Ends.ret (res3 rfl rfl rfl rfl) ⟨by rw [m1, m2, m3], by rw [m4]; exact hN1⟩
theorem tr_ntWait (nb : Nat) (H : Hp) (S : Nt) (hH : NtH S nb H) (hl : S.l.length ≤ 2 ^ 20) (hb : S.b.length ≤ 1) (id : Int) (wait : Bool) : Tr Tryz.prog 184 [.pointer (some ⟨nb, 0, none⟩), .int .i64 id, .bool wait] (H) (fun u L' => u = .tuple #[.int .u64 (wtW S id), .bool (wtB S id), .int .i64 (wtE S id)] ∧ NtH (wtS S id wait) nb L') := by
 obtain ⟨w, l, bd⟩ := S
 obtain ⟨lb, bb, v, u, K, J, hs, hu, rfl⟩ := hH
 dsimp only at hs hu hl hb ⊢
 refine Tr.enter Tryz.func184 rfl Tryz.ntmps184 rfl (fun W F => ?_)
 refine Wp.app ?_
 refine zq [3,4,1,1,1,2,5,3,4,0,9,6,8,0] ?_
 refine zD (tr_lpush lb v K l id hs (by omega)) ?_
 rintro _ _ ⟨rfl, v1, H1, hs1, rfl⟩
 refine Ops.app ?_
 refine zq [1,2,5,3,3,4,0,27,2,5] ?_
 refine Wp.cond_dect rfl (fun h1 => ?_) (fun h1 => ?_)
 ·
  have he : ¬ pushE l id = 0 := by assumption
  rw [push_no he] at hs1
  refine zq [3,4,0,1,1,1,2,5,10,12] ?_
  obtain ⟨m1, m2, m3⟩ := wt_err (S := (⟨w, l, bd⟩ : Nt)) (wait := wait) he
  exact Ends.ret (L' := (nb, .cells [.int .u64 w, .pointer (some ⟨lb, 0, none⟩), .pointer (some ⟨bb, 0, none⟩)].toArray 191) :: (lb, .cells [v1].toArray 241) :: (bb, .cells [u].toArray 241) :: (H1 ++ J)) (res3 rfl rfl rfl rfl) ⟨by rw [m1, m2]; rfl, by rw [m3]; exact ⟨lb, bb, _, _, _, _, hs1, hu, rfl⟩⟩
 have he : pushE l id = 0 := by omega
 obtain ⟨hp1, hp2⟩ := push_ok0 he
 rw [hp1] at hs1
 refine zq [11,5,3,3,4,0,9,6,8,22,0] ?_
 refine Ops.split (t := 25) rfl (fun h2 => ?_) (fun h2 => ?_)
 ·
  refine zq [21,24,2,5] ?_
  refine Wp.cond_t rfl (fun h3 => ?_) (fun h3 => ?_)
  ·
   refine zq [3,4,1,1,1,2,5,10,12] ?_
   obtain ⟨m1, m2, m3⟩ := wt_waits (S := (⟨w, l, bd⟩ : Nt)) (wait := wait) he ⟨by assumption, by assumption⟩
   exact Ends.ret (L' := (nb, .cells [.int .u64 w, .pointer (some ⟨lb, 0, none⟩), .pointer (some ⟨bb, 0, none⟩)].toArray 191) :: (lb, .cells [v1].toArray 241) :: (bb, .cells [u].toArray 241) :: (H1 ++ J)) (res3 rfl rfl rfl rfl) ⟨by rw [m1, m2, wtE, he], by rw [m3]; exact ⟨lb, bb, _, _, _, _, hs1, hu, rfl⟩⟩
  refine zq [11,5,3,4,0,9,6,8,0] ?_
  refine zD (tr_lremove lb v1 H1 (l ++ [id]) id hs1 (by rw [List.length_append]; simp; omega)) ?_
  rintro _ _ ⟨rfl, v2, H2, hs2, rfl⟩
  refine Ops.app ?_
  rw [rem_snoc hp2] at hs2
  refine zq [2,5,3,4,0] ?_
  refine zD (tr_ntTake nb _ ⟨w, l, bd⟩ ⟨lb, bb, _, _, _, _, hs2, hu, rfl⟩) ?_
  rintro _ _ ⟨rfl, hN1⟩
  refine Ops.app ?_
  refine zq [1,2,5,3,4,0,0,27,1,1,1,2,5,10] ?_
  obtain ⟨m1, m2, m3⟩ := wt_takes (S := (⟨w, l, bd⟩ : Nt)) (wait := wait) he (by rintro ⟨_, e⟩; simp_all)
  exact Ends.ret (res3 rfl rfl rfl rfl) ⟨by rw [m1, m2, wtE, he], by rw [m3]; exact hN1⟩
 refine zq [13,26,2,5,17,11,5,3,4,0,9,6,8,0] ?_
 refine zD (tr_lremove lb v1 H1 (l ++ [id]) id hs1 (by rw [List.length_append]; simp; omega)) ?_
 rintro _ _ ⟨rfl, v3, H3, hs3, rfl⟩
 refine Ops.app ?_
 rw [rem_snoc hp2] at hs3
 refine zq [2,5,3,4,0] ?_
 refine zD (tr_ntTake nb _ ⟨w, l, bd⟩ ⟨lb, bb, _, _, _, _, hs3, hu, rfl⟩) ?_
 rintro _ _ ⟨rfl, hN2⟩
 refine Ops.app ?_
 refine zq [1,2,5,3,4,0,0,27,1,1,1,2,5,10] ?_
 obtain ⟨m1, m2, m3⟩ := wt_takes (S := (⟨w, l, bd⟩ : Nt)) (wait := wait) he (by rintro ⟨e, _⟩; simp_all)
 exact Ends.ret (res3 rfl rfl rfl rfl) ⟨by rw [m1, m2, wtE, he], by rw [m3]; exact hN2⟩
theorem tr_ntCancel (nb : Nat) (H : Hp) (S : Nt) (hH : NtH S nb H) (hl : S.l.length ≤ 2 ^ 20) (hb : S.b.length ≤ 1) (id : Int) : Tr Tryz.prog 83 [.pointer (some ⟨nb, 0, none⟩), .int .i64 id] (H) (fun u L' => u = .bool (remB S.l id) ∧ NtH ⟨S.w, remL S.l id, S.b⟩ nb L') := by
 obtain ⟨w, l, bd⟩ := S
 obtain ⟨lb, bb, v, u, K, J, hs, hu, rfl⟩ := hH
 dsimp only at hs hu hl hb ⊢
 refine Tr.enter Tryz.func83 rfl Tryz.ntmps83 rfl (fun W F => ?_)
 refine Wp.app ?_
 refine zq [3,4,1,2,5,3,4,0,9,6,8,0] ?_
 refine zD (tr_lremove lb v K l id hs (by omega)) ?_
 rintro _ _ ⟨rfl, v1, H1, hs1, rfl⟩
 refine Ops.app ?_
 refine zq [1,2,5,10] ?_
 exact zr (L' := (nb, .cells [.int .u64 w, .pointer (some ⟨lb, 0, none⟩), .pointer (some ⟨bb, 0, none⟩)].toArray 191) :: (lb, .cells [v1].toArray 241) :: (bb, .cells [u].toArray 241) :: (H1 ++ J)) ⟨rfl, ⟨lb, bb, _, _, _, _, hs1, hu, rfl⟩⟩
theorem tr_ntState (nb : Nat) (H : Hp) (S : Nt) (hH : NtH S nb H) (hl : S.l.length ≤ 2 ^ 20) (hb : S.b.length ≤ 1) : Tr Tryz.prog 39 [.pointer (some ⟨nb, 0, none⟩)] (H) (fun u L' => ∃ v' H', u = .tuple #[.int .u64 S.w, v'] ∧ Slc 3 1 v' S.l.length (intsC S.l) H' ∧ L' = H' ++ H) := by
 obtain ⟨w, l, bd⟩ := S
 obtain ⟨lb, bb, v, u, K, J, hs, hu, rfl⟩ := hH
 dsimp only at hs hu hl hb ⊢
 refine Tr.enter Tryz.func39 rfl Tryz.ntmps39 rfl (fun W F => ?_)
 refine Wp.app ?_
 refine zq [3,4,1,1,2,5,3] ?_
 refine AnyH.start [(nb, .cells [.int .u64 w, .pointer (some ⟨lb, 0, none⟩), .pointer (some ⟨bb, 0, none⟩)].toArray 191)] 11 rfl ?_
 refine zd [0,1,1,3,2,0,3,2,4,1,5,3,6,0,7,2] ?_
 refine AnyH.one 8 (by kernel_rfl) ?_
 refine Turn.ef rfl rfl (ef_call (tr_list lb v K l hs (by omega)) rfl rfl) ?_ ?_
 ·
  rintro _ _ ⟨_, _, ⟨C1, hc1, rfl⟩, rfl, rfl⟩; infer_instance
 rintro _ _ ⟨_, _, ⟨C1, hc1, rfl⟩, rfl, rfl⟩
 refine AnyH.app ?_
 skip
 refine zd [9,5,10,5] ?_
 refine AnyH.done (by kernel_rfl) ?_
 refine zq [5,10] ?_
 exact Ends.ret (L' := C1 ++ ((nb, .cells [.int .u64 w, .pointer (some ⟨lb, 0, none⟩), .pointer (some ⟨bb, 0, none⟩)].toArray 191) :: (lb, .cells [v].toArray 241) :: (bb, .cells [u].toArray 241) :: (K ++ J))) (res2 rfl rfl rfl) ⟨_, C1, rfl, hc1, rfl⟩
end Go.Proofs.YtipncceiekalfaaGreat
end
section
set_option linter.unusedVariables false
set_option linter.unusedSimpArgs false
namespace Go.SL
section
variable {P : Program} {W : World} {ops : Array Oper} {Q : Exit → Act → World → Prop} {n : Nat} {D : List Deferred} {S : Hp} {fuel : Nat} {listed : Array Bool} {E : Env} {L : Hp}
theorem AnyH.splitb {t : Nat} {b : Bool} (hl : look t E = some (.bool b)) (ht : b = true → AnyH P W ops Q n D S fuel listed ((t, .bool true) :: E) L) (hf : b = false → AnyH P W ops Q n D S fuel listed ((t, .bool false) :: E) L) :
    AnyH P W ops Q n D S fuel listed E L := by
  cases b
  · exact .setE hl rfl (hf rfl)
  · exact .setE hl rfl (ht rfl)
theorem AnyH.skipu {d : Nat} {op : Op} {ty : TypeId} {pos : String} {aft : Array Edge} {j t : Nat} {b : Bool} (i : Nat) (hi : ops[i]? = some ⟨some d, op, ty, pos, aft, some (j, b)⟩) (hsel : Region.noSelect ops = true) (hf : Region.free .any ops listed i = true) (hr : (Region.ready .any ops listed).contains i = true)
    (hQ : PanicsFree Q) (h1 : (ops[j]?).bind (·.dst) = some t) (h2 : look t E = some undef) [hS : HeldSub L S] (hd : Nat.blt d n = true)
    (hn : AnyH P W ops Q n D S fuel (listed.setIfInBounds i true) ((d, undef) :: E) L) : AnyH P W ops Q n D S (fuel + 1) listed E L := by
  unfold AnyH at hn ⊢
  exact fun a w hs ho => wpAnyH_take hi hsel hf hr (fun c a w => hQ c a _ undef w) (.inr ⟨wanted_undef (o := ⟨some d, op, ty, pos, aft, some (j, b)⟩) rfl h1 h2 hs, rfl⟩) (ho.heldSub hS) (hn _ w (hs.put hd) ho)
end
section
variable {P : Program} {W : World} {n : Nat} {D : List Deferred} {E : Env} {L : Hp} {d : Nat} {ty : TypeId} {pos : String} {aft : Array Edge} {g : Option (Nat × Bool)} {T : TypeId}
end
end Go.SL
end
section
set_option linter.unusedVariables false
set_option linter.unusedSimpArgs false
set_option linter.unusedSectionVars false
namespace Go.Proofs.YtipncceiekalfaaGreat
open Go.SL
theorem bv_nat (a : Nat) (h : a < 2 ^ 64) : (BitVec.ofInt 64 (a : Int)).toNat = a := by rw [BitVec.ofInt_natCast, BitVec.toNat_ofNat, Nat.mod_eq_of_lt h]
theorem bits_u64 {x : BitVec 64} {r : Nat} (h : x.toNat = r) : IntKind.u64.wrap (x.toNat : Int) = (r : Int) := by
 have := x.isLt
 rw [h] at this ⊢
 exact u64n rfl this
theorem andNot_nat {a b : Nat} (ha : a < 2 ^ 64) (hb : b < 2 ^ 64) : bitsI .andNot .u64 (a : Int) (b : Int) = ((a &&& (2 ^ 64 - (b + 1)) : Nat) : Int) := by
 show IntKind.u64.wrap ((BitVec.ofInt 64 (a : Int) &&& ~~~ BitVec.ofInt 64 (b : Int)).toNat : Int) = _
 refine bits_u64 ?_
 rw [BitVec.toNat_and, BitVec.toNat_not, bv_nat a ha, bv_nat b hb, show 2 ^ 64 - 1 - b = 2 ^ 64 - (b + 1) by omega]
theorem or_nat {a b : Nat} (ha : a < 2 ^ 64) (hb : b < 2 ^ 64) : bitsI .or .u64 (a : Int) (b : Int) = ((a ||| b : Nat) : Int) := by
 show IntKind.u64.wrap ((BitVec.ofInt 64 (a : Int) ||| BitVec.ofInt 64 (b : Int)).toNat : Int) = _
 refine bits_u64 ?_
 rw [BitVec.toNat_or, bv_nat a ha, bv_nat b hb]
theorem and_nat {a b : Nat} (ha : a < 2 ^ 64) (hb : b < 2 ^ 64) : bitsI .and .u64 (a : Int) (b : Int) = ((a &&& b : Nat) : Int) := by
 show IntKind.u64.wrap ((BitVec.ofInt 64 (a : Int) &&& BitVec.ofInt 64 (b : Int)).toNat : Int) = _
 refine bits_u64 ?_
 rw [BitVec.toNat_and, bv_nat a ha, bv_nat b hb]
theorem mask_le {n : Nat} (h : n ≤ 64) : 2 ^ n - 1 < 2 ^ 64 := by
 have : (2 : Nat) ^ n ≤ 2 ^ 64 := Nat.pow_le_pow_right (by omega) h
 have : 0 < (2 : Nat) ^ n := Nat.two_pow_pos n
 omega
theorem and_mask64 {a n : Nat} (ha : a < 2 ^ 64) (hn : n ≤ 64) : bitsI .and .u64 (a : Int) ((2 ^ n - 1 : Nat) : Int) = ((a % 2 ^ n : Nat) : Int) := by
 rw [and_nat ha (mask_le hn), Nat.and_two_pow_sub_one_eq_mod]
theorem andNot_mask {v n : Nat} (hv : v < 2 ^ 64) (hn : n ≤ 64) : bitsI .andNot .u64 (v : Int) ((2 ^ n - 1 : Nat) : Int) = ((v / 2 ^ n * 2 ^ n : Nat) : Int) := by
 rw [andNot_nat hv (mask_le hn)]
 congr 1
 apply Nat.eq_of_testBit_eq
 intro i
 have h1 : (2 : Nat) ^ 64 - (2 ^ n - 1 + 1) = 2 ^ 64 - 2 ^ n := by have := Nat.two_pow_pos n; omega
 rw [Nat.testBit_and, Nat.testBit_two_pow_sub_succ (mask_le hn), Nat.testBit_two_pow_sub_one, Nat.testBit_mul_two_pow, Nat.testBit_div_two_pow]
 by_cases hi : n ≤ i
 ·
  by_cases h64 : i < 64
  ·
   simp [hi, h64, show ¬ i < n by omega, show i - n + n = i by omega]
  ·
   have : v.testBit i = false := Nat.testBit_lt_two_pow (Nat.lt_of_lt_of_le hv (Nat.pow_le_pow_right (by omega) (by omega)))
   simp [this, show i - n + n = i by omega]
 ·
  simp [hi, show i < n by omega]
theorem mask_ne {v n : Nat} : ((v / 2 ^ n * 2 ^ n : Nat) : Int) ≠ 0 ↔ 2 ^ n ≤ v := by
 have hp := Nat.two_pow_pos n
 constructor
 ·
  intro h
  apply Classical.byContradiction
  intro hc
  rw [Nat.div_eq_of_lt (by omega)] at h
  simp at h
 ·
  intro h hz
  have : 0 < v / 2 ^ n := Nat.div_pos h hp
  have h2 : 0 < v / 2 ^ n * 2 ^ n := Nat.mul_pos this hp
  omega
theorem andNot_low {w m a : Nat} (hw : w < 2 ^ a) (ha : a ≤ 64) (hm : m * 2 ^ a < 2 ^ 64) : bitsI .andNot .u64 (w : Int) ((m * 2 ^ a : Nat) : Int) = (w : Int) := by
 have h64 : w < 2 ^ 64 := Nat.lt_of_lt_of_le hw (Nat.pow_le_pow_right (by omega) ha)
 rw [andNot_nat h64 hm]
 congr 1
 apply Nat.eq_of_testBit_eq
 intro i
 rw [Nat.testBit_and, Nat.testBit_two_pow_sub_succ hm, Nat.testBit_mul_two_pow]
 by_cases hi : a ≤ i
 ·
  have : w.testBit i = false := Nat.testBit_lt_two_pow (Nat.lt_of_lt_of_le hw (Nat.pow_le_pow_right (by omega) hi))
  simp [this]
 ·
  simp [hi, show i < 64 by omega]
theorem or_low {w v a : Nat} (hw : w < 2 ^ a) (ha : a ≤ 64) (hv : v * 2 ^ a < 2 ^ 64) : bitsI .or .u64 (w : Int) ((v * 2 ^ a : Nat) : Int) = ((v * 2 ^ a + w : Nat) : Int) := by
 have h64 : w < 2 ^ 64 := Nat.lt_of_lt_of_le hw (Nat.pow_le_pow_right (by omega) ha)
 rw [or_nat h64 hv, Nat.or_comm, Nat.mul_comm, ← Nat.two_pow_add_eq_or_of_lt hw]
theorem shl_nat {a j : Nat} (hj : j ≤ 64) (h : a * 2 ^ j < 2 ^ 64) : IntKind.u64.wrap ((a : Int) * 2 ^ (min (j : Int).toNat 64)) = ((a * 2 ^ j : Nat) : Int) := shln hj h
theorem shr_nat {a j : Nat} (hj : j ≤ 64) : ((a : Int)).fdiv (2 ^ (min (j : Int).toNat 64)) = ((a / 2 ^ j : Nat) : Int) := by
 rw [show min (j : Int).toNat 64 = j by omega, fdiv_pow]
theorem mask_shr {n : Nat} (h1 : 1 ≤ n) (h : n ≤ 64) {j : Int} (hj : j = 64 - (n : Int)) : ((18446744073709551615 : Int)).fdiv (2 ^ (min j.toNat 64)) = ((2 ^ n - 1 : Nat) : Int) := by
 subst hj
 have e : ((18446744073709551615 : Int)) = ((2 ^ 64 - 1 : Nat) : Int) := by decide
 have hk : min (64 - (n : Int)).toNat 64 = 64 - n := by omega
 rw [hk, e, fdiv_pow]
 congr 1
 have h2 : 2 ^ 64 - 1 = (2 ^ n - 1) * 2 ^ (64 - n) + (2 ^ (64 - n) - 1) := by
  have e1 : (2 : Nat) ^ 64 = 2 ^ n * 2 ^ (64 - n) := by rw [← Nat.pow_add]; congr 1; omega
  have p1 := Nat.two_pow_pos n
  have p2 := Nat.two_pow_pos (64 - n)
  rw [e1, Nat.sub_mul, Nat.one_mul]
  have : 2 ^ (64 - n) ≤ 2 ^ n * 2 ^ (64 - n) := Nat.le_mul_of_pos_left _ p1
  omega
 rw [h2, Nat.mul_comm, Nat.mul_add_div (Nat.two_pow_pos _), Nat.div_eq_of_lt (by have := Nat.two_pow_pos (64 - n); omega)]
 rfl
def putV (w a n v : Nat) : Nat := if v < 2 ^ n then v * 2 ^ a + w else 0
def fldE (n v : Nat) : Int := if v < 2 ^ n then 0 else 10
end Go.Proofs.YtipncceiekalfaaGreat
end
section
set_option linter.unusedVariables false
set_option linter.unusedSimpArgs false
namespace Go.SL
def KindV : List (Option IntKind) → List Value → Prop
  | [], [] => True
  | some k :: ks, v :: vs => (∃ n, v = .int k n) ∧ KindV ks vs
  | none :: ks, v :: vs => (∃ b, v = .bool b) ∧ KindV ks vs
  | _, _ => False
theorem KindV.len : ∀ {ks : List (Option IntKind)} {vs : List Value}, KindV ks vs → vs.length = ks.length
  | [], [], _ => rfl
  | some _ :: ks, _ :: vs, h => by simp [KindV.len h.2]
  | none :: ks, _ :: vs, h => by simp [KindV.len h.2]
theorem KindV.int {k : IntKind} {ks : List (Option IntKind)} : ∀ {vs : List Value}, KindV (some k :: ks) vs → ∃ n us, vs = .int k n :: us ∧ KindV ks us
  | _ :: us, ⟨⟨n, e⟩, h⟩ => ⟨n, us, by rw [e], h⟩
theorem KindV.bool {ks : List (Option IntKind)} : ∀ {vs : List Value}, KindV (none :: ks) vs → ∃ b us, vs = .bool b :: us ∧ KindV ks us
  | _ :: us, ⟨⟨b, e⟩, h⟩ => ⟨b, us, by rw [e], h⟩
theorem KindV.nil : ∀ {vs : List Value}, KindV [] vs → vs = []
  | [], _ => rfl
def asV (ag : Bool) (xs : List Value) : Value := if ag then .agg xs.toArray else xs.headD undef
class EqTy (P : Program) (T : TypeId) (ks : outParam (List (Option IntKind))) (dp : outParam Nat) (ag : outParam Bool) : Prop where
  ds : ∃ dsc, P.underlying T = some dsc ∧ aggD dsc = ag
  sz : TyS P T ks.length
  on : ag = false → ks.length = 1
  eq : ∀ d w xs ys, KindV ks xs → KindV ks ys → ∃ b, (Op.equalIn (d + dp) T (asV ag xs) (asV ag ys)).run P w = .ok b w ∧ (b = true ↔ xs = ys)
theorem EqTy.le {P : Program} {T : TypeId} {ks : List (Option IntKind)} {dp : Nat} {ag : Bool} (h : EqTy P T ks dp ag) {D : Nat} (hD : dp ≤ D) (w : World) {xs ys : List Value} (hx : KindV ks xs) (hy : KindV ks ys) :
    ∃ b, (Op.equalIn D T (asV ag xs) (asV ag ys)).run P w = .ok b w ∧ (b = true ↔ xs = ys) := by
  have := h.eq (D - dp) w xs ys hx hy
  rwa [show D - dp + dp = D by omega] at this
theorem EqTy.part {P : Program} {T : TypeId} {ks : List (Option IntKind)} {dp : Nat} {ag : Bool} (h : EqTy P T ks dp ag) {w : World} {X xs : List Value} {off : Nat} (hr : Reads X off xs) (hl : xs.length = ks.length) : (part T X.toArray off).run P w = .ok (asV ag xs) w := by
 obtain ⟨dsc, hu, hd⟩ := h.ds
 haveI : TyD P T dsc := ⟨hu⟩
 haveI := h.sz
 cases ag with
 | true =>
  have hc' := hr.extract hl
  simp only [List.extract_toArray, List.extract_eq_take_drop, Nat.add_sub_cancel_left] at hc'
  have hc' := List.toArray_inj hc'
  simp [Go.part, TyD.agg, TyS.run, hd, hc', asV]
 | false =>
  have h1 := h.on rfl
  match xs, (by rw [hl, h1] : xs.length = 1) with
  | [v], _ =>
   have h0 := (reads_iff.1 hr) 0 v rfl
   simp [Go.part, TyD.agg, hd, asV] at h0 ⊢
   simp [h0]
theorem KindV.split : ∀ {ks ls : List (Option IntKind)} {vs : List Value}, KindV (ks ++ ls) vs → ∃ a b, vs = a ++ b ∧ KindV ks a ∧ KindV ls b
  | [], ls, vs, h => ⟨[], vs, rfl, trivial, h⟩
  | some k :: ks, ls, v :: vs, h => by
    obtain ⟨a, b, rfl, h1, h2⟩ := KindV.split (ks := ks) h.2
    exact ⟨v :: a, b, rfl, ⟨h.1, h1⟩, h2⟩
  | none :: ks, ls, v :: vs, h => by
    obtain ⟨a, b, rfl, h1, h2⟩ := KindV.split (ks := ks) h.2
    exact ⟨v :: a, b, rfl, ⟨h.1, h1⟩, h2⟩
  | some k :: ks, ls, [], h => by cases h
  | none :: ks, ls, [], h => by cases h
theorem Reads.both {X a b : List Value} {off : Nat} (h : Reads X off (a ++ b)) : Reads X off a ∧ Reads X (off + a.length) b := by
 rw [reads_iff] at h
 refine ⟨reads_iff.2 fun j v hj => h j v (by rw [List.getElem?_append_left (List.getElem?_eq_some_iff.1 hj).1]; exact hj), reads_iff.2 fun j v hj => ?_⟩
 have := h (a.length + j) v (by rw [List.getElem?_append_right (by omega), show a.length + j - a.length = j by omega]; exact hj)
 rwa [show off + (a.length + j) = off + a.length + j by omega] at this
def EqFs (P : Program) (dp : Nat) : Nat → List Field → List (List (Option IntKind)) → Prop
  | _, [], [] => True
  | off, f :: fs, ks :: kss => (f.name ≠ "_" ∧ f.offset = off ∧ ∃ dq ag, dq ≤ dp ∧ EqTy P f.type ks dq ag) ∧ EqFs P dp (off + ks.length) fs kss
  | _, _, _ => False
theorem EqFs.nil {P : Program} {dp off : Nat} : EqFs P dp off [] [] := trivial
theorem EqFs.cons {P : Program} {dp off dq : Nat} {ag : Bool} {f : Field} {fs : List Field} {ks : List (Option IntKind)} {kss : List (List (Option IntKind))} (h0 : f.name ≠ "_") (h1 : f.offset = off) (h2 : EqTy P f.type ks dq ag) (h3 : dq ≤ dp) (h : EqFs P dp (off + ks.length) fs kss) : EqFs P dp off (f :: fs) (ks :: kss) := ⟨⟨h0, h1, dq, ag, h3, h2⟩, h⟩
theorem EqFs.run {P : Program} {dp D : Nat} {w : World} {X Y : List Value} (hD : dp ≤ D) : ∀ {fs : List Field} {kss : List (List (Option IntKind))} {off : Nat}, EqFs P dp off fs kss → ∀ {xs ys : List Value}, KindV kss.flatten xs → KindV kss.flatten ys → Reads X off xs → Reads Y off ys →
    ∃ b, (Op.eqFields D X.toArray Y.toArray fs).run P w = .ok b w ∧ (b = true ↔ xs = ys)
  | [], [], off, _, xs, ys, hx, hy, _, _ => ⟨true, rfl, by rw [KindV.nil hx, KindV.nil hy]; simp⟩
  | f :: fs, ks :: kss, off, ⟨⟨h0, h1, dq, ag, h2, h3⟩, h⟩, xs, ys, hx, hy, rx, ry => by
    rw [List.flatten_cons] at hx hy
    obtain ⟨a, a2, rfl, ha, ha2⟩ := hx.split
    obtain ⟨c, c2, rfl, hc, hc2⟩ := hy.split
    have la := ha.len
    have lc := hc.len
    obtain ⟨rx1, rx2⟩ := rx.both
    obtain ⟨ry1, ry2⟩ := ry.both
    rw [la] at rx2
    rw [lc] at ry2
    obtain ⟨b1, e1, i1⟩ := h3.le (by omega : dq ≤ D) w ha hc
    obtain ⟨b2, e2, i2⟩ := EqFs.run (w := w) hD h ha2 hc2 rx2 ry2
    subst h1
    have p1 := h3.part (w := w) rx1 la
    have p2 := h3.part (w := w) ry1 lc
    have hl : a.length = c.length := by omega
    simp only [Op.eqFields, if_pos h0, Sem.run_bind, p1, p2, e1, Result.andThen_ok]
    cases b1 with
    | false => exact ⟨false, rfl, by simp; intro e; exact absurd (i1.2 (List.append_inj e hl).1) (by simp)⟩
    | true =>
      refine ⟨b2, by simpa using e2, ?_⟩
      have := i1.1 rfl
      subst this
      rw [i2]; simp
  | [], _ :: _, _, h, _, _, _, _, _, _ => h.elim
  | _ :: _, [], _, h, _, _, _, _, _, _ => h.elim
theorem EqTy.items {P : Program} {e : TypeId} {ks : List (Option IntKind)} {dp D : Nat} {ag : Bool} (h : EqTy P e ks dp ag) {w : World} {X Y : List Value} (hD : dp ≤ D) : ∀ (m i : Nat) {xs ys : List Value}, KindV (List.replicate m ks).flatten xs → KindV (List.replicate m ks).flatten ys → Reads X (i * ks.length) xs → Reads Y (i * ks.length) ys →
    ∃ b, (Op.eqItems D e ks.length X.toArray Y.toArray (List.range' i m)).run P w = .ok b w ∧ (b = true ↔ xs = ys)
  | 0, i, xs, ys, hx, hy, _, _ => ⟨true, rfl, by rw [KindV.nil hx, KindV.nil hy]; simp⟩
  | m + 1, i, xs, ys, hx, hy, rx, ry => by
    rw [List.replicate_succ, List.flatten_cons] at hx hy
    obtain ⟨a, a2, rfl, ha, ha2⟩ := hx.split
    obtain ⟨c, c2, rfl, hc, hc2⟩ := hy.split
    have la := ha.len
    have lc := hc.len
    obtain ⟨rx1, rx2⟩ := rx.both
    obtain ⟨ry1, ry2⟩ := ry.both
    rw [la, ← Nat.succ_mul] at rx2
    rw [lc, ← Nat.succ_mul] at ry2
    obtain ⟨b1, e1, i1⟩ := h.le (by omega : dp ≤ D) w ha hc
    obtain ⟨b2, e2, i2⟩ := EqTy.items h (w := w) hD m (i + 1) ha2 hc2 rx2 ry2
    have p1 := h.part (w := w) rx1 la
    have p2 := h.part (w := w) ry1 lc
    have hl : a.length = c.length := by omega
    rw [List.range'_succ]
    simp only [Op.eqItems, Sem.run_bind, p1, p2, e1, Result.andThen_ok]
    cases b1 with
    | false => exact ⟨false, rfl, by simp; intro e; exact absurd (i1.2 (List.append_inj e hl).1) (by simp)⟩
    | true =>
      refine ⟨b2, by simpa using e2, ?_⟩
      have := i1.1 rfl
      subst this
      rw [i2]; simp
theorem EqTy.int {P : Program} {T : TypeId} {k : IntKind} (hu : P.underlying T = some (.int k)) [hs : TyS P T 1] : EqTy P T [some k] 1 false where
  ds := ⟨_, hu, rfl⟩
  sz := hs
  on _ := rfl
  eq d w xs ys hx hy := by
    obtain ⟨n, us, rfl, h1⟩ := hx.int
    obtain ⟨m, vs, rfl, h2⟩ := hy.int
    rw [KindV.nil h1, KindV.nil h2]
    exact ⟨_, run_equalIn_int w d T k k n m hu, by simp⟩
theorem EqTy.bool {P : Program} {T : TypeId} (hu : P.underlying T = some .bool) [hs : TyS P T 1] : EqTy P T [none] 1 false where
  ds := ⟨_, hu, rfl⟩
  sz := hs
  on _ := rfl
  eq d w xs ys hx hy := by
    obtain ⟨n, us, rfl, h1⟩ := hx.bool
    obtain ⟨m, vs, rfl, h2⟩ := hy.bool
    rw [KindV.nil h1, KindV.nil h2]
    exact ⟨_, run_equalIn_bool' w d T n m hu, by simp⟩
theorem EqTy.struct {P : Program} {T : TypeId} {fs : Array Field} {kss : List (List (Option IntKind))} {dp : Nat} (hu : P.underlying T = some (.struct fs)) (hst : P.stoodInHeld T = false) (hf : EqFs P dp 0 fs.toList kss) (hs : TyS P T kss.flatten.length) : EqTy P T kss.flatten (dp + 1) true where
  ds := ⟨_, hu, rfl⟩
  sz := hs
  on h := by cases h
  eq d w xs ys hx hy := by
    have hfs : P.fieldsOf T = fs := by simp [Program.fieldsOf, hu]
    show ∃ b, (Op.equalIn (d + dp + 1) T (.agg xs.toArray) (.agg ys.toArray)).run P w = _ ∧ _
    rw [run_equalIn_struct w (d + dp) T _ _ (by rw [hfs]; exact hu) hst, hfs]
    exact hf.run (by omega) hx hy (reads_iff.2 fun j v h => by simpa using h) (reads_iff.2 fun j v h => by simpa using h)
theorem EqTy.array {P : Program} {T e : TypeId} {m dp : Nat} {ks : List (Option IntKind)} {ag : Bool} (hu : P.underlying T = some (.array m e)) (he : EqTy P e ks dp ag) (hs : TyS P T (List.replicate m ks).flatten.length) : EqTy P T (List.replicate m ks).flatten (dp + 1) true where
  ds := ⟨_, hu, rfl⟩
  sz := hs
  on h := by cases h
  eq d w xs ys hx hy := by
    obtain ⟨i, hi, hsz⟩ := Option.map_eq_some_iff.1 he.sz.eq
    have hc : P.cellsOf e = ks.length := by simp [Program.cellsOf, hi, hsz]
    show ∃ b, (Op.equalIn (d + dp + 1) T (.agg xs.toArray) (.agg ys.toArray)).run P w = _ ∧ _
    rw [run_equalIn_array w (d + dp) _ _ hu hi, hc, List.range_eq_range']
    exact he.items (by omega) m 0 hx hy (by simpa using reads_iff.2 fun j v h => by simpa using h) (by simpa using reads_iff.2 fun j v h => by simpa using h)
section
variable {P : Program} {n : Nat} {D : List Deferred} {E : Env} {L : Hp} {d : Option Tmp} {ty : TypeId} {pos : String} {aft : Array Edge} {g : Option (Nat × Bool)} {T : TypeId} {x y : Operand} {yt : TypeId}
theorem pv_eqlF {ks : List (Option IntKind)} {dp : Nat} {xs ys : List Value} (p : Prop) [Decidable p] [hT : EqTy P T ks dp true] (hx : ev E x = some (.agg xs.toArray)) (hy : ev E y = some (.agg ys.toArray)) (h1 : KindV ks xs) (h2 : KindV ks ys) (hp : p ↔ xs = ys) (hd : dp ≤ 10000) (hg : P.eqGuardType P.depth T = false) :
    Pv P n D E L ⟨d, .binOp .eql T x y yt, ty, pos, aft, g⟩ (.bool (decide p)) := by
  unfold Pv; intro a w hs _
  obtain ⟨b, hb, hi⟩ := hT.le hd w h1 h2
  have : b = decide p := by rw [Bool.eq_iff_iff, hi, decide_eq_true_eq, hp]
  subst this
  have hb : (Op.equalIn 10000 T (.agg xs.toArray) (.agg ys.toArray)).run P w = .ok (decide p) w := hb
  simp only [execOp, hs.ev hx, hs.ev hy, Sem.run_bind, run_eqGuard_agg (P := P) w .eql T x y _ _ hg, run_eql_struct, Result.andThen_ok, hb, Sem.run_pure]
theorem pv_neqF {ks : List (Option IntKind)} {dp : Nat} {xs ys : List Value} (p : Prop) [Decidable p] [hT : EqTy P T ks dp true] (hx : ev E x = some (.agg xs.toArray)) (hy : ev E y = some (.agg ys.toArray)) (h1 : KindV ks xs) (h2 : KindV ks ys) (hp : p ↔ xs = ys) (hd : dp ≤ 10000) (hg : P.eqGuardType P.depth T = false) :
    Pv P n D E L ⟨d, .binOp .neq T x y yt, ty, pos, aft, g⟩ (.bool (decide (¬ p))) := by
  unfold Pv; intro a w hs _
  obtain ⟨b, hb, hi⟩ := hT.le hd w h1 h2
  have : b = decide p := by rw [Bool.eq_iff_iff, hi, decide_eq_true_eq, hp]
  subst this
  have hb : (Op.equalIn 10000 T (.agg xs.toArray) (.agg ys.toArray)).run P w = .ok (decide p) w := hb
  simp only [execOp, hs.ev hx, hs.ev hy, Sem.run_bind, run_eqGuard_agg (P := P) w .neq T x y _ _ hg, run_neq_struct, Result.andThen_ok, hb, Sem.run_pure]
  simp
end
theorem kind_i {k : IntKind} {n : Int} {ks : List (Option IntKind)} {vs : List Value} (h : KindV ks vs) : KindV (some k :: ks) (.int k n :: vs) := ⟨⟨n, rfl⟩, h⟩
theorem kind_b {b : Bool} {ks : List (Option IntKind)} {vs : List Value} (h : KindV ks vs) : KindV (none :: ks) (.bool b :: vs) := ⟨⟨b, rfl⟩, h⟩
end Go.SL
end
section
set_option linter.unusedVariables false
set_option linter.unusedSimpArgs false
set_option linter.unusedSectionVars false
namespace Go.Proofs.YtipncceiekalfaaGreat
open Go.SL
structure RegsM where
  r0 : Int
  r1 : Int
  r2 : Int
  r3 : Int
  r4 : Int
  r5 : Int
  r6 : Int
  r7 : Int
deriving DecidableEq
abbrev RegsM.cells (r : RegsM) : List Value := [.int .u64 r.r0, .int .u64 r.r1, .int .u64 r.r2, .int .u64 r.r3, .int .u64 r.r4, .int .u64 r.r5, .int .u64 r.r6, .int .u64 r.r7]
abbrev RegsM.v (r : RegsM) : Value := .agg #[.int .u64 r.r0, .int .u64 r.r1, .int .u64 r.r2, .int .u64 r.r3, .int .u64 r.r4, .int .u64 r.r5, .int .u64 r.r6, .int .u64 r.r7]
def RegsM.get (r : RegsM) : Nat → Int
  | 0 => r.r0
  | 1 => r.r1
  | 2 => r.r2
  | 3 => r.r3
  | 4 => r.r4
  | 5 => r.r5
  | 6 => r.r6
  | _ => r.r7
def RegsM.set (r : RegsM) (v : Int) : Nat → RegsM
  | 0 => { r with r0 := v }
  | 1 => { r with r1 := v }
  | 2 => { r with r2 := v }
  | 3 => { r with r3 := v }
  | 4 => { r with r4 := v }
  | 5 => { r with r5 := v }
  | 6 => { r with r6 := v }
  | _ => { r with r7 := v }
def U64 (x : Int) : Prop := 0 ≤ x ∧ x < 18446744073709551616
instance (x : Int) : Decidable (U64 x) := by unfold U64; infer_instance
def I64 (x : Int) : Prop := -9223372036854775808 ≤ x ∧ x < 9223372036854775808
structure RegsM.Ok (r : RegsM) : Prop where
  o0 : U64 r.r0
  o1 : U64 r.r1
  o2 : U64 r.r2
  o3 : U64 r.r3
  o4 : U64 r.r4
  o5 : U64 r.r5
  o6 : U64 r.r6
  o7 : U64 r.r7
abbrev RegsM.zero : RegsM := ⟨0, 0, 0, 0, 0, 0, 0, 0⟩
theorem RegsM.zero_ok : RegsM.zero.Ok := ⟨by decide, by decide, by decide, by decide, by decide, by decide, by decide, by decide⟩
theorem RegsM.Ok.get {r : RegsM} (h : r.Ok) (i : Nat) : U64 (r.get i) := by
 unfold RegsM.get
 split <;> first | exact h.o0 | exact h.o1 | exact h.o2 | exact h.o3 | exact h.o4 | exact h.o5 | exact h.o6 | exact h.o7
theorem RegsM.Ok.set {r : RegsM} (h : r.Ok) {v : Int} (hv : U64 v) (i : Nat) : (r.set v i).Ok := by
 unfold RegsM.set
 obtain ⟨o0, o1, o2, o3, o4, o5, o6, o7⟩ := h
 split <;> constructor <;> assumption
theorem RegsM.nth {r : RegsM} {i : Nat} (h : i < 8) : SL.nth r.cells i = some (.int .u64 (r.get i)) := by
 match i, h with
 | 0, _ | 1, _ | 2, _ | 3, _ | 4, _ | 5, _ | 6, _ | 7, _ => rfl
theorem RegsM.setc {r : RegsM} {i : Nat} {v : Int} (h : i < 8) : SetL r.cells i [.int .u64 v] (r.set v i).cells := by
 match i, h with
 | 0, _ | 1, _ | 2, _ | 3, _ | 4, _ | 5, _ | 6, _ | 7, _ => exact SetL.set1 (l := r.cells) (by simp)
theorem RegsM.ext_cells {a b : RegsM} : a = b ↔ a.cells = b.cells := by
 cases a; cases b; simp [RegsM.cells]
structure ThrM where
  st : Int
  on : Int
  badge : Int
  calls : Bool
  caller : Int
  lvl : Int
  dom : Int
  pc : Int
  regs : RegsM
deriving DecidableEq
abbrev ThrM.cells (t : ThrM) : List Value := [.int .i64 t.st, .int .i64 t.on, .int .u64 t.badge, .bool t.calls, .int .i64 t.caller, .int .i64 t.lvl, .int .i64 t.dom, .int .i64 t.pc,
  .int .u64 t.regs.r0, .int .u64 t.regs.r1, .int .u64 t.regs.r2, .int .u64 t.regs.r3, .int .u64 t.regs.r4, .int .u64 t.regs.r5, .int .u64 t.regs.r6, .int .u64 t.regs.r7]
abbrev ThrM.v (t : ThrM) : Value := .agg #[.int .i64 t.st, .int .i64 t.on, .int .u64 t.badge, .bool t.calls, .int .i64 t.caller, .int .i64 t.lvl, .int .i64 t.dom, .int .i64 t.pc,
  .int .u64 t.regs.r0, .int .u64 t.regs.r1, .int .u64 t.regs.r2, .int .u64 t.regs.r3, .int .u64 t.regs.r4, .int .u64 t.regs.r5, .int .u64 t.regs.r6, .int .u64 t.regs.r7]
theorem ThrM.ext_cells {a b : ThrM} : a = b ↔ a.cells = b.cells := by
 obtain ⟨_, _, _, _, _, _, _, _, ra⟩ := a
 obtain ⟨_, _, _, _, _, _, _, _, rb⟩ := b
 cases ra; cases rb; simp [ThrM.cells]
abbrev ThrM.zero : ThrM := ⟨0, 0, 0, false, 0, 0, 0, 0, .zero⟩
structure ThrM.Wf (t : ThrM) : Prop where
  st : I64 t.st
  on : I64 t.on
  badge : U64 t.badge
  caller : I64 t.caller
  lvl : I64 t.lvl
  dom : I64 t.dom
  pc : I64 t.pc
  regs : t.regs.Ok
def stillT (t : ThrM) (s : Int) : ThrM := { t with st := s, on := 0, badge := 0, calls := false }
def plainT (t : ThrM) : ThrM := if t.st = 2 then t else if t.st = 3 ∨ t.st = 5 then { stillT t t.st with on := t.on } else stillT t t.st
instance plainDec (t : ThrM) : Decidable (plainT t = t) :=
  if h : t.st = 2 then isTrue (by unfold plainT; rw [if_pos h])
  else if h3 : t.st = 3 ∨ t.st = 5 then
    if h4 : t.badge = 0 ∧ t.calls = false then isTrue (by obtain ⟨a, b, c, d, e, f, g, x, y⟩ := t; obtain ⟨h5, h6⟩ := h4; dsimp only at *; subst h5 h6; unfold plainT; rw [if_neg h, if_pos h3]; rfl)
    else isFalse (fun e => h4 (by unfold plainT at e; rw [if_neg h, if_pos h3] at e; exact ⟨(congrArg ThrM.badge e).symm, (congrArg ThrM.calls e).symm⟩))
  else
    if h4 : t.on = 0 ∧ t.badge = 0 ∧ t.calls = false then isTrue (by obtain ⟨a, b, c, d, e, f, g, x, y⟩ := t; obtain ⟨h5, h6, h7⟩ := h4; dsimp only at *; subst h5 h6 h7; unfold plainT; rw [if_neg h, if_neg h3]; rfl)
    else isFalse (fun e => h4 (by unfold plainT at e; rw [if_neg h, if_neg h3] at e; exact ⟨(congrArg ThrM.on e).symm, (congrArg ThrM.badge e).symm, (congrArg ThrM.calls e).symm⟩))
def chkT (t : ThrM) : Int :=
  if ¬ (0 ≤ t.st ∧ t.st ≤ 5) then 8
  else if plainT t ≠ t ∨ ¬ (0 ≤ t.on ∧ t.on ≤ 63) ∨ t.badge.fdiv (2 ^ 28) ≠ 0 ∨ ¬ (-1 ≤ t.caller ∧ t.caller ≤ 63) then 10
  else if ¬ (0 ≤ t.lvl ∧ t.lvl ≤ 7) ∨ ¬ (0 ≤ t.dom ∧ t.dom ≤ 3) ∨ ¬ (0 ≤ t.pc ∧ t.pc ≤ 4095) then 10 else 0
def newT (lvl dom : Int) : ThrM := ⟨0, 0, 0, false, -1, lvl, dom, 0, .zero⟩
def newTM (lvl dom : Int) : ThrM × Int := if chkT (newT lvl dom) = 0 then (newT lvl dom, 0) else (.zero, 1)
def idleT (t : ThrM) : Prop := t.st = 0 ∨ t.st = 1
instance (t : ThrM) : Decidable (idleT t) := by unfold idleT; infer_instance
def startE (t : ThrM) : Int := if chkT t = 0 then (if t.st ≠ 0 then 8 else 0) else chkT t
def startTM (t : ThrM) : ThrM × Int := if startE t = 0 then (stillT t 1, 0) else (.zero, startE t)
def stopT (t : ThrM) : ThrM := stillT t 0
def blkT (t : ThrM) (s on badge : Int) (calls : Bool) : ThrM := { t with st := s, on := on, badge := badge, calls := calls }
def blockE (t : ThrM) (s on badge : Int) (calls : Bool) : Int :=
  if chkT t ≠ 0 then chkT t else if t.st ≠ 1 then 8 else if idleT (blkT t s on badge calls) then 8 else chkT (blkT t s on badge calls)
def blockTM (t : ThrM) (s on badge : Int) (calls : Bool) : ThrM × Int := if blockE t s on badge calls = 0 then (blkT t s on badge calls, 0) else (.zero, blockE t s on badge calls)
def wakeE (t : ThrM) : Int := if chkT t = 0 then (if idleT t then 8 else 0) else chkT t
def wakeTM (t : ThrM) (r : RegsM) : ThrM × Int := if wakeE t = 0 then ({ stillT t 1 with regs := r }, 0) else (.zero, wakeE t)
def infE (w : Nat) : Int := if w < 1048576 ∧ w % 8 ≤ 4 then 0 else 10
def infLab (w : Nat) : Nat := if infE w = 0 then w / 16 % 65536 else 0
def infLen (w : Nat) : Nat := if infE w = 0 then w % 8 else 0
def infCap (w : Nat) : Bool := decide (infE w = 0 ∧ w / 8 % 2 = 1)
def packInf (lab len : Nat) (cap : Bool) : Nat := lab * 16 + len + (if cap then 8 else 0)
def carryR (f t : RegsM) (n : Nat) (b : Int) : RegsM :=
  { r0 := f.r0, r1 := if 1 ≤ n then f.r1 else t.r1, r2 := if 2 ≤ n then f.r2 else t.r2, r3 := if 3 ≤ n then f.r3 else t.r3, r4 := if 4 ≤ n then f.r4 else t.r4, r5 := b, r6 := t.r6, r7 := t.r7 }
def carryM (f t : RegsM) (b : Int) : RegsM × Int := if infE f.r0.toNat = 0 then (carryR f t (infLen f.r0.toNat) b, 0) else (.zero, 10)
def ansR (r : RegsM) (e : Int) : RegsM := { r with r0 := e }
structure InsM where
  op : Nat
  a : Nat
  b : Nat
  imm : Nat
deriving DecidableEq
abbrev InsM.v (i : InsM) : Value := .agg #[.int .i64 i.op, .int .i64 i.a, .int .i64 i.b, .int .i64 i.imm]
def InsM.Ok (i : InsM) : Prop := i.op ≤ 17 ∧ i.a < 8 ∧ i.b < 8 ∧ i.imm < 4096
def decM (w : Nat) : InsM := ⟨w % 32, w / 32 % 8, w / 256 % 8, w / 2048 % 4096⟩
def insOk (w : Nat) : Prop := w < 8388608 ∧ w % 32 ≤ 17
instance (w : Nat) : Decidable (insOk w) := by unfold insOk; infer_instance
def unpM (w : Nat) : InsM × Int := if insOk w then (decM w, 0) else (⟨0, 0, 0, 0⟩, 10)
structure EffM where
  regs : RegsM
  pc : Int
  asks : Int
  at_ : Int
  reg : Int
  val : Int
abbrev EffM.v (x : EffM) : Value := .agg #[.int .u64 x.regs.r0, .int .u64 x.regs.r1, .int .u64 x.regs.r2, .int .u64 x.regs.r3, .int .u64 x.regs.r4, .int .u64 x.regs.r5, .int .u64 x.regs.r6, .int .u64 x.regs.r7,
  .int .i64 x.pc, .int .i64 x.asks, .int .u64 x.at_, .int .i64 x.reg, .int .u64 x.val]
def sumV (op : Nat) (a b : Int) : Int :=
  if op = 2 then b else if op = 3 then IntKind.u64.wrap (a + b) else if op = 4 then IntKind.u64.wrap (a - b) else if op = 5 then IntKind.u64.wrap (a * b)
  else if op = 6 then bitsI .and .u64 a b else if op = 7 then bitsI .or .u64 a b else if op = 8 then bitsI .xor .u64 a b
  else if op = 9 then IntKind.u64.wrap (a * 2 ^ (b.toNat % 64)) else if op = 10 then a.fdiv (2 ^ (b.toNat % 64)) else a
def sumB (op : Nat) : Prop := 2 ≤ op ∧ op ≤ 10
instance (op : Nat) : Decidable (sumB op) := by unfold sumB; infer_instance
def nextPc (pc : Int) : Int := if pc = 4095 then 0 else pc + 1
def runM (i : InsM) (r : RegsM) (pc : Int) : EffM :=
  if sumB i.op then ⟨r.set (sumV i.op (r.get i.a) (r.get i.b)) i.a, nextPc pc, 0, 0, 0, 0⟩
  else if i.op = 0 then ⟨r, pc, 4, 0, 0, 0⟩
  else if i.op = 1 then ⟨r.set i.imm i.a, nextPc pc, 0, 0, 0, 0⟩
  else if i.op = 17 then ⟨r.set (IntKind.u64.wrap (IntKind.u64.wrap (r.get i.a * 2 ^ 12) + i.imm)) i.a, nextPc pc, 0, 0, 0, 0⟩
  else if i.op = 11 then ⟨r, nextPc pc, 1, IntKind.u64.wrap (r.get i.b + i.imm), i.a, 0⟩
  else if i.op = 12 then ⟨r, nextPc pc, 2, IntKind.u64.wrap (r.get i.b + i.imm), 0, r.get i.a⟩
  else if i.op = 16 then ⟨r, nextPc pc, 3, 0, 0, i.imm⟩
  else if i.op = 14 then ⟨r, if r.get i.a < 1 then (i.imm : Int) else nextPc pc, 0, 0, 0, 0⟩
  else if i.op = 15 then ⟨r, if r.get i.a < r.get i.b then (i.imm : Int) else nextPc pc, 0, 0, 0, 0⟩
  else ⟨r, i.imm, 0, 0, 0, 0⟩
structure PteM where
  valid : Bool
  write : Bool
  at_ : Int
deriving DecidableEq
abbrev PteM.v (e : PteM) : Value := .agg #[.bool e.valid, .bool e.write, .int .i64 e.at_]
abbrev PteM.zero : PteM := ⟨false, false, 0⟩
def packE (e : PteM) : Int := if e = .zero then 0 else if e.valid = false then 10 else if e.at_ < 0 ∨ 65520 < e.at_ ∨ e.at_ % 16 ≠ 0 then 9 else 0
def packV (e : PteM) : Int := if packE e = 0 then (if e = .zero then 0 else e.at_ + 1 + (if e.write then 2 else 0)) else 0
def pteOk (w : Nat) : Prop := w % 2 = 1 ∧ w / 4 % 4 = 0 ∧ w < 65536
instance (w : Nat) : Decidable (pteOk w) := by unfold pteOk; infer_instance
def pteM (w : Nat) : PteM × Int := if w = 0 then (.zero, 0) else if pteOk w then (⟨true, decide (w / 2 % 2 = 1), (w / 16 * 16 : Nat)⟩, 0) else (.zero, 10)
def splitM (a : Int) : Int × Int × Int × Int := if a < 0 ∨ 4096 ≤ a then (0, 0, 0, 1) else (a / 256, a / 16 % 16, a % 16, 0)
end Go.Proofs.YtipncceiekalfaaGreat
end
section
set_option linter.unusedVariables false
set_option linter.unusedSimpArgs false
set_option linter.unusedSectionVars false
namespace Go.Proofs.YtipncceiekalfaaGreat
open Go.SL
theorem tr_bMask (n : Nat) (hn1 : 1 ≤ n) (h : n ≤ 64) : TrR Tryz.prog 89 [.int .i64 n] ([]) (.int .u64 ((2 ^ n - 1 : Nat) : Int)) := by
 refine Tr.enter Tryz.func89 rfl Tryz.ntmps89 rfl (fun W F => ?_)
 refine Wp.app ?_
 refine zq [3,4,1,2,5,3,4,0,53] ?_
 refine Ops.pv (pv_shr rfl rfl (by omega) (mask_shr hn1 h rfl)) rfl ?_
 refine zq [1,2,5,10] ?_
 exact zr ⟨rfl, rfl⟩
theorem tr_bField (a n : Int) (hn : I64 n) : TrR Tryz.prog 88 [.int .i64 a, .int .i64 n] ([]) (.bool (decide (((n ≥ 1 ∧ n ≤ 64) ∧ a ≥ 0) ∧ a ≤ 64 - n))) := by
 unfold I64 at hn
 refine Tr.enter Tryz.func88 rfl Tryz.ntmps88 rfl (fun W F => ?_)
 refine Wp.app ?_
 refine zq [3,4,1,2,5,3,4,0,43,0] ?_
 refine Ops.pvc rfl rfl (fun hg => pv_move rfl) rfl ?_
 refine Ops.pvc rfl rfl (fun hg => Pv.setE (t := 8) rfl (cv_pos hg) (pv_leq rfl rfl)) rfl ?_
 refine zq [46,0] ?_
 refine Ops.pvc rfl rfl (fun hg => pv_move rfl) rfl ?_
 refine Ops.pvc rfl rfl (fun hg => Pv.setE (t := 12) rfl (cv_pos hg) (pv_geq rfl rfl)) rfl ?_
 refine zq [46,0] ?_
 refine Ops.pvc rfl rfl (fun hg => pv_move rfl) rfl ?_
 refine Ops.pvc rfl rfl (fun hg => Pv.setE (t := 16) rfl (cv_pos hg) (pv_move rfl)) rfl ?_
 refine Ops.pvc rfl rfl (fun hg => Pv.setE (t := 16) rfl (cv_pos hg) (Pv.setE (t := 17) rfl (cv_pos hg) (pv_sub rfl rfl (w64 (by omega) (by omega))))) rfl ?_
 refine Ops.pvc rfl rfl (fun hg => Pv.setE (t := 16) rfl (cv_pos hg) (Pv.setE (t := 17) rfl (cv_pos hg) (Pv.setE (t := 18) rfl (cv_pos hg) (pv_leq rfl rfl)))) rfl ?_
 refine zq [46,1,2,5,10] ?_
 exact zr ⟨rfl, rfl⟩
theorem tr_bGet (w a n : Nat) (hw : w < 2 ^ 64) (hn1 : 1 ≤ n) (h : a + n ≤ 64) : TrR Tryz.prog 137 [.int .u64 w, .int .i64 a, .int .i64 n] ([]) (.tuple #[.int .u64 ((w / 2 ^ a % 2 ^ n : Nat) : Int), .int .i64 0]) := by
 refine Tr.enter Tryz.func137 rfl Tryz.ntmps137 rfl (fun W F => ?_)
 refine Wp.app ?_
 refine zq [3,4,1,1,2,5,3,3,4,0,0] ?_
 refine zC ((tr_bField a n (by unfold I64; omega)).eq (r' := .bool true) (by rw [decide_eq_true (by omega)])) ?_
 refine zq [39,2,5,17,11,5,3] ?_
 refine AnyH.startL 8 rfl ?_
 refine zd [0,1,1,1] ?_
 refine Tk 2 rfl rfl (pv_shr rfl rfl (by omega) (shr_nat (by omega))) rfl ?_
 refine zd [3,1] ?_
 refine AnyH.one 4 (by kernel_rfl) ?_
 refine Turn.ef rfl rfl (ef_callr (tr_bMask n hn1 (by omega)) rfl rfl) ?_ ?_
 ·
  rintro _ _ ⟨rfl, rfl⟩; infer_instance
 rintro _ _ ⟨rfl, rfl⟩
 refine Tk 5 rfl rfl (pv_and rfl rfl (and_mask64 (Nat.lt_of_le_of_lt (Nat.div_le_self _ _) hw) (by omega))) rfl ?_
 refine zd [6,5,7,5] ?_
 refine AnyH.done (by kernel_rfl) ?_
 refine zq [5,10] ?_
 exact zr ⟨rfl, rfl⟩
theorem tr_bPut (w a n v : Nat) (hw : w < 2 ^ a) (hn1 : 1 ≤ n) (h : a + n ≤ 64) (hv : v < 2 ^ 64) : TrR Tryz.prog 36 [.int .u64 w, .int .i64 a, .int .i64 n, .int .u64 v] ([]) (.tuple #[.int .u64 (putV w a n v : Nat), .int .i64 (fldE n v)]) := by
 refine Tr.enter Tryz.func36 rfl Tryz.ntmps36 rfl (fun W F => ?_)
 refine Wp.app ?_
 refine zq [3,4,1,1,2,5,3,20,3,4,0,0] ?_
 refine zC ((tr_bField a n (by unfold I64; omega)).eq (r' := .bool true) (by rw [decide_eq_true (by omega)])) ?_
 refine zq [39,1,2,5,17,3,4,0,0] ?_
 refine zC (tr_bMask n hn1 (by omega)) ?_
 refine Ops.pv (pv_andNot rfl rfl (andNot_mask hv (by omega))) rfl ?_
 refine zq [27,1,2,5] ?_
 refine Wp.cond_dect rfl (fun h1 => ?_) (fun h1 => ?_)
 ·
  have hlt : ¬ v < 2 ^ n := by have := mask_ne.1 ‹((v / 2 ^ n * 2 ^ n : Nat) : Int) ≠ 0›; omega
  refine zq [3,4,1,1,2,5,10,15,12] ?_
  exact Ends.ret (res2 rfl rfl rfl) ⟨by rw [putV, fldE, if_neg hlt, if_neg hlt]; rfl, rfl⟩
 have hlt : v < 2 ^ n := Classical.byContradiction fun hc => by have := mask_ne.2 (Nat.le_of_not_lt hc); contradiction
 have hpp : (2 : Nat) ^ (a + n) ≤ 2 ^ 64 := Nat.pow_le_pow_right (by omega) h
 have hpn : 2 ^ n * 2 ^ a = (2 : Nat) ^ (a + n) := by rw [Nat.add_comm a n, Nat.pow_add]
 have hv2 : v * 2 ^ a < 2 ^ 64 := Nat.lt_of_lt_of_le (Nat.mul_lt_mul_of_pos_right hlt (Nat.two_pow_pos a)) (by omega)
 have hm2 : (2 ^ n - 1) * 2 ^ a < 2 ^ 64 := Nat.lt_of_lt_of_le (Nat.mul_lt_mul_of_pos_right (by have := Nat.two_pow_pos n; omega) (Nat.two_pow_pos a)) (by omega : 2 ^ n * 2 ^ a ≤ 2 ^ 64)
 refine zq [11,19,5,3] ?_
 refine AnyH.startL 12 rfl ?_
 refine zd [0,1,1,1,3,1,6,1,7,1] ?_
 refine Tk 8 rfl rfl (pv_shl rfl rfl (by omega) (shl_nat (by omega) hv2)) rfl ?_
 refine AnyH.one 2 (by kernel_rfl) ?_
 refine Turn.ef rfl rfl (ef_callr (tr_bMask n hn1 (by omega)) rfl rfl) ?_ ?_
 ·
  rintro _ _ ⟨rfl, rfl⟩; infer_instance
 rintro _ _ ⟨rfl, rfl⟩
 refine Tk 4 rfl rfl (pv_shl rfl rfl (by omega) (shl_nat (by omega) hm2)) rfl ?_
 refine Tk 5 rfl rfl (pv_andNot rfl rfl (andNot_low hw (by omega) hm2)) rfl ?_
 refine Tk 9 rfl rfl (pv_or rfl rfl (or_low hw (by omega) hv2)) rfl ?_
 refine zd [10,5,11,5] ?_
 refine AnyH.done (by kernel_rfl) ?_
 refine zq [5,10] ?_
 exact Ends.ret (res2 rfl rfl rfl) ⟨by rw [putV, fldE, if_pos hlt, if_pos hlt], rfl⟩
end Go.Proofs.YtipncceiekalfaaGreat
end
section
set_option linter.unusedVariables false
namespace Go.Proofs.YtipncceiekalfaaGreat
open Go.SL
instance eqt3 : EqTy Tryz.prog 3 [some .i64] 1 false := EqTy.int Tryz.underlying3
instance eqt4 : EqTy Tryz.prog 4 [none] 1 false := EqTy.bool Tryz.underlying4
instance eqt22 : EqTy Tryz.prog 22 [some .u64] 1 false := EqTy.int Tryz.underlying22
instance eqt33 : EqTy Tryz.prog 33 [some .u64, some .u64, some .u64, some .u64, some .u64, some .u64, some .u64, some .u64] 2 true := EqTy.array (m := 8) Tryz.underlying33 eqt22 ⟨by kernel_rfl⟩
instance eqt35 : EqTy Tryz.prog 35 [some .i64, some .i64, some .u64, none, some .i64, some .i64, some .i64, some .i64, some .u64, some .u64, some .u64, some .u64, some .u64, some .u64, some .u64, some .u64] 3 true := EqTy.struct (kss := [[some .i64], [some .i64], [some .u64], [none], [some .i64], [some .i64], [some .i64], [some .i64], [some .u64, some .u64, some .u64, some .u64, some .u64, some .u64, some .u64, some .u64]]) (dp := 2) Tryz.underlying35 (by kernel_rfl) (EqFs.cons (by decide) rfl eqt3 (by decide) (EqFs.cons (by decide) rfl eqt3 (by decide) (EqFs.cons (by decide) rfl eqt22 (by decide) (EqFs.cons (by decide) rfl eqt4 (by decide) (EqFs.cons (by decide) rfl eqt3 (by decide) (EqFs.cons (by decide) rfl eqt3 (by decide) (EqFs.cons (by decide) rfl eqt3 (by decide) (EqFs.cons (by decide) rfl eqt3 (by decide) (EqFs.cons (by decide) rfl eqt33 (by decide) EqFs.nil))))))))) ⟨by kernel_rfl⟩
instance eqt274 : EqTy Tryz.prog 274 [some .i64, some .i64] 2 true := EqTy.struct (kss := [[some .i64], [some .i64]]) (dp := 1) Tryz.underlying274 (by kernel_rfl) (EqFs.cons (by decide) rfl eqt3 (by decide) (EqFs.cons (by decide) rfl eqt3 (by decide) EqFs.nil)) ⟨by kernel_rfl⟩
instance eqt276 : EqTy Tryz.prog 276 [none, none, some .i64] 2 true := EqTy.struct (kss := [[none], [none], [some .i64]]) (dp := 1) Tryz.underlying276 (by kernel_rfl) (EqFs.cons (by decide) rfl eqt4 (by decide) (EqFs.cons (by decide) rfl eqt4 (by decide) (EqFs.cons (by decide) rfl eqt3 (by decide) EqFs.nil))) ⟨by kernel_rfl⟩
end Go.Proofs.YtipncceiekalfaaGreat
end
section
set_option linter.unusedVariables false
set_option linter.unusedSimpArgs false
set_option linter.unusedSectionVars false
namespace Go.Proofs.YtipncceiekalfaaGreat
open Go.SL
theorem thr_kind (t : ThrM) : KindV [some .i64, some .i64, some .u64, none, some .i64, some .i64, some .i64, some .i64, some .u64, some .u64, some .u64, some .u64, some .u64, some .u64, some .u64, some .u64] t.cells :=
  kind_i (kind_i (kind_i (kind_b (kind_i (kind_i (kind_i (kind_i (kind_i (kind_i (kind_i (kind_i (kind_i (kind_i (kind_i (kind_i trivial)))))))))))))))
theorem tr_tWithin (n a b : Int) : TrR Tryz.prog 165 [.int .i64 n, .int .i64 a, .int .i64 b] ([]) (.bool (decide (n ≥ a ∧ n ≤ b))) := by
 refine Tr.enter Tryz.func165 rfl Tryz.ntmps165 rfl (fun W F => ?_)
 refine Wp.app ?_
 refine zq [3,4,1,2,5,3,4,0,0,43,0] ?_
 refine Ops.pvc rfl rfl (fun hg => pv_move rfl) rfl ?_
 refine Ops.pvc rfl rfl (fun hg => Pv.setE (t := 11) rfl (cv_pos hg) (pv_move rfl)) rfl ?_
 refine Ops.pvc rfl rfl (fun hg => Pv.setE (t := 11) rfl (cv_pos hg) (Pv.setE (t := 12) rfl (cv_pos hg) (pv_leq rfl rfl))) rfl ?_
 refine zq [46,1,2,5,10] ?_
 exact zr ⟨rfl, rfl⟩
theorem tr_tStill (t : ThrM) (s : Int) : TrR Tryz.prog 131 [t.v, .int .i64 s] ([]) ((stillT t s).v) := by
 refine Tr.enter Tryz.func131 rfl Tryz.ntmps131 rfl (fun W F => ?_)
 refine Wp.app ?_
 refine Wr ?_
 refine zB fun b1 => ?_
 refine zA fun b2 => ?_
 refine zq [2,5,3,4,0,6,25,6,25,6,25,6,25,2,5,3,4,31,14,2,5,10] ?_
 exact Ends.ret (res_one rfl (rv_cellK [_, _, _, _, _, _, _, _, _, _, _, _, _, _, _, _] rfl rfl rfl ⟨rfl, rfl, rfl, rfl, rfl, rfl, rfl, rfl, rfl, rfl, rfl, rfl, rfl, rfl, rfl, rfl, trivial⟩)) ⟨rfl, rfl⟩
theorem tr_tIdle (t : ThrM) : TrR Tryz.prog 238 [t.v] ([]) (.bool (decide (idleT t))) := by
 refine Tr.enter Tryz.func238 rfl Tryz.ntmps238 rfl (fun W F => ?_)
 refine Wp.app ?_
 refine Wr ?_
 refine zB fun b1 => ?_
 refine zq [1,2,5,3,4,6,8,22,0] ?_
 refine Ops.pvcn rfl rfl (fun hg => pv_fieldAddr0 rfl rfl) rfl ?_
 refine Ops.pvcn rfl rfl (fun hg => Pv.setE (t := 7) rfl (cv_pos hg) (pv_load rfl rfl rfl)) rfl ?_
 refine Ops.pvcn rfl rfl (fun hg => Pv.setE (t := 7) rfl (cv_pos hg) (Pv.setE (t := 8) rfl (cv_pos hg) (pv_eql rfl rfl))) rfl ?_
 refine zq [47,1,2,5,10] ?_
 exact zr ⟨rfl, rfl⟩
theorem tr_tPlain (t : ThrM) : TrR Tryz.prog 166 [t.v] ([]) ((plainT t).v) := by
 refine Tr.enter Tryz.func166 rfl Tryz.ntmps166 rfl (fun W F => ?_)
 refine Wp.app ?_
 refine Wr ?_
 refine zB fun b1 => ?_
 refine zA fun b2 => ?_
 refine zq [2,5,3,3,4,6,8,2,5,20,3,4,22,1,2,5] ?_
 refine Wp.cond_dect rfl (fun h1 => ?_) (fun h1 => ?_)
 ·
  refine zq [3,4,31,14,2,5,10,15,12] ?_
  have he : plainT t = t := if_pos (by assumption)
  exact Ends.ret (res_one rfl (rv_cellK [_, _, _, _, _, _, _, _, _, _, _, _, _, _, _, _] rfl rfl rfl ⟨rfl, rfl, rfl, rfl, rfl, rfl, rfl, rfl, rfl, rfl, rfl, rfl, rfl, rfl, rfl, rfl, trivial⟩)) ⟨by rw [he], rfl⟩
 refine zq [3,3,4,22,1,2,5] ?_
 refine Wp.cond_dect rfl (fun h2 => ?_) (fun h2 => ?_)
 ·
  refine zq [11,5,18,3,4,6,8,1,2,5,3,4,31,6,8] ?_
  refine zC (tr_tStill t t.st) ?_
  refine zq [14,2,5,3,4,0,6,25,2,5,3,4,31,14,2,5,10,15,12] ?_
  have he : plainT t = { stillT t t.st with on := t.on } := (if_neg (by assumption)).trans (if_pos (by first | (left; assumption) | (right; assumption)))
  exact Ends.ret (res_one rfl (rv_cellK [_, _, _, _, _, _, _, _, _, _, _, _, _, _, _, _] rfl rfl rfl ⟨rfl, rfl, rfl, rfl, rfl, rfl, rfl, rfl, rfl, rfl, rfl, rfl, rfl, rfl, rfl, rfl, trivial⟩)) ⟨by rw [he], rfl⟩
 refine zq [4,22,1,2,5] ?_
 refine Wp.cond_dect rfl (fun h3 => ?_) (fun h3 => ?_)
 ·
  refine zq [3,4,6,8,1,2,5,3,4,31,6,8] ?_
  refine zC (tr_tStill t t.st) ?_
  refine zq [14,2,5,3,4,0,6,25,2,5,3,4,31,14,2,5,10,15,12] ?_
  have he : plainT t = { stillT t t.st with on := t.on } := (if_neg (by assumption)).trans (if_pos (by first | (left; assumption) | (right; assumption)))
  exact Ends.ret (res_one rfl (rv_cellK [_, _, _, _, _, _, _, _, _, _, _, _, _, _, _, _] rfl rfl rfl ⟨rfl, rfl, rfl, rfl, rfl, rfl, rfl, rfl, rfl, rfl, rfl, rfl, rfl, rfl, rfl, rfl, trivial⟩)) ⟨by rw [he], rfl⟩
 refine zq [11,19,5,3,4,31,6,8] ?_
 refine zC (tr_tStill t t.st) ?_
 refine zq [14,2,5,10] ?_
 have he : plainT t = stillT t t.st := (if_neg (by assumption)).trans (if_neg (by rintro (h | h) <;> contradiction))
 exact Ends.ret (res_one rfl (rv_cellK [_, _, _, _, _, _, _, _, _, _, _, _, _, _, _, _] rfl rfl rfl ⟨rfl, rfl, rfl, rfl, rfl, rfl, rfl, rfl, rfl, rfl, rfl, rfl, rfl, rfl, rfl, rfl, trivial⟩)) ⟨by rw [he], rfl⟩
set_option maxHeartbeats 2000000 in
theorem tr_tCheck (t : ThrM) : TrR Tryz.prog 115 [t.v] ([]) (.int .i64 (chkT t)) := by
 refine Tr.enter Tryz.func115 rfl Tryz.ntmps115 rfl (fun W F => ?_)
 refine Wp.app ?_
 refine Wr ?_
 refine zB fun b1 => ?_
 refine zq [1,2,5,3,20,3,4,6,8] ?_
 refine zC (tr_tWithin t.st 0 5) ?_
 refine zq [55,1,2,5] ?_
 refine Wp.cond_dect rfl (fun h1 => ?_) (fun h1 => ?_)
 ·
  refine zq [3,4,1,2,5,10,15,12] ?_
  exact Ends.ret (res1 rfl rfl) ⟨by unfold chkT; simp_all; try omega, rfl⟩
 refine zq [3,3] ?_
 refine AnyH.start [(b1, .cells t.cells.toArray 35)] 5 rfl ?_
 refine zd [0,13,2,13] ?_
 refine AnyH.one 1 (by kernel_rfl) ?_
 refine Turn.ef rfl rfl (ef_callr (tr_tPlain t) rfl rfl) ?_ ?_
 ·
  rintro _ _ ⟨rfl, rfl⟩; infer_instance
 rintro _ _ ⟨rfl, rfl⟩
 refine Tk 3 rfl rfl (pv_neqF (plainT t = t) (xs := (plainT t).cells) (ys := t.cells) rfl rfl (thr_kind _) (thr_kind _) ThrM.ext_cells (by decide) (by kernel_rfl)) rfl ?_
 refine zd [4,5] ?_
 refine AnyH.done (by kernel_rfl) ?_
 refine Ends.seq ?_
 refine Wp.cond_dect rfl (fun h2 => ?_) (fun h2 => ?_)
 ·
  refine zq [11,5,18,3,4,1,2,5,10,15,12] ?_
  exact Ends.ret (res1 rfl rfl) ⟨by unfold chkT; simp_all; try omega, rfl⟩
 refine zq [3,4,6,8] ?_
 refine zC (tr_tWithin t.on 0 63) ?_
 refine zq [55,1,2,5] ?_
 refine Wp.cond_dect rfl (fun h3 => ?_) (fun h3 => ?_)
 ·
  refine zq [11,5,18,3,4,1,2,5,10,15,12] ?_
  exact Ends.ret (res1 rfl rfl) ⟨by unfold chkT; simp_all; try omega, rfl⟩
 refine zq [3,4,6,8] ?_
 refine Ops.pv (pv_shr (r := t.badge.fdiv (2 ^ 28)) rfl rfl (by omega) rfl) rfl ?_
 refine zq [27,1,2,5] ?_
 refine Wp.cond_dect rfl (fun h4 => ?_) (fun h4 => ?_)
 ·
  refine zq [11,5,18,3,4,1,2,5,10,15,12] ?_
  exact Ends.ret (res1 rfl rfl) ⟨by unfold chkT; simp_all; try omega, rfl⟩
 refine zq [4,6,8] ?_
 refine zC (tr_tWithin t.caller (-1) 63) ?_
 refine zq [55,1,2,5] ?_
 refine Wp.cond_dect rfl (fun h5 => ?_) (fun h5 => ?_)
 ·
  refine zq [3,4,1,2,5,10,15,12] ?_
  exact Ends.ret (res1 rfl rfl) ⟨by unfold chkT; simp_all; try omega, rfl⟩
 refine zq [3,3,4,6,8] ?_
 refine zC (tr_tWithin t.lvl 0 7) ?_
 refine zq [55,1,2,5] ?_
 refine Wp.cond_dect rfl (fun h6 => ?_) (fun h6 => ?_)
 ·
  refine zq [11,5,18,3,4,1,2,5,10,15,12] ?_
  exact Ends.ret (res1 rfl rfl) ⟨by unfold chkT; simp_all; try omega, rfl⟩
 refine zq [3,4,6,8] ?_
 refine zC (tr_tWithin t.dom 0 3) ?_
 refine zq [55,1,2,5] ?_
 refine Wp.cond_dect rfl (fun h7 => ?_) (fun h7 => ?_)
 ·
  refine zq [11,5,18,3,4,1,2,5,10,15,12] ?_
  exact Ends.ret (res1 rfl rfl) ⟨by unfold chkT; simp_all; try omega, rfl⟩
 refine zq [4,6,8] ?_
 refine zC (tr_tWithin t.pc 0 4095) ?_
 refine zq [55,1,2,5] ?_
 refine Wp.cond_dect rfl (fun h8 => ?_) (fun h8 => ?_)
 ·
  refine zq [3,4,1,2,5,10,15,12] ?_
  exact Ends.ret (res1 rfl rfl) ⟨by unfold chkT; simp_all; try omega, rfl⟩
 refine zq [11,19,5,3,4,1,2,5,10] ?_
 exact Ends.ret (res1 rfl rfl) ⟨by unfold chkT; simp_all; try omega, rfl⟩
set_option maxHeartbeats 2000000 in
theorem tr_tNew (lvl dom : Int) : TrR Tryz.prog 70 [.int .i64 lvl, .int .i64 dom] ([]) (.tuple #[(newTM lvl dom).1.v, .int .i64 (newTM lvl dom).2]) := by
 refine Tr.enter Tryz.func70 rfl Tryz.ntmps70 rfl (fun W F => ?_)
 refine Wp.app ?_
 refine Wr ?_
 refine zA fun b1 => ?_
 refine zq [1,2,5,3,4,0,0,23] ?_
 refine zA fun b2 => ?_
 refine zq [14,2,5,3,3,4,31] ?_
 refine zC (tr_tCheck (newT lvl dom)) ?_
 refine zq [27,2,5] ?_
 refine Wp.cond_dect rfl (fun h1 => ?_) (fun h1 => ?_)
 ·
  refine zq [3,4,23,14,1,2,5,10,12] ?_
  have he : newTM lvl dom = (.zero, 1) := if_neg (by assumption)
  exact Ends.ret (res_list (rs := [.cell 4 35, .tmp 5]) rfl ⟨_, _, rfl, rv_cellK [_, _, _, _, _, _, _, _, _, _, _, _, _, _, _, _] rfl rfl rfl ⟨rfl, rfl, rfl, rfl, rfl, rfl, rfl, rfl, rfl, rfl, rfl, rfl, rfl, rfl, rfl, rfl, trivial⟩, ⟨_, _, rfl, rv_tmp rfl, rfl⟩⟩ rfl) ⟨by rw [he], rfl⟩
 refine zq [11,5,3,4,31,14,1,2,5,10] ?_
 have he : newTM lvl dom = (newT lvl dom, 0) := if_pos (by first | assumption | omega)
 exact Ends.ret (res_list (rs := [.cell 4 35, .tmp 5]) rfl ⟨_, _, rfl, rv_cellK [_, _, _, _, _, _, _, _, _, _, _, _, _, _, _, _] rfl rfl rfl ⟨rfl, rfl, rfl, rfl, rfl, rfl, rfl, rfl, rfl, rfl, rfl, rfl, rfl, rfl, rfl, rfl, trivial⟩, ⟨_, _, rfl, rv_tmp rfl, rfl⟩⟩ rfl) ⟨by rw [he]; rfl, rfl⟩
set_option maxHeartbeats 4000000 in
theorem tr_tStart (t : ThrM) : TrR Tryz.prog 71 [t.v] ([]) (.tuple #[(startTM t).1.v, .int .i64 (startTM t).2]) := by
 refine Tr.enter Tryz.func71 rfl Tryz.ntmps71 rfl (fun W F => ?_)
 refine Wp.app ?_
 refine Wr ?_
 refine zB fun b1 => ?_
 refine zA fun b2 => ?_
 refine zq [1,2,5,3,4,31] ?_
 refine zC (tr_tCheck t) ?_
 refine zq [1,2,5,3,3,4,0,22,0] ?_
 refine Ops.pvc rfl rfl (fun hg => pv_fieldAddr0 rfl rfl) rfl ?_
 refine Ops.pvc rfl rfl (fun hg => Pv.setE (t := 10) rfl (cv_pos hg) (pv_load rfl rfl rfl)) rfl ?_
 refine Ops.pvc rfl rfl (fun hg => Pv.setE (t := 10) rfl (cv_pos hg) (Pv.setE (t := 11) rfl (cv_pos hg) (pv_neq rfl rfl))) rfl ?_
 refine zq [46,2,5] ?_
 refine Wp.cond_dect rfl (fun h1 => ?_) (fun h1 => ?_)
 ·
  refine zq [4,1,2,5,3,3,4,0,27,2,5] ?_
  refine Wp.cond_dect rfl (fun h2 => ?_) (fun h2 => ?_)
  ·
   refine zq [3,4,23,0,14,1,2,5,10,12] ?_
   exact Ends.ret (res_list (rs := [.cell 2 35, .tmp 3]) rfl ⟨_, _, rfl, rv_cellK [_, _, _, _, _, _, _, _, _, _, _, _, _, _, _, _] rfl rfl rfl ⟨rfl, rfl, rfl, rfl, rfl, rfl, rfl, rfl, rfl, rfl, rfl, rfl, rfl, rfl, rfl, rfl, trivial⟩, ⟨_, _, rfl, rv_tmp rfl, rfl⟩⟩ rfl) ⟨by simp_all [startTM, startE], rfl⟩
  refine zq [11,5,3,4,31] ?_
  refine zC (tr_tStill t 1) ?_
  refine zq [14,1,2,5,10] ?_
  exact Ends.ret (res_list (rs := [.cell 2 35, .tmp 3]) rfl ⟨_, _, rfl, rv_cellK [_, _, _, _, _, _, _, _, _, _, _, _, _, _, _, _] rfl rfl rfl ⟨rfl, rfl, rfl, rfl, rfl, rfl, rfl, rfl, rfl, rfl, rfl, rfl, rfl, rfl, rfl, rfl, trivial⟩, ⟨_, _, rfl, rv_tmp rfl, rfl⟩⟩ rfl) ⟨by simp_all [startTM, startE], rfl⟩
 refine zq [11,5,3,3,4,0,27,2,5] ?_
 refine Wp.cond_dect rfl (fun h3 => ?_) (fun h3 => ?_)
 ·
  refine zq [3,4,23,0,14,1,2,5,10,12] ?_
  exact Ends.ret (res_list (rs := [.cell 2 35, .tmp 3]) rfl ⟨_, _, rfl, rv_cellK [_, _, _, _, _, _, _, _, _, _, _, _, _, _, _, _] rfl rfl rfl ⟨rfl, rfl, rfl, rfl, rfl, rfl, rfl, rfl, rfl, rfl, rfl, rfl, rfl, rfl, rfl, rfl, trivial⟩, ⟨_, _, rfl, rv_tmp rfl, rfl⟩⟩ rfl) ⟨by simp_all [startTM, startE], rfl⟩
 refine zq [11,5,3,4,31] ?_
 refine zC (tr_tStill t 1) ?_
 refine zq [14,1,2,5,10] ?_
 exact Ends.ret (res_list (rs := [.cell 2 35, .tmp 3]) rfl ⟨_, _, rfl, rv_cellK [_, _, _, _, _, _, _, _, _, _, _, _, _, _, _, _] rfl rfl rfl ⟨rfl, rfl, rfl, rfl, rfl, rfl, rfl, rfl, rfl, rfl, rfl, rfl, rfl, rfl, rfl, rfl, trivial⟩, ⟨_, _, rfl, rv_tmp rfl, rfl⟩⟩ rfl) ⟨by simp_all [startTM, startE], rfl⟩
theorem tr_tStop (t : ThrM) : TrR Tryz.prog 84 [t.v] ([]) ((stopT t).v) := by
 refine Tr.enter Tryz.func84 rfl Tryz.ntmps84 rfl (fun W F => ?_)
 refine Wp.app ?_
 refine Wr ?_
 refine zB fun b1 => ?_
 refine zA fun b2 => ?_
 refine zq [2,5,3,4,31] ?_
 refine zC (tr_tStill t 0) ?_
 refine zq [14,2,5,10] ?_
 exact Ends.ret (res_one rfl (rv_cellK [_, _, _, _, _, _, _, _, _, _, _, _, _, _, _, _] rfl rfl rfl ⟨rfl, rfl, rfl, rfl, rfl, rfl, rfl, rfl, rfl, rfl, rfl, rfl, rfl, rfl, rfl, rfl, trivial⟩)) ⟨rfl, rfl⟩
set_option maxHeartbeats 4000000 in
theorem tr_tWake (t : ThrM) (r : RegsM) : TrR Tryz.prog 215 [t.v, r.v] ([]) (.tuple #[(wakeTM t r).1.v, .int .i64 (wakeTM t r).2]) := by
 refine Tr.enter Tryz.func215 rfl Tryz.ntmps215 rfl (fun W F => ?_)
 refine Wp.app ?_
 refine Wr ?_
 refine zB fun b1 => ?_
 refine zB fun b2 => ?_
 refine zA fun b3 => ?_
 refine zq [1,2,5,3,4,31] ?_
 refine zC (tr_tCheck t) ?_
 refine zq [1,2,5,3,3,4,0,22,0] ?_
 refine Ops.split (t := 11) rfl (fun h1 => ?_) (fun h1 => ?_)
 ·
  refine Ops.pvg ⟨_, _, rfl, rfl, rfl⟩ (pv_loadK [_, _, _, _, _, _, _, _, _, _, _, _, _, _, _, _] rfl rfl rfl ⟨rfl, rfl, rfl, rfl, rfl, rfl, rfl, rfl, rfl, rfl, rfl, rfl, rfl, rfl, rfl, rfl, trivial⟩) rfl ?_
  refine Ops.efg ⟨_, _, rfl, rfl, rfl⟩ (ef_callr (tr_tIdle t) rfl rfl) ?_
  rintro _ _ ⟨rfl, rfl⟩
  refine zq [24,2,5] ?_
  refine Wp.cond_dect rfl (fun h2 => ?_) (fun h2 => ?_)
  ·
   refine zq [4,1,2,5,3,3,4,0,27,2,5] ?_
   refine Wp.cond_dect rfl (fun h3 => ?_) (fun h3 => ?_)
   ·
    refine zq [3,4,23,0,14,1,2,5,10,12] ?_
    exact Ends.ret (res_list (rs := [.cell 4 35, .tmp 5]) rfl ⟨_, _, rfl, rv_cellK [_, _, _, _, _, _, _, _, _, _, _, _, _, _, _, _] rfl rfl rfl ⟨rfl, rfl, rfl, rfl, rfl, rfl, rfl, rfl, rfl, rfl, rfl, rfl, rfl, rfl, rfl, rfl, trivial⟩, ⟨_, _, rfl, rv_tmp rfl, rfl⟩⟩ rfl) ⟨by simp_all [wakeTM, wakeE], rfl⟩
   refine zq [11,5,3,4,31] ?_
   refine zC (tr_tStill t 1) ?_
   refine zq [14,2,5,3,4,33,6,14,2,5,3,4,31,14,1,2,5,10] ?_
   exact Ends.ret (res_list (rs := [.cell 4 35, .tmp 5]) rfl ⟨_, _, rfl, rv_cellK [_, _, _, _, _, _, _, _, _, _, _, _, _, _, _, _] rfl rfl rfl ⟨rfl, rfl, rfl, rfl, rfl, rfl, rfl, rfl, rfl, rfl, rfl, rfl, rfl, rfl, rfl, rfl, trivial⟩, ⟨_, _, rfl, rv_tmp rfl, rfl⟩⟩ rfl) ⟨by simp_all [wakeTM, wakeE], rfl⟩
  refine zq [11,5,3,3,4,0,27,2,5] ?_
  refine Wp.cond_dect rfl (fun h4 => ?_) (fun h4 => ?_)
  ·
   refine zq [3,4,23,0,14,1,2,5,10,12] ?_
   exact Ends.ret (res_list (rs := [.cell 4 35, .tmp 5]) rfl ⟨_, _, rfl, rv_cellK [_, _, _, _, _, _, _, _, _, _, _, _, _, _, _, _] rfl rfl rfl ⟨rfl, rfl, rfl, rfl, rfl, rfl, rfl, rfl, rfl, rfl, rfl, rfl, rfl, rfl, rfl, rfl, trivial⟩, ⟨_, _, rfl, rv_tmp rfl, rfl⟩⟩ rfl) ⟨by simp_all [wakeTM, wakeE], rfl⟩
  refine zq [11,5,3,4,31] ?_
  refine zC (tr_tStill t 1) ?_
  refine zq [14,2,5,3,4,33,6,14,2,5,3,4,31,14,1,2,5,10] ?_
  exact Ends.ret (res_list (rs := [.cell 4 35, .tmp 5]) rfl ⟨_, _, rfl, rv_cellK [_, _, _, _, _, _, _, _, _, _, _, _, _, _, _, _] rfl rfl rfl ⟨rfl, rfl, rfl, rfl, rfl, rfl, rfl, rfl, rfl, rfl, rfl, rfl, rfl, rfl, rfl, rfl, trivial⟩, ⟨_, _, rfl, rv_tmp rfl, rfl⟩⟩ rfl) ⟨by simp_all [wakeTM, wakeE], rfl⟩
 refine zq [13,13,26,2,5,17,11,5,3,3,4,0,27,2,5] ?_
 refine Wp.cond_dect rfl (fun h5 => ?_) (fun h5 => ?_)
 ·
  refine zq [3,4,23,0,14,1,2,5,10,12] ?_
  exact Ends.ret (res_list (rs := [.cell 4 35, .tmp 5]) rfl ⟨_, _, rfl, rv_cellK [_, _, _, _, _, _, _, _, _, _, _, _, _, _, _, _] rfl rfl rfl ⟨rfl, rfl, rfl, rfl, rfl, rfl, rfl, rfl, rfl, rfl, rfl, rfl, rfl, rfl, rfl, rfl, trivial⟩, ⟨_, _, rfl, rv_tmp rfl, rfl⟩⟩ rfl) ⟨by simp_all [wakeTM, wakeE], rfl⟩
 refine zq [11,5,3,4,31] ?_
 refine zC (tr_tStill t 1) ?_
 refine zq [14,2,5,3,4,33,6,14,2,5,3,4,31,14,1,2,5,10] ?_
 exact Ends.ret (res_list (rs := [.cell 4 35, .tmp 5]) rfl ⟨_, _, rfl, rv_cellK [_, _, _, _, _, _, _, _, _, _, _, _, _, _, _, _] rfl rfl rfl ⟨rfl, rfl, rfl, rfl, rfl, rfl, rfl, rfl, rfl, rfl, rfl, rfl, rfl, rfl, rfl, rfl, trivial⟩, ⟨_, _, rfl, rv_tmp rfl, rfl⟩⟩ rfl) ⟨by simp_all [wakeTM, wakeE], rfl⟩
set_option maxHeartbeats 8000000 in
theorem tr_tBlock (t : ThrM) (s on bd : Int) (cl : Bool) : TrR Tryz.prog 218 [t.v, .int .i64 s, .int .i64 on, .int .u64 bd, .bool cl] ([]) (.tuple #[(blockTM t s on bd cl).1.v, .int .i64 (blockTM t s on bd cl).2]) := by
 refine Tr.enter Tryz.func218 rfl Tryz.ntmps218 rfl (fun W F => ?_)
 refine Wp.app ?_
 refine Wr ?_
 refine zB fun b1 => ?_
 refine zA fun b2 => ?_
 refine zq [1,2,5,3,4,31] ?_
 refine zC (tr_tCheck t) ?_
 refine zq [1,2,5,3,3,4,0,22,0] ?_
 refine Ops.pvc rfl rfl (fun hg => pv_fieldAddr0 rfl rfl) rfl ?_
 refine Ops.pvc rfl rfl (fun hg => Pv.setE (t := 18) rfl (cv_pos hg) (pv_load rfl rfl rfl)) rfl ?_
 refine Ops.pvc rfl rfl (fun hg => Pv.setE (t := 18) rfl (cv_pos hg) (Pv.setE (t := 19) rfl (cv_pos hg) (pv_neq rfl rfl))) rfl ?_
 refine zq [46,2,5] ?_
 refine Wp.cond_dect rfl (fun h1 => ?_) (fun h1 => ?_)
 ·
  refine zq [4,1,2,5,3,3,4,0,27,2,5] ?_
  refine Wp.cond_dect rfl (fun h2 => ?_) (fun h2 => ?_)
  ·
   refine zq [3,4,23,0,14,1,2,5,10,12] ?_
   exact Ends.ret (res_list (rs := [.cell 10 35, .tmp 11]) rfl ⟨_, _, rfl, rv_cellK [_, _, _, _, _, _, _, _, _, _, _, _, _, _, _, _] rfl rfl rfl ⟨rfl, rfl, rfl, rfl, rfl, rfl, rfl, rfl, rfl, rfl, rfl, rfl, rfl, rfl, rfl, rfl, trivial⟩, ⟨_, _, rfl, rv_tmp rfl, rfl⟩⟩ rfl) ⟨by simp_all [blockTM, blockE, blkT], rfl⟩
  refine zq [11,5,3,4,0,0,0,0,6,25,6,25,6,25,6,25,2,5,3,3,4,31] ?_
  refine zC (tr_tCheck (blkT t s on bd cl)) ?_
  refine zq [1,2,5,3,4,31] ?_
  refine zC (tr_tIdle (blkT t s on bd cl)) ?_
  refine On ?_
  refine Wp.cond_dect rfl (fun h3 => ?_) (fun h3 => ?_)
  ·
   refine zq [4,1,2,5,3,3,4,0,27,2,5] ?_
   refine Wp.cond_dect rfl (fun h4 => ?_) (fun h4 => ?_)
   ·
    refine zq [3,4,23,0,14,1,2,5,10,12] ?_
    exact Ends.ret (res_list (rs := [.cell 10 35, .tmp 11]) rfl ⟨_, _, rfl, rv_cellK [_, _, _, _, _, _, _, _, _, _, _, _, _, _, _, _] rfl rfl rfl ⟨rfl, rfl, rfl, rfl, rfl, rfl, rfl, rfl, rfl, rfl, rfl, rfl, rfl, rfl, rfl, rfl, trivial⟩, ⟨_, _, rfl, rv_tmp rfl, rfl⟩⟩ rfl) ⟨by simp_all [blockTM, blockE, blkT], rfl⟩
   refine zq [11,5,3,4,31,14,1,2,5,10] ?_
   exact Ends.ret (res_list (rs := [.cell 10 35, .tmp 11]) rfl ⟨_, _, rfl, rv_cellK [_, _, _, _, _, _, _, _, _, _, _, _, _, _, _, _] rfl rfl rfl ⟨rfl, rfl, rfl, rfl, rfl, rfl, rfl, rfl, rfl, rfl, rfl, rfl, rfl, rfl, rfl, rfl, trivial⟩, ⟨_, _, rfl, rv_tmp rfl, rfl⟩⟩ rfl) ⟨by simp_all [blockTM, blockE, blkT], rfl⟩
  refine zq [11,5,3,3,4,0,27,2,5] ?_
  refine Wp.cond_dect rfl (fun h5 => ?_) (fun h5 => ?_)
  ·
   refine zq [3,4,23,0,14,1,2,5,10,12] ?_
   exact Ends.ret (res_list (rs := [.cell 10 35, .tmp 11]) rfl ⟨_, _, rfl, rv_cellK [_, _, _, _, _, _, _, _, _, _, _, _, _, _, _, _] rfl rfl rfl ⟨rfl, rfl, rfl, rfl, rfl, rfl, rfl, rfl, rfl, rfl, rfl, rfl, rfl, rfl, rfl, rfl, trivial⟩, ⟨_, _, rfl, rv_tmp rfl, rfl⟩⟩ rfl) ⟨by simp_all [blockTM, blockE, blkT], rfl⟩
  refine zq [11,5,3,4,31,14,1,2,5,10] ?_
  exact Ends.ret (res_list (rs := [.cell 10 35, .tmp 11]) rfl ⟨_, _, rfl, rv_cellK [_, _, _, _, _, _, _, _, _, _, _, _, _, _, _, _] rfl rfl rfl ⟨rfl, rfl, rfl, rfl, rfl, rfl, rfl, rfl, rfl, rfl, rfl, rfl, rfl, rfl, rfl, rfl, trivial⟩, ⟨_, _, rfl, rv_tmp rfl, rfl⟩⟩ rfl) ⟨by simp_all [blockTM, blockE, blkT], rfl⟩
 refine zq [11,5,3,3,4,0,27,2,5] ?_
 refine Wp.cond_dect rfl (fun h6 => ?_) (fun h6 => ?_)
 ·
  refine zq [3,4,23,0,14,1,2,5,10,12] ?_
  exact Ends.ret (res_list (rs := [.cell 10 35, .tmp 11]) rfl ⟨_, _, rfl, rv_cellK [_, _, _, _, _, _, _, _, _, _, _, _, _, _, _, _] rfl rfl rfl ⟨rfl, rfl, rfl, rfl, rfl, rfl, rfl, rfl, rfl, rfl, rfl, rfl, rfl, rfl, rfl, rfl, trivial⟩, ⟨_, _, rfl, rv_tmp rfl, rfl⟩⟩ rfl) ⟨by simp_all [blockTM, blockE, blkT], rfl⟩
 refine zq [11,5,3,4,0,0,0,0,6,25,6,25,6,25,6,25,2,5,3,3,4,31] ?_
 refine zC (tr_tCheck (blkT t s on bd cl)) ?_
 refine zq [1,2,5,3,4,31] ?_
 refine zC (tr_tIdle (blkT t s on bd cl)) ?_
 refine On ?_
 refine Wp.cond_dect rfl (fun h7 => ?_) (fun h7 => ?_)
 ·
  refine zq [4,1,2,5,3,3,4,0,27,2,5] ?_
  refine Wp.cond_dect rfl (fun h8 => ?_) (fun h8 => ?_)
  ·
   refine zq [3,4,23,0,14,1,2,5,10,12] ?_
   exact Ends.ret (res_list (rs := [.cell 10 35, .tmp 11]) rfl ⟨_, _, rfl, rv_cellK [_, _, _, _, _, _, _, _, _, _, _, _, _, _, _, _] rfl rfl rfl ⟨rfl, rfl, rfl, rfl, rfl, rfl, rfl, rfl, rfl, rfl, rfl, rfl, rfl, rfl, rfl, rfl, trivial⟩, ⟨_, _, rfl, rv_tmp rfl, rfl⟩⟩ rfl) ⟨by simp_all [blockTM, blockE, blkT], rfl⟩
  refine zq [11,5,3,4,31,14,1,2,5,10] ?_
  exact Ends.ret (res_list (rs := [.cell 10 35, .tmp 11]) rfl ⟨_, _, rfl, rv_cellK [_, _, _, _, _, _, _, _, _, _, _, _, _, _, _, _] rfl rfl rfl ⟨rfl, rfl, rfl, rfl, rfl, rfl, rfl, rfl, rfl, rfl, rfl, rfl, rfl, rfl, rfl, rfl, trivial⟩, ⟨_, _, rfl, rv_tmp rfl, rfl⟩⟩ rfl) ⟨by simp_all [blockTM, blockE, blkT], rfl⟩
 refine zq [11,5,3,3,4,0,27,2,5] ?_
 refine Wp.cond_dect rfl (fun h9 => ?_) (fun h9 => ?_)
 ·
  refine zq [3,4,23,0,14,1,2,5,10,12] ?_
  exact Ends.ret (res_list (rs := [.cell 10 35, .tmp 11]) rfl ⟨_, _, rfl, rv_cellK [_, _, _, _, _, _, _, _, _, _, _, _, _, _, _, _] rfl rfl rfl ⟨rfl, rfl, rfl, rfl, rfl, rfl, rfl, rfl, rfl, rfl, rfl, rfl, rfl, rfl, rfl, rfl, trivial⟩, ⟨_, _, rfl, rv_tmp rfl, rfl⟩⟩ rfl) ⟨by simp_all [blockTM, blockE, blkT], rfl⟩
 refine zq [11,5,3,4,31,14,1,2,5,10] ?_
 exact Ends.ret (res_list (rs := [.cell 10 35, .tmp 11]) rfl ⟨_, _, rfl, rv_cellK [_, _, _, _, _, _, _, _, _, _, _, _, _, _, _, _] rfl rfl rfl ⟨rfl, rfl, rfl, rfl, rfl, rfl, rfl, rfl, rfl, rfl, rfl, rfl, rfl, rfl, rfl, rfl, trivial⟩, ⟨_, _, rfl, rv_tmp rfl, rfl⟩⟩ rfl) ⟨by simp_all [blockTM, blockE, blkT], rfl⟩
end Go.Proofs.YtipncceiekalfaaGreat
end
section
set_option linter.unusedVariables false
set_option linter.unusedSimpArgs false
set_option linter.unusedSectionVars false
namespace Go.Proofs.YtipncceiekalfaaGreat
open Go.SL
theorem or8 {lab len : Nat} (h : len < 8) : (lab * 16 + len) ||| 8 = lab * 16 + len + 8 := by
 have h1 : lab * 16 + len = lab * 16 ||| len := by
  have := Nat.two_pow_add_eq_or_of_lt (b := len) (i := 3) h (lab * 2)
  rw [show (2 : Nat) ^ 3 * (lab * 2) = lab * 16 by omega] at this; exact this
 have h2 : lab * 16 ||| 8 = lab * 16 + 8 := by
  have := Nat.two_pow_add_eq_or_of_lt (b := 8) (i := 4) (by omega) lab
  rw [show (2 : Nat) ^ 4 * lab = lab * 16 by omega] at this; exact this.symm
 have h3 : (lab * 16 + 8) ||| len = lab * 16 + 8 + len := by
  have := Nat.two_pow_add_eq_or_of_lt (b := len) (i := 3) h (lab * 2 + 1)
  rw [show (2 : Nat) ^ 3 * (lab * 2 + 1) = lab * 16 + 8 by omega] at this; exact this.symm
 rw [h1, Nat.or_assoc, Nat.or_comm len 8, ← Nat.or_assoc, h2, h3]
 omega
def gPackE (lab len : Nat) : Int := if 4 < len then 1 else if lab < 65536 then 0 else 10
def gPackV (lab len : Nat) (cap : Bool) : Nat := if gPackE lab len = 0 then packInf lab len cap else 0
theorem inf_yes {w : Nat} (h : gPackE (w / 16 % 65536) (w % 8) = 0 ∧ gPackV (w / 16 % 65536) (w % 8) (decide (w / 8 % 2 = 1)) = w) : infE w = 0 := by
 obtain ⟨h1, h2⟩ := h
 unfold gPackV packInf at h2
 rw [if_pos h1] at h2
 unfold gPackE at h1
 unfold infE
 by_cases h4 : 4 < w % 8
 ·
  rw [if_pos h4] at h1; cases h1
 ·
  rw [if_pos]
  have := Nat.mod_lt (w / 16) (show 65536 > 0 by omega)
  by_cases hc : w / 8 % 2 = 1
  ·
   simp only [hc, decide_true, if_true] at h2; omega
  ·
   simp only [hc, decide_false, Bool.false_eq_true, if_false] at h2; omega
theorem inf_no {w : Nat} (h : infE w = 0) : gPackE (w / 16 % 65536) (w % 8) = 0 ∧ gPackV (w / 16 % 65536) (w % 8) (decide (w / 8 % 2 = 1)) = w := by
 unfold infE at h
 by_cases hc : w < 1048576 ∧ w % 8 ≤ 4
 ·
  have h1 : gPackE (w / 16 % 65536) (w % 8) = 0 := by
   unfold gPackE
   rw [if_neg (by omega), if_pos (by omega)]
  refine ⟨h1, ?_⟩
  unfold gPackV packInf
  rw [if_pos h1]
  by_cases hb : w / 8 % 2 = 1
  ·
   simp only [hb, decide_true, if_true]; omega
  ·
   simp only [hb, decide_false, Bool.false_eq_true, if_false]; omega
 ·
  rw [if_neg hc] at h; cases h
theorem infE_cases (w : Nat) : infE w = 0 ∨ infE w = 10 := by unfold infE; split <;> simp
end Go.Proofs.YtipncceiekalfaaGreat
end
section
set_option linter.unusedVariables false
set_option linter.unusedSimpArgs false
set_option linter.unusedSectionVars false
namespace Go.SL
section pvs
variable {P : Program} {W : World} {n : Nat} {D : List Deferred} {E : Env} {L : Hp} {d : Option Tmp} {ty : TypeId} {pos : String} {aft : Array Edge} {g : Option (Nat × Bool)} {T : TypeId} {x y z : Operand} {v u : Value}
theorem pv_sliceArr {b o m i j e k : Nat} {lo hi : Option Operand} (hx : ev E x = some (.pointer (some ⟨b, o, none⟩))) (hlo : evO E lo 0 i) (hhi : evO E hi m j) (h1 : i ≤ j) (h2 : j ≤ m) [ht : TyD P T (.array m e)] [hk : TyS P e k] :
    Pv P n D E L ⟨d, .slice T x lo hi none, ty, pos, aft, g⟩ (.slice (some (if m = i then ⟨b, o, none⟩ else ⟨b, o + i * k, none⟩)) (j - i) (m - i)) := by
  unfold Pv; intro A w hs _
  have e0 : (⟨b, o, none⟩ : Addr).add 0 = ⟨b, o, none⟩ := rfl
  cases lo with
  | none =>
    obtain rfl : i = 0 := hlo
    cases hi with
    | none =>
      obtain rfl : j = m := hhi
      simp [execOp, hs.ev hx, Instr.sliceAt, Instr.sureAddr, Instr.sliceBounds, TyD.run, TyS.run, addr_add, e0]
    | some o' =>
      obtain ⟨kk, ho⟩ := hhi
      have h3 : (0 : Int) ≤ (j : Int) ∧ (j : Int) ≤ (m : Int) := by omega
      simp [execOp, hs.ev hx, hs.ev ho, Instr.sliceAt, Instr.sureAddr, Instr.sliceBounds, Instr.sliceBound, asIntOf, TyD.run, TyS.run, h3, h2, addr_add, e0]
  | some o' =>
    obtain ⟨kk, ho⟩ := hlo
    cases hi with
    | none =>
      obtain rfl : j = m := hhi
      simp [execOp, hs.ev hx, hs.ev ho, Instr.sliceAt, Instr.sureAddr, Instr.sliceBounds, Instr.sliceBound, asIntOf, TyD.run, TyS.run, h1, addr_add]
    | some o'' =>
      obtain ⟨kk', ho'⟩ := hhi
      simp [execOp, hs.ev hx, hs.ev ho, hs.ev ho', Instr.sliceAt, Instr.sureAddr, Instr.sliceBounds, Instr.sliceBound, asIntOf, TyD.run, TyS.run, h1, h2, addr_add]
theorem pv_buildA {m e k : Nat} {zs cs : List Value} {parts : List (Nat × Operand)} {vs : List (Nat × Value)} (hp : evps E parts = some vs) [hz : TyZ P T (.agg zs.toArray)] [ht : TyD P T (.array m e)] [hk : TyS P e k] (hf : Instr.fill (fun i => some (i * k, k)) zs.toArray vs = some cs.toArray) :
    Pv P n D E L ⟨d, .build T parts.toArray, ty, pos, aft, g⟩ (.agg cs.toArray) := by
  unfold Pv; intro a w hs _
  have hm : (parts.toArray.map fun (i, x) => (i, a.eval x)) = vs.toArray := by rw [List.map_toArray, hs.evps hp]
  simp only [execOp, Instr.build, Sem.run_bind, TyZ.run, Result.andThen_ok, TyD.run, TyS.run, Value.cells]
  rw [show (Array.map (fun (x : Nat × Operand) => (x.1, a.eval x.2)) parts.toArray) = vs.toArray from hm]
  simp only [hf, Sem.run_pure, Result.andThen_ok]
theorem pv_indexAddrN {e k b o o2 m : Nat} {kk : IntKind} {j : Int} {i : Nat} (hx : ev E x = some (.pointer (some ⟨b, o, none⟩))) (hy : ev E y = some (.int kk j)) [ht : TyD P T (.array m e)] [hk : TyS P e k] (hj : j = i) (hi : i < m) (ho : o + i * k = o2) :
    Pv P n D E L ⟨d, .indexAddr T x y, ty, pos, aft, g⟩ (.pointer (some ⟨b, o2, none⟩)) := by
  subst ho; exact pv_indexAddrA hx hy hj hi
def asT (A t : TypeId) (v zv : Value) : Value := if t = A then v else zv
theorem pv_assert {xt A t : TypeId} {dsc : TypeDesc} {zv : Value} (hx : ev E x = some (.iface t v)) [hA : TyD P A dsc] (hni : (match dsc with | .interface _ => false | _ => true) = true) [hz : TyZ P A zv] :
    Pv P n D E L ⟨d, .typeAssert x xt A true, ty, pos, aft, g⟩ (.tuple #[asT A t v zv, .bool (decide (t = A))]) := by
  unfold Pv; intro a w hs _
  by_cases e : t = A
  · subst e
    cases dsc <;> simp [execOp, hs.ev hx, Instr.typeAssert, TyD.run, asT] at hni ⊢
  · cases dsc <;> simp [execOp, hs.ev hx, Instr.typeAssert, TyD.run, asT, e, hz.run] at hni ⊢
end pvs
section efs
variable {P : Program} {W : World} {n : Nat} {D : List Deferred} {E : Env} {L : Hp} {ty : TypeId} {pos : String} {aft : Array Edge} {g : Option (Nat × Bool)} {T : TypeId} {x y z : Operand} {v u : Value}
theorem setRow_upd {w : World} {b : Nat} {cur cs : List Value} {T : TypeId} {o' : Obj} {L' : Hp} (ho : Own W w L) (hb : (b, Obj.cells cur.toArray T) ∈ L) (hu : Upd L b (.cells cs.toArray T) L') : Own W (w.setRow b cs.toArray) L' := by
 have h0 := ho.get _ hb
 have hlt : b < w.heap.size := ho.lt hb
 refine ho.upd hu rfl rfl rfl ?_ ?_
 ·
  dsimp only at h0
  simp [World.setRow, Array.getElem?_modify, h0]
 ·
  intro k hk
  simp [World.setRow, Array.getElem?_modify, Ne.symm hk]
theorem ef_copy {d e gb o dLen dCap sb so sLen sCap : Nat} {ats : Array TypeId} {cur cs sc : List Value} {Tg Ts : TypeId} {f : Nat × Nat} {L' : Hp} (hx : ev E x = some (.slice (some ⟨gb, o, none⟩) dLen dCap)) (hy : ev E y = some (.slice (some ⟨sb, so, none⟩) sLen sCap))
    (h0 : ats[0]? = some T) (h1 : ats[1]? = some T) [ht : TyD P T (.slice e)] [hk : TyS P e 1] [hb : Blk L gb (.cells cur.toArray Tg)] [hs' : Blk L sb (.cells sc.toArray Ts f)] (hn : cs.length = min sLen dLen) (hr : Reads sc so cs) (hfit : o + cs.length ≤ cur.length)
    (hone : cs.all Value.oneCell' = true) (hd : Nat.blt d n = true) [hu : Upd L gb (.cells (cur.take o ++ cs ++ cur.drop (o + cs.length)).toArray Tg) L'] :
    Ef P W n D ⟨some d, .call { callee := .builtin .copy, args := #[x, y], argTypes := ats }, ty, pos, aft, g⟩ E L (fun E1 L1 => E1 = (d, .int .i64 cs.length) :: E ∧ L1 = L') := by
  unfold Ef; intro Q a w next hs ho hn'
  have hrun := run_copy_row (P := P) w T T ty e gb o dLen dCap ⟨sb, so, none⟩ sLen sCap cur.toArray Tg cs ht.eq hk.eq (ho.get _ hb.mem) hn
    (fun j v hj => by
      have := Held.cell ho.held hs'.mem (so + j)
      rw [show (⟨sb, so, none⟩ : Addr).add j = ⟨sb, so + j, none⟩ from addr_add .., this]
      simpa using hr.at_ j v hj) (by simpa using hfit) (by simpa [List.all_eq_true] using hone)
  have hrun2 : (Builtin.copy_ ats ty #[.slice (some ⟨gb, o, none⟩) dLen dCap, .slice (some ⟨sb, so, none⟩) sLen sCap]).run P w = .ok (goInt cs.length) (w.setRow gb (cur.toArray.toList.take o ++ cs ++ cur.toArray.toList.drop (o + cs.length)).toArray) := by
    rw [← hrun]
    simp only [Builtin.copy_, h0, h1, List.getElem?_toArray, List.getElem?_cons_zero, List.getElem?_cons_succ]
  unfold Oper.wp
  have he : (execOp a.eval ⟨some d, .call { callee := .builtin .copy, args := #[x, y], argTypes := ats }, ty, pos, aft, g⟩).run P w = .ok (.value (.int .i64 cs.length)) (w.setRow gb (cur.take o ++ cs ++ cur.drop (o + cs.length)).toArray) := by
    simp only [execOp, resolve, invoke, builtin, List.map_toArray, List.map_cons, List.map_nil, hs.ev hx, hs.ev hy, Sem.run_bind, Sem.run_pure, Result.andThen_ok, hrun2, goInt]
  rw [he]
  exact hn' _ _ _ _ ⟨rfl, rfl⟩ (hs.put hd) (setRow_upd (o' := .cells #[] 0) ho hb.mem hu)
theorem ef_copyNil {d e dLen dCap : Nat} {ad : Addr} {ats : Array TypeId} (hx : ev E x = some (.slice (some ad) dLen dCap)) (hy : ev E y = some (.slice none 0 0)) (h0 : ats[0]? = some T) (h1 : ats[1]? = some T) [ht : TyD P T (.slice e)] [hk : TyS P e 1] (hd : Nat.blt d n = true) :
    Ef P W n D ⟨some d, .call { callee := .builtin .copy, args := #[x, y], argTypes := ats }, ty, pos, aft, g⟩ E L (fun E1 L1 => E1 = (d, .int .i64 0) :: E ∧ L1 = L) := by
  unfold Ef; intro Q a w next hs ho hn'
  have hrun := run_copy_nil (P := P) w T T ty e ad dLen dCap ht.eq (by rw [hk.eq]; rfl)
  have hrun2 : (Builtin.copy_ ats ty #[.slice (some ad) dLen dCap, .slice none 0 0]).run P w = .ok (goInt 0) w := by
    rw [← hrun]
    simp only [Builtin.copy_, h0, h1, List.getElem?_toArray, List.getElem?_cons_zero, List.getElem?_cons_succ]
  unfold Oper.wp
  have he : (execOp a.eval ⟨some d, .call { callee := .builtin .copy, args := #[x, y], argTypes := ats }, ty, pos, aft, g⟩).run P w = .ok (.value (.int .i64 0)) w := by
    simp only [execOp, resolve, invoke, builtin, List.map_toArray, List.map_cons, List.map_nil, hs.ev hx, hs.ev hy, Sem.run_bind, Sem.run_pure, Result.andThen_ok, hrun2, goInt]
  rw [he]
  exact hn' _ _ _ _ ⟨rfl, rfl⟩ (hs.put hd) ho
theorem ef_clear {e gb o m cap : Nat} {zv : Value} {ats : Array TypeId} {cur : List Value} {Tg : TypeId} {L' : Hp} (hx : ev E x = some (.slice (some ⟨gb, o, none⟩) m cap)) (hm : 0 < m)
    (h0 : ats[0]? = some T) [ht : TyD P T (.slice e)] [hz : TyZ P e zv] (hzc : zv.cells = #[zv]) (hone : zv.oneCell' = true) [hb : Blk L gb (.cells cur.toArray Tg)] (hfit : o + m ≤ cur.length)
    [hu : Upd L gb (.cells (cur.take o ++ List.replicate m zv ++ cur.drop (o + m)).toArray Tg) L'] :
    Ef P W n D ⟨none, .call { callee := .builtin .clear, args := #[x], argTypes := ats }, ty, pos, aft, g⟩ E L (fun E1 L1 => E1 = E ∧ L1 = L') := by
  unfold Ef; intro Q a w next hs ho hn'
  have hzs : (Builtin.zeroCells zv.cells m).toList = List.replicate m zv := by
    apply List.ext_getElem?
    intro i
    simp only [Builtin.zeroCells, hzc]
    by_cases hi : i < m
    · simp [hi, List.getElem?_replicate, Nat.mod_one]
    · simp [hi, List.getElem?_replicate]
  have hst := run_storeCells_at P gb o Tg (List.replicate m zv) 0 cur.toArray w (ho.get _ hb.mem) (by simpa using hfit) (by intro v hv; rw [(List.mem_replicate.1 hv).2]; exact hone)
  obtain ⟨m', rfl⟩ : ∃ m', m = m' + 1 := ⟨m - 1, by omega⟩
  have hrun : (Builtin.clear_ ats ty #[.slice (some ⟨gb, o, none⟩) (m' + 1) cap]).run P w = .ok (.tuple #[]) (w.setRow gb (cur.take o ++ List.replicate (m' + 1) zv ++ cur.drop (o + (m' + 1))).toArray) := by
    simp only [Builtin.clear_, h0, List.getElem?_toArray, List.getElem?_cons_zero, Sem.run_bind, TyD.run, Result.andThen_ok, hz.run, hzs, hst, Sem.run_pure]
    simp
  unfold Oper.wp
  have he : (execOp a.eval ⟨none, .call { callee := .builtin .clear, args := #[x], argTypes := ats }, ty, pos, aft, g⟩).run P w = .ok (.value (.tuple #[])) (w.setRow gb (cur.take o ++ List.replicate (m' + 1) zv ++ cur.drop (o + (m' + 1))).toArray) := by
    simp only [execOp, resolve, invoke, builtin, List.map_toArray, List.map_cons, List.map_nil, hs.ev hx, Sem.run_bind, Sem.run_pure, Result.andThen_ok, hrun]
  rw [he]
  exact hn' _ _ _ _ ⟨rfl, rfl⟩ (hs.put_none) (setRow_upd (o' := .cells #[] 0) ho hb.mem hu)
theorem ef_clearK {e k gb o m cap : Nat} {zv : Value} {zs : List Value} {ats : Array TypeId} {cur : List Value} {Tg : TypeId} {L' : Hp} (hx : ev E x = some (.slice (some ⟨gb, o, none⟩) m cap)) (hm : 0 < m)
    (h0 : ats[0]? = some T) [ht : TyD P T (.slice e)] [hz : TyZ P e zv] (hzc : zv.cells = zs.toArray) (hk : zs.length = k) (hone : zs.all Value.oneCell' = true) [hb : Blk L gb (.cells cur.toArray Tg)] (hfit : o + m * k ≤ cur.length)
    [hu : Upd L gb (.cells (cur.take o ++ (List.replicate m zs).flatten ++ cur.drop (o + m * k)).toArray Tg) L'] :
    Ef P W n D ⟨none, .call { callee := .builtin .clear, args := #[x], argTypes := ats }, ty, pos, aft, g⟩ E L (fun E1 L1 => E1 = E ∧ L1 = L') := by
  unfold Ef; intro Q a w next hs ho hn'
  have hzs : (Builtin.zeroCells zv.cells m).toList = (List.replicate m zs).flatten := by
    rw [← zeros_flat zs m, hzc]
    simp [Builtin.zeroCells]
  have hlen : ((List.replicate m zs).flatten).length = m * k := by simp [hk]
  have hst := run_storeCells_at P gb o Tg ((List.replicate m zs).flatten) 0 cur.toArray w (ho.get _ hb.mem) (by simpa [hlen] using hfit) (by
    intro v hv
    obtain ⟨l, hl, hvl⟩ := List.mem_flatten.1 hv
    rw [(List.mem_replicate.1 hl).2] at hvl
    rw [List.all_eq_true] at hone
    exact hone v hvl)
  obtain ⟨m', rfl⟩ : ∃ m', m = m' + 1 := ⟨m - 1, by omega⟩
  have hrun : (Builtin.clear_ ats ty #[.slice (some ⟨gb, o, none⟩) (m' + 1) cap]).run P w = .ok (.tuple #[]) (w.setRow gb (cur.take o ++ (List.replicate (m' + 1) zs).flatten ++ cur.drop (o + (m' + 1) * k)).toArray) := by
    simp only [Builtin.clear_, h0, List.getElem?_toArray, List.getElem?_cons_zero, Sem.run_bind, TyD.run, Result.andThen_ok, hz.run, hzs, hst, Sem.run_pure]
    simp only [Nat.add_zero, hlen]
  unfold Oper.wp
  have he : (execOp a.eval ⟨none, .call { callee := .builtin .clear, args := #[x], argTypes := ats }, ty, pos, aft, g⟩).run P w = .ok (.value (.tuple #[])) (w.setRow gb (cur.take o ++ (List.replicate (m' + 1) zs).flatten ++ cur.drop (o + (m' + 1) * k)).toArray) := by
    simp only [execOp, resolve, invoke, builtin, List.map_toArray, List.map_cons, List.map_nil, hs.ev hx, Sem.run_bind, Sem.run_pure, Result.andThen_ok, hrun]
  rw [he]
  exact hn' _ _ _ _ ⟨rfl, rfl⟩ (hs.put_none) (setRow_upd (o' := .cells #[] 0) ho hb.mem hu)
theorem ef_makeChan {d e bytes : Nat} {dir : ChanDir} {k : Nat} (hx : ev E x = some (.int .i64 (k : Int))) [ht : TyD P T (.chan dir e)] [hby : TyB P e bytes] (hb : bytes * k ≤ 1048576) (hk : k ≤ 1048576) (hd : Nat.blt d n = true) :
    Ef P W n D ⟨some d, .makeChan T x, ty, pos, aft, g⟩ E L (fun E' L' => ∃ b, E' = (d, .chan (some b)) :: E ∧ L' = (b, .chan k #[] false 0 0 false) :: L) := by
  unfold Ef; intro Q a w next hs ho hn'
  obtain ⟨i, hi, hib⟩ := Option.map_eq_some_iff.1 hby.eq
  have hmax : IntKind.i64.max = 9223372036854775807 := rfl
  have hb2 : ((bytes : Nat) : Int) * (k : Int) ≤ 1048576 := by rw [← Int.natCast_mul]; omega
  have n1 : ¬ ((k : Int) < 0 ∨ 9223372036854775807 < (k : Int) ∨ 281474976710544 < (i.bytes : Int) * (k : Int)) := by
    rw [hib]
    omega
  unfold Oper.wp
  have : (execOp a.eval ⟨some d, .makeChan T x, ty, pos, aft, g⟩).run P w = .ok (.value (.chan (some w.heap.size))) (w.alloc (.chan k #[] false 0 0 false)) := by
    simp [execOp, hs.ev hx, Instr.makeChan, asInt, asIntOf, TyD.run, typeInfo, hi, hmax]
    exact fun h => absurd h n1
  rw [this]
  exact hn' _ _ _ _ ⟨_, rfl, rfl⟩ (hs.put hd) (ho.alloc _)
end efs
class Meth (P : Program) (t : TypeId) (name : String) (f : outParam FuncId) : Prop where
  eq : ∀ b o w, (method (P.types.size + Made.depth) t (.pointer (some ⟨b, o, none⟩)) name).run P w = .ok (f, .pointer (some ⟨b, o, none⟩)) w
section inv
variable {P : Program} {W : World} {n : Nat} {D : List Deferred} {E : Env} {L : Hp} {ty : TypeId} {pos : String} {aft : Array Edge} {g : Option (Nat × Bool)} {T : TypeId} {x y z : Operand} {v u : Value}
theorem ef_invr {d f t b o : Nat} {name : String} {r : Value} {Lp : Hp} (ht : TrR P f [.pointer (some ⟨b, o, none⟩)] Lp r) (hx : ev E x = some (.iface t (.pointer (some ⟨b, o, none⟩)))) [hm : Meth P t name f] [hf : GoFn P f] (hd : Nat.blt d n = true) [hp : Has L Lp] :
    Ef P W n D ⟨some d, .call { callee := .invoke x name, args := #[], argTypes := #[] }, ty, pos, aft, g⟩ E L (fun E' L' => E' = (d, r) :: E ∧ L' = L) := by
  unfold Ef; intro Q a w next hs ho hn
  obtain ⟨F, hF⟩ := hp.ex
  unfold Oper.wp
  have e : (execOp a.eval ⟨some d, .call { callee := .invoke x name, args := #[], argTypes := #[] }, ty, pos, aft, g⟩).run P w = .ok (.enter f #[.pointer (some ⟨b, o, none⟩)]) w := by
    simp only [execOp, resolve, invoke, callMethod, hs.ev hx, Sem.run_bind, Sem.run_pure, Result.andThen_ok, List.map_toArray, List.map_nil]
    simp [Sem.run_bind, hm.eq, run_callFunc, callMethod, program, Sem.run, Result.andThen]
  rw [e]
  unfold TrR Tr at ht
  refine (ht W w F (ho.perm hF)).mono ?_
  rintro e' w' ⟨v, L1, rfl, ⟨rfl, rfl⟩, ho'⟩
  exact hn _ _ _ _ ⟨rfl, rfl⟩ (hs.put hd) (ho'.perm hF.symm)
end inv
section rng
variable {P : Program} {W : World} {n : Nat} {D : List Deferred} {E : Env} {L : Hp} {ty : TypeId} {pos : String} {aft : Array Edge} {g : Option (Nat × Bool)} {T : TypeId} {x y z : Operand} {v u : Value} {κ : Type} [DecidableEq κ]
theorem run_next_at (w : World) (ty : TypeId) (r bm since c0 : Nat) (seen : Array Nat) (es : Array MapEntry) (clock : Nat) (hr : w.heap[r]? = some (.mapIter (some bm) since seen c0)) (hb : w.heap[bm]? = some (.map es clock)) (hold : ∀ x ∈ es.toList, x.born < since) (hsc : since ≤ c0) :
    ((leftOf es seen).size = 0 ∧ (Instr.next (.pointer (some ⟨r, 0, none⟩)) false ty).run P w = .ok (.tuple #[.bool false]) w) ∨
    ∃ e ∈ (leftOf es seen).toList, ∃ w1 : World, (w1 = w ∨ w1 = w.drew) ∧ (Instr.next (.pointer (some ⟨r, 0, none⟩)) false ty).run P w = .ok (.tuple #[.bool true, e.key, e.val]) { w1 with heap := w1.heap.setIfInBounds r (.mapIter (some bm) since (seen.push e.born) clock) } := by
  simp only [Instr.next, getObj, Sem.run_bind, Sem.run, hr, hb, Result.andThen, next_test_false seen es since c0 hold hsc, Bool.false_eq_true, if_false]
  unfold leftOf
  have hmem : ∀ x ∈ (Array.filter (fun e => !seen.contains e.born) es).toList, x.born < since := fun x hx => hold x (by simp at hx ⊢; exact hx.1)
  generalize Array.filter (fun e => !seen.contains e.born) es = L at hmem ⊢
  have e1 : L.filter (fun x => decide (x.born < since)) = L := Array.filter_eq_self.2 (fun x hx => by simpa using hmem x (by simpa using hx))
  have e2 : L.filter (fun x => decide (x.born ≥ since)) = #[] := by
    rw [Array.filter_eq_empty_iff]
    intro x hx
    have := hmem x (by simpa using hx)
    simp
    omega
  simp only [e1, e2, Array.append_empty]
  by_cases h0 : L.size = 0
  · left
    have : L = #[] := Array.eq_empty_of_size_eq_zero h0
    subst this
    refine ⟨rfl, ?_⟩
    simp [choose, Sem.run, Question.forced]
  · right
    have hne : L.isEmpty = false := by simp [Array.isEmpty, h0]
    simp only [hne, Bool.false_eq_true, if_false, Array.empty_append, Array.size_map]
    have hch : ∃ (j : Nat) (w1 : World), j < L.size ∧ (w1 = w ∨ w1 = w.drew) ∧ (choose (Question.mapNext L.size)).run P w = .ok j w1 := by
      by_cases hf : L.size ≤ 1
      · exact ⟨0, w, by omega, .inl rfl, by simp [choose, Sem.run, Question.forced, hf]⟩
      · exact ⟨_, w.drew, Nat.mod_lt _ (by omega), .inr rfl, by
          simp only [choose, Sem.run, Question.forced, decide_eq_true_eq, hf, if_false, Question.cut]
          rfl⟩
    obtain ⟨j, w1, hj, hal, hrun⟩ := hch
    refine ⟨L[j], by simp, w1, hal, ?_⟩
    have hh : w1.heap[r]? = some (.mapIter (some bm) since seen c0) := by rcases hal with rfl | rfl <;> exact hr
    have hset : ∀ (o' : Obj), (setObj r o').run P w1 = .ok () { w1 with heap := w1.heap.setIfInBounds r o' } := fun o' => by
      simp only [setObj, Sem.run, hh]
    simp only [hrun, Array.getElem?_map, Array.getElem?_eq_getElem hj, Option.map_some, Sem.run_bind, hset, Result.andThen]
    rfl
def nxV (q : Bool) (k v : Value) : Value := if q then .tuple #[.bool true, k, v] else .tuple #[.bool false]
theorem pv_nx0 {d : Option Tmp} {q : Bool} {k v : Value} (hx : ev E x = some (nxV q k v)) : Pv P n D E L ⟨d, .extract x 0, ty, pos, aft, g⟩ (.bool q) := by
 cases q <;> exact pv_extract hx rfl
theorem ef_range {d : Nat} {enc : κ → Value} {K V : TypeId} {bm cl : Nat} {l : List (κ × Value × Nat)} (hx : ev E x = some (.map (some bm))) [hT : TyD P T (.map K V)] [hb : Blk L bm (mapO enc l cl)] (hd : Nat.blt d n = true) :
    Ef P W n D ⟨some d, .range T x, ty, pos, aft, g⟩ E L (fun E' L' => ∃ b, E' = (d, .pointer (some ⟨b, 0, none⟩)) :: E ∧ L' = (b, .mapIter (some bm) cl #[] cl) :: L) := by
  unfold Ef; intro Q a w next hs ho hn
  have := run_range_map (P := P) w T K V bm (entsL enc l).toArray cl hT.eq (ho.get _ hb.mem)
  unfold Oper.wp
  have he : (execOp a.eval ⟨some d, .range T x, ty, pos, aft, g⟩).run P w = .ok (.value (.pointer (some ⟨w.heap.size, 0, none⟩))) (w.alloc (.mapIter (some bm) cl #[] cl)) := by
    simp only [execOp, hs.ev hx, Sem.run_bind, this, Result.andThen_ok, Sem.run_pure]
  rw [he]
  exact hn _ _ _ _ ⟨_, rfl, rfl⟩ (hs.put hd) (ho.alloc _)
theorem ef_next {d : Nat} {enc : κ → Value} {r bm since c0 cl : Nat} {seen : Array Nat} {l : List (κ × Value × Nat)} {F : Obj → Hp} (hx : ev E x = some (.pointer (some ⟨r, 0, none⟩))) [hb : Blk L bm (mapO enc l cl)] [hr : Blk L r (.mapIter (some bm) since seen c0)]
    (hold : ∀ e, e ∈ l → e.2.2 < since) (hsc : since ≤ c0) (hu : ∀ o', Upd L r o' (F o')) (hd : Nat.blt d n = true) :
    Ef P W n D ⟨some d, .next x false, ty, pos, aft, g⟩ E L (fun E' L' => ∃ (q : Bool) (k v : Value) (s2 : Array Nat) (c2 : Nat),
      ((q = true ∧ ∃ e, e ∈ l ∧ seen.contains e.2.2 = false ∧ v = e.2.1 ∧ s2 = seen.push e.2.2 ∧ c2 = cl) ∨ (q = false ∧ (∀ e, e ∈ l → seen.contains e.2.2 = true) ∧ s2 = seen ∧ c2 = c0)) ∧ E' = (d, nxV q k v) :: E ∧ L' = F (.mapIter (some bm) since s2 c2)) := by
  unfold Ef; intro Q a w next hs ho hn
  have hrr := ho.get _ hr.mem
  have key := run_next_at (P := P) w ty r bm since c0 seen (entsL enc l).toArray cl hrr (ho.get _ hb.mem) (by
    intro x hx
    simp only [entsL, List.mem_map] at hx
    obtain ⟨e, he, rfl⟩ := hx
    exact hold e he) hsc
  unfold Oper.wp
  rcases key with ⟨h0, hrun⟩ | ⟨e, he, w1, hw1, hrun⟩
  · have hx' : (execOp a.eval ⟨some d, .next x false, ty, pos, aft, g⟩).run P w = .ok (.value (nxV false undef undef)) w := by
      simp only [execOp, hs.ev hx, Sem.run_bind, hrun, Result.andThen_ok, Sem.run_pure, nxV]; rfl
    rw [hx']
    refine hn _ _ _ _ ⟨false, undef, undef, seen, c0, .inr ⟨rfl, ?_, rfl, rfl⟩, rfl, rfl⟩ (hs.put hd) (ho.upd (hu _) rfl rfl rfl hrr (fun _ _ => rfl))
    intro e he
    have : (leftOf (entsL enc l).toArray seen) = #[] := Array.eq_empty_of_size_eq_zero h0
    unfold leftOf at this
    rw [Array.filter_eq_empty_iff] at this
    have h2 := this ⟨enc e.1, e.2.1, e.2.2⟩ (by simp only [entsL, List.mem_toArray, List.mem_map]; exact ⟨e, he, rfl⟩)
    simpa using h2
  · have hx' : (execOp a.eval ⟨some d, .next x false, ty, pos, aft, g⟩).run P w = .ok (.value (nxV true e.key e.val)) { w1 with heap := w1.heap.setIfInBounds r (.mapIter (some bm) since (seen.push e.born) cl) } := by
      simp only [execOp, hs.ev hx, Sem.run_bind, hrun, Result.andThen_ok, Sem.run_pure, nxV]; rfl
    rw [hx']
    obtain ⟨hm, hc⟩ := mem_left he
    simp only [entsL, List.mem_map] at hm
    obtain ⟨e', he', rfl⟩ := hm
    have ho1 : Own W w1 L := by rcases hw1 with rfl | rfl; exact ho; exact ho.drew
    have hlt : r < w1.heap.size := ho1.lt hr.mem
    exact hn _ _ _ _ ⟨true, _, _, _, _, .inl ⟨rfl, e', he', hc, rfl, rfl, rfl⟩, rfl, rfl⟩ (hs.put hd) (ho1.upd (hu _) rfl rfl rfl (by simp [hlt]) (fun k hk => by simp [Array.getElem?_setIfInBounds_ne (Ne.symm hk)]))
theorem pv_entry {d : Option Tmp} {enc : κ → Value} {r bm since cl : Nat} {seen : Array Nat} {l : List (κ × Value × Nat)} (e : κ × Value × Nat) (hx : ev E x = some (.pointer (some ⟨r, 0, none⟩))) [hb : Blk L bm (mapO enc l cl)] [hr : Blk L r (.mapIter (some bm) since (seen.push e.2.2) cl)]
    (he : e ∈ l) (hn : (l.map (·.2.2)).Nodup) : Pv P n D E L ⟨d, .entry x, ty, pos, aft, g⟩ (.tuple #[enc e.1, e.2.1]) := by
  unfold Pv; intro a w hs hh
  have hrr := hh _ hr.mem
  have hbb := hh _ hb.mem
  have hnd : ((entsL enc l).map (·.born)).Nodup := by
    have : (entsL enc l).map (·.born) = l.map (·.2.2) := by simp [entsL]
    rw [this]; exact hn
  have hf : (entsL enc l).toArray.find? (·.born == e.2.2) = some ⟨enc e.1, e.2.1, e.2.2⟩ := by
    rw [← Array.find?_toList]
    exact find_born ⟨enc e.1, e.2.1, e.2.2⟩ (entsL enc l) hnd (by simp only [entsL, List.mem_map]; exact ⟨e, he, rfl⟩)
  simp only [mapO] at hbb
  simp only [execOp, hs.ev hx, Instr.entry, getObj, Sem.run_bind, Sem.run, hrr, hbb, Result.andThen, Array.back?_push, bne_self_eq_false, Bool.false_eq_true, if_false, hf]
  rfl
end rng
section scope
variable {P : Program} {W : World} {Q : Exit → Act → World → Prop} {n : Nat} {D : List Deferred} {E : Env} {L : Hp}
theorem Wp.label {l : Nat} (h : Ends W Q n D .normal E L) : Wp P W Q n D (.label l) E L := by
 unfold Wp Ends at *; exact fun a w hs ho => wp_label (h a w hs ho)
theorem Wp.goto {l : Nat} (h : Ends W Q n D (.goto l) E L) : Wp P W Q n D (.goto l) E L := by
 unfold Wp Ends at *; exact fun a w hs ho => wp_goto (h a w hs ho)
theorem Ends.then_goto {K : Act → World → Prop} {i : Nat} (h : Ends W Q n D (.goto i) E L) : Ends W (Exit.then K Q) n D (.goto i) E L := by
 unfold Ends at *; exact h
theorem Ends.jump_ret {l : Nat} {J : Act → World → Prop} (h : Ends W Q n D .ret E L) : Ends W (Exit.jump l J Q) n D .ret E L := by
 unfold Ends at *; exact h
theorem Ends.jump_goto {l : Nat} {J : Act → World → Prop} (h : Goes W J n D E L) : Ends W (Exit.jump l J Q) n D (.goto l) E L := by
 unfold Ends Goes at *; exact fun a w hs ho => ⟨rfl, h a w hs ho⟩
theorem Wp.scope1 {σ : Type} {c rest : Code} (l : Nat) (hf : findLabel c l = some rest) (K : Env) (V : σ → Env) (LI : σ → Hp) (I : σ → Prop)
    (first : ∀ J : Act → World → Prop, (∀ x, I x → Goes W J n D (V x ++ K) (LI x)) → Wp P W (Exit.jump l J Q) n D c E L)
    (pass : ∀ x, I x → Wp P W (Exit.jump l (fun _ _ => False) Q) n D rest (V x ++ K) (LI x)) : Wp P W Q n D (.scope c) E L := by
  have first' := first (fun a w => ∃ x, I x ∧ Sees n D (V x ++ K) a ∧ Own W w (LI x)) (fun x hx => by unfold Goes; exact fun a w hs ho => ⟨x, hx, hs, ho⟩)
  unfold Wp at *
  intro a w hs ho
  refine wp_scope_jumps l _ (fun _ _ => 0) hf (first' a w hs ho) ?_
  rintro a1 w1 ⟨x, hx, hs1, ho1⟩
  have key := pass x hx a1 w1 hs1 ho1
  have e : Exit.jump l (fun a' w' => (∃ x, I x ∧ Sees n D (V x ++ K) a' ∧ Own W w' (LI x)) ∧ (fun (_ : Act) (_ : World) => 0) a' w' < (fun (_ : Act) (_ : World) => 0) a1 w1) Q = Exit.jump l (fun _ _ => False) Q := by
    funext ex a' w'
    cases ex <;> simp [Exit.jump]
  rw [e]; exact key
end scope
end Go.SL
end
section
set_option linter.unusedVariables false
set_option linter.unusedSimpArgs false
set_option linter.unusedSectionVars false
namespace Go.Proofs.YtipncceiekalfaaGreat
open Go.SL
theorem tr_gPack (lab len : Nat) (cap : Bool) (hl : lab < 2 ^ 64) (hn : len < 8) : TrR Tryz.prog 19 [.agg #[.int .u64 lab, .int .i64 len, .bool cap]] ([]) (.tuple #[.int .u64 (gPackV lab len cap : Nat), .int .i64 (gPackE lab len)]) := by
 refine Tr.enter Tryz.func19 rfl Tryz.ntmps19 rfl (fun W F => ?_)
 refine Wp.app ?_
 refine Wr ?_
 refine zB fun b1 => ?_
 refine zq [1,1,2,5,3,3,4,6,8,42,0] ?_
 refine Ops.pvcn rfl rfl (fun hg => pv_fieldAddr0 rfl rfl) rfl ?_
 refine Ops.pvcn rfl rfl (fun hg => Pv.setE (t := 10) rfl (cv_pos hg) (pv_load rfl rfl rfl)) rfl ?_
 refine Ops.pvcn rfl rfl (fun hg => Pv.setE (t := 10) rfl (cv_pos hg) (Pv.setE (t := 11) rfl (cv_pos hg) (pv_gtr rfl rfl))) rfl ?_
 refine zq [47,2,5] ?_
 refine Wp.cond_dect rfl (fun h1 => ?_) (fun h1 => ?_)
 ·
  have h4 : 4 < len := by omega
  refine zq [3,4,1,1,2,5,10,12] ?_
  have h1 : gPackE lab len = 1 := if_pos h4
  exact Ends.ret (res2 rfl rfl rfl) ⟨by rw [gPackV, h1, if_neg (by decide)] <;> rfl, rfl⟩
 have h4 : ¬ 4 < len := by omega
 refine zq [11,5,3,4,6,8] ?_
 refine Ops.pv (pv_conv rfl (u64n (k := len) rfl (by omega))) rfl ?_
 refine zq [6,8] ?_
 refine zC (tr_bPut len 4 16 lab (by omega) (by omega) (by omega) hl) ?_
 refine zq [0,7,7,1,1,2,5,3,3,4,0,27,2,5] ?_
 refine Wp.cond_dect rfl (fun h2 => ?_) (fun h2 => ?_)
 ·
  have hlt : ¬ lab < 65536 := by intro hlt; have : fldE 16 lab = 0 := if_pos hlt; omega
  refine zq [3,4,0,1,1,2,5,10,12] ?_
  have h1 : gPackE lab len = 10 := (if_neg h4).trans (if_neg hlt)
  exact Ends.ret (res2 rfl rfl rfl) ⟨by rw [gPackV, h1, if_neg (by decide), show fldE 16 lab = 10 from if_neg hlt] <;> rfl, rfl⟩
 have hlt : lab < 65536 := Classical.byContradiction fun hc => by have : fldE 16 lab = 10 := if_neg hc; omega
 rw [show putV len 4 16 lab = lab * 16 + len from if_pos hlt]
 refine zq [11,5,3,3,4,6,8,2,5] ?_
 refine Wp.cond_t rfl (fun h3 => ?_) (fun h3 => ?_)
 ·
  refine zq [4,0] ?_
  refine Ops.pv (pv_or rfl rfl (or_nat (b := 8) (by omega) (by omega))) rfl ?_
  refine zq [1,2,5,3,4,0,1,1,2,5,10] ?_
  have h1 : gPackE lab len = 0 := (if_neg h4).trans (if_pos hlt)
  exact Ends.ret (res2 rfl rfl rfl) ⟨by subst_vars; rw [gPackV, h1, if_pos rfl, or8 (by omega)] <;> rfl, rfl⟩
 refine zq [11,5,3,4,0,1,1,2,5,10] ?_
 have h1 : gPackE lab len = 0 := (if_neg h4).trans (if_pos hlt)
 exact Ends.ret (res2 rfl rfl rfl) ⟨by subst_vars; rw [gPackV, h1, if_pos rfl] <;> rfl, rfl⟩
set_option maxHeartbeats 4000000 in
theorem tr_gUnpack (w : Nat) (hw : w < 2 ^ 64) : TrR Tryz.prog 179 [.int .u64 w] ([]) (.tuple #[.agg #[.int .u64 (infLab w : Nat), .int .i64 (infLen w : Nat), .bool (infCap w)], .int .i64 (infE w)]) := by
 refine Tr.enter Tryz.func179 rfl Tryz.ntmps179 rfl (fun W F => ?_)
 refine Wp.app ?_
 refine Wr ?_
 refine zA fun b1 => ?_
 refine zq [1,2,5,3,4,0] ?_
 refine zC ((tr_bGet w 0 3 hw (by omega) (by omega)).eq (r' := .tuple #[.int .u64 ((w % 8) : Nat), .int .i64 0]) (by rw [Nat.pow_zero, Nat.div_one])) ?_
 refine zq [0,7,7,1,1,2,5,3,4,0] ?_
 refine zC ((tr_bGet w 4 16 hw (by omega) (by omega)).eq (r' := .tuple #[.int .u64 ((w / 16 % 65536) : Nat), .int .i64 0]) rfl) ?_
 refine zq [0,7,7,1,1,2,5,3,4,0,0] ?_
 refine Ops.pv (pv_conv rfl (w64n (k := w % 8) rfl (by omega))) rfl ?_
 refine zq [0] ?_
 refine Ops.pv (pv_shr rfl rfl (by omega) (shr_nat (a := w) (j := 3) (by omega))) rfl ?_
 refine Ops.pv (pv_and rfl rfl (and_mask64 (a := w / 2 ^ 3) (n := 1) (by omega) (by omega))) rfl ?_
 refine Ops.pv ((pv_eql rfl rfl).is (u := .bool (decide (w / 8 % 2 = 1))) (by congr 1; rw [decide_eq_decide]; omega)) rfl ?_
 refine zq [23] ?_
 refine zA fun b2 => ?_
 refine zq [14,2,5,3,3,4,29] ?_
 refine zC (tr_gPack (w / 16 % 65536) (w % 8) (decide (w / 8 % 2 = 1)) (by omega) (by omega)) ?_
 refine zq [0,7,7,1,1,2,5,3,4,0,27,0] ?_
 refine Ops.pvcn rfl rfl (fun hg => pv_move rfl) rfl ?_
 refine Ops.pvcn rfl rfl (fun hg => Pv.setE (t := 37) rfl (cv_pos hg) (pv_move rfl)) rfl ?_
 refine Ops.pvcn rfl rfl (fun hg => Pv.setE (t := 37) rfl (cv_pos hg) (Pv.setE (t := 38) rfl (cv_pos hg) (pv_neq rfl rfl))) rfl ?_
 refine zq [47,2,5] ?_
 refine Wp.cond_dect rfl (fun h1 => ?_) (fun h1 => ?_)
 ·
  refine zq [3,4,23,14,1,2,5,10,12] ?_
  have h1 : ¬ infE w = 0 := fun h => by obtain ⟨h2, h3⟩ := inf_no h; omega
  have h2 : infE w = 10 := (infE_cases w).resolve_left h1
  exact Ends.ret (res_list (rs := [.cell 2 51, .tmp 3]) rfl ⟨_, _, rfl, rv_cellK [_, _, _] rfl rfl rfl ⟨rfl, rfl, rfl, trivial⟩, ⟨_, _, rfl, rv_tmp rfl, rfl⟩⟩ rfl) ⟨by simp [infLab, infLen, infCap, h2], rfl⟩
 refine zq [11,5,3,4,29,14,1,2,5,10] ?_
 have h1 : infE w = 0 := inf_yes (by constructor <;> omega)
 exact Ends.ret (res_list (rs := [.cell 2 51, .tmp 3]) rfl ⟨_, _, rfl, rv_cellK [_, _, _] rfl rfl rfl ⟨rfl, rfl, rfl, trivial⟩, ⟨_, _, rfl, rv_tmp rfl, rfl⟩⟩ rfl) ⟨by simp [infLab, infLen, infCap, h1], rfl⟩
theorem tr_gUnpackI (x : Int) (h : U64 x) : TrR Tryz.prog 179 [.int .u64 x] [] (.tuple #[.agg #[.int .u64 (infLab x.toNat : Nat), .int .i64 (infLen x.toNat : Nat), .bool (infCap x.toNat)], .int .i64 (infE x.toNat)]) := by
 obtain ⟨w, rfl⟩ : ∃ w : Nat, x = (w : Int) := ⟨x.toNat, by unfold U64 at h; omega⟩
 exact tr_gUnpack w (by unfold U64 at h; omega)
theorem reads_take0 {c : List Value} (m : Nat) : Reads c 0 (c.take m) := reads_iff.2 fun j v hj => by
 rw [Nat.zero_add]
 rw [List.getElem?_take] at hj
 split at hj
 ·
  exact hj
 cases hj
theorem one_take {l : List Value} (m : Nat) (h : l.all Value.oneCell' = true) : (l.take m).all Value.oneCell' = true := by
 rw [List.all_eq_true] at h ⊢
 exact fun x hx => h x (List.mem_of_mem_take hx)
theorem carry_copy (f t : RegsM) {n : Nat} (h : n ≤ 4) : t.cells.take 0 ++ f.cells.take (1 + n) ++ t.cells.drop (0 + (f.cells.take (1 + n)).length) = (carryR f t n t.r5).cells := by
 match n, h with
 | 0, _ | 1, _ | 2, _ | 3, _ | 4, _ => rfl
theorem infLen_le (w : Nat) : infLen w ≤ 4 := by
 unfold infLen
 split
 ·
  rename_i h; unfold infE at h; split at h
  ·
   omega
  cases h
 omega
set_option maxHeartbeats 4000000 in
theorem tr_gCarry (f t : RegsM) (b : Int) (hf : U64 f.r0) : TrR Tryz.prog 188 [f.v, t.v, .int .u64 b] ([]) (.tuple #[(carryM f t b).1.v, .int .i64 (carryM f t b).2]) := by
 refine Tr.enter Tryz.func188 rfl Tryz.ntmps188 rfl (fun W F => ?_)
 refine Wp.app ?_
 refine Wr ?_
 refine zB fun b1 => ?_
 refine zB fun b2 => ?_
 refine zA fun b3 => ?_
 refine zq [1,2,5,3,4] ?_
 refine Ops.pv (pv_indexAddrN (i := 0) (o2 := 0) rfl rfl rfl (by decide) (by rfl)) rfl ?_
 refine zq [8] ?_
 refine zC (tr_gUnpackI f.r0 hf) ?_
 refine zq [0,7,7] ?_
 refine zA fun b4 => ?_
 refine zq [14,1,2,5,3,3,4,0,27,2,5] ?_
 refine Wp.cond_dect rfl (fun h1 => ?_) (fun h1 => ?_)
 ·
  have he : carryM f t b = (.zero, 10) := if_neg (by assumption)
  have he2 : infE f.r0.toNat = 10 := (infE_cases _).resolve_left (by assumption)
  refine Wr ?_
  refine Ops.pv (pv_build_arr0 rfl) rfl ?_
  refine zq [0,14,1,2,5,10,12] ?_
  exact Ends.ret (res_list (rs := [.cell 6 33, .tmp 7]) rfl ⟨_, _, rfl, rv_cellK [_, _, _, _, _, _, _, _] rfl rfl rfl ⟨rfl, rfl, rfl, rfl, rfl, rfl, rfl, rfl, trivial⟩, ⟨_, _, rfl, rv_tmp rfl, rfl⟩⟩ rfl) ⟨by rw [he, he2] <;> rfl, rfl⟩
 have he : carryM f t b = (carryR f t (infLen f.r0.toNat) b, 0) := if_pos (by omega)
 have hm4 := infLen_le f.r0.toNat
 generalize infLen f.r0.toNat = m at *
 refine zq [11,5,3] ?_
 refine AnyH.start [(b4, .cells [.int .u64 (infLab f.r0.toNat : Nat), .int .i64 (m : Nat), .bool (infCap f.r0.toNat)].toArray 51)] 6 rfl ?_
 refine Tk 0 rfl rfl (pv_sliceArr (i := 0) (j := 8) rfl rfl rfl (by omega) (by omega)) rfl ?_
 refine zd [1,0,2,2] ?_
 refine Tk 3 rfl rfl (pv_add rfl rfl (w64n (k := 1 + m) (by omega) (by omega))) rfl ?_
 refine Tk 4 rfl rfl (pv_sliceArr (i := 0) (j := 1 + m) rfl rfl ⟨_, rfl⟩ (by omega) (by omega)) rfl ?_
 refine AnyH.one 5 (by kernel_rfl) ?_
 refine Turn.ef rfl rfl (ef_copy (cs := f.cells.take (1 + m)) (T := 25) rfl rfl rfl rfl (by simp) (reads_take0 _) (by simp; omega) (one_take _ rfl) rfl) ?_ ?_
 ·
  rintro _ _ ⟨rfl, rfl⟩; infer_instance
 rintro _ _ ⟨rfl, rfl⟩
 rw [carry_copy f t hm4]
 refine AnyH.done (by kernel_rfl) ?_
 refine zq [5,3,4,0] ?_
 refine Ops.pv (pv_indexAddrA (i := 5) rfl rfl rfl (by first | omega | (simp; done) | (simp; omega))) rfl ?_
 refine zq [25,2,5,3,4,33,14,1,2,5,10] ?_
 exact Ends.ret (res_list (rs := [.cell 6 33, .tmp 7]) rfl ⟨_, _, rfl, rv_cellK [_, _, _, _, _, _, _, _] rfl rfl rfl ⟨rfl, rfl, rfl, rfl, rfl, rfl, rfl, rfl, trivial⟩, ⟨_, _, rfl, rv_tmp rfl, rfl⟩⟩ rfl) ⟨by rw [he] <;> rfl, rfl⟩
set_option maxHeartbeats 2000000 in
theorem tr_gAnswer (r : RegsM) (e : Int) (he : 0 ≤ e ∧ e < 100) : TrR Tryz.prog 220 [r.v, .int .i64 e, .slice none 0 0] ([]) ((ansR r e).v) := by
 refine Tr.enter Tryz.func220 rfl Tryz.ntmps220 rfl (fun W F => ?_)
 refine Wp.app ?_
 refine Wr ?_
 refine zB fun b1 => ?_
 refine zA fun b2 => ?_
 refine zq [2,5,3,4,0] ?_
 refine Ops.pv (pv_conv rfl (u64 (by omega) (by omega))) rfl ?_
 refine Ops.pv (pv_indexAddrN (i := 0) (o2 := 0) rfl rfl rfl (by decide) (by rfl)) rfl ?_
 refine zq [25,2,5,3,4] ?_
 refine Ops.pv (pv_sliceArr (i := 1) (j := 5) rfl ⟨_, rfl⟩ ⟨_, rfl⟩ (by omega) (by omega)) rfl ?_
 refine zq [0] ?_
 refine Ops.ef rfl (ef_copyNil (T := 25) rfl rfl rfl rfl rfl) ?_
 rintro _ _ ⟨rfl, rfl⟩
 refine zq [2,5,3,4,33,14,2,5,10] ?_
 exact Ends.ret (res_one rfl (rv_cellK [_, _, _, _, _, _, _, _] rfl rfl rfl ⟨rfl, rfl, rfl, rfl, rfl, rfl, rfl, rfl, trivial⟩)) ⟨rfl, rfl⟩
end Go.Proofs.YtipncceiekalfaaGreat
end
section
set_option linter.unusedVariables false
set_option linter.unusedSimpArgs false
set_option linter.unusedSectionVars false
namespace Go.Proofs.YtipncceiekalfaaGreat
open Go.SL
def insF (i : InsM) : Nat → Nat
  | 0 => i.op
  | 1 => i.a
  | 2 => i.b
  | _ => i.imm
def fAt : Nat → Nat
  | 0 => 0
  | 1 => 5
  | 2 => 8
  | _ => 11
def fN : Nat → Nat
  | 0 => 5
  | 1 => 3
  | 2 => 3
  | _ => 12
def pakW (i : InsM) : Nat → Nat
  | 0 => 0
  | k + 1 => insF i k * 2 ^ fAt k + pakW i k
def InsM.Fit (i : InsM) : Prop := i.op < 32 ∧ i.a < 8 ∧ i.b < 8 ∧ i.imm < 4096
theorem insF_lt {i : InsM} (h : i.Fit) {k : Nat} (hk : k < 4) : insF i k < 2 ^ fN k := by
 obtain ⟨h1, h2, h3, h4⟩ := h
 match k, hk with
 | 0, _ => simpa [insF, fN] using h1
 | 1, _ => simpa [insF, fN] using h2
 | 2, _ => simpa [insF, fN] using h3
 | 3, _ => simpa [insF, fN] using h4
theorem pakW_lt {i : InsM} (h : i.Fit) {k : Nat} (hk : k < 4) : pakW i k < 2 ^ fAt k := by
 obtain ⟨h1, h2, h3, h4⟩ := h
 match k, hk with
 | 0, _ | 1, _ | 2, _ | 3, _ => simp only [pakW, insF, fAt]; omega
theorem f_fits {k : Nat} (hk : k < 4) : 1 ≤ fN k ∧ fAt k + fN k ≤ 64 := by
 match k, hk with
 | 0, _ | 1, _ | 2, _ | 3, _ => decide
abbrev fieldsC : List Value := [.int .i64 0, .int .i64 5, .int .i64 5, .int .i64 3, .int .i64 8, .int .i64 3, .int .i64 11, .int .i64 12]
theorem fields_at {k : Nat} (hk : k < 4) : Reads fieldsC (k * 2) [.int .i64 (fAt k : Nat), .int .i64 (fN k : Nat)] := by
 match k, hk with
 | 0, _ | 1, _ | 2, _ | 3, _ => exact ⟨rfl, rfl, trivial⟩
theorem ins_at {i : InsM} {k : Nat} (hk : k < 4) : nth [Value.int .i64 i.op, .int .i64 i.a, .int .i64 i.b, .int .i64 i.imm] (k * 1) = some (.int .i64 (insF i k : Nat)) := by
 match k, hk with
 | 0, _ | 1, _ | 2, _ | 3, _ => rfl
def packI (i : InsM) : Nat := i.op + i.a * 32 + i.b * 256 + i.imm * 2048
theorem pakW4 (i : InsM) : pakW i 4 = packI i := by simp only [pakW, insF, fAt, packI]; omega
def decK (w k : Nat) : InsM := ⟨if 0 < k then w % 32 else 0, if 1 < k then w / 32 % 8 else 0, if 2 < k then w / 256 % 8 else 0, if 3 < k then w / 2048 % 4096 else 0⟩
theorem decK_step {w k : Nat} (hk : k < 4) : SetL [Value.int .i64 (decK w k).op, .int .i64 (decK w k).a, .int .i64 (decK w k).b, .int .i64 (decK w k).imm] k [.int .i64 (w / 2 ^ fAt k % 2 ^ fN k : Nat)] [Value.int .i64 (decK w (k + 1)).op, .int .i64 (decK w (k + 1)).a, .int .i64 (decK w (k + 1)).b, .int .i64 (decK w (k + 1)).imm] := by
 have key : ∀ l : List Value, l = [Value.int .i64 (decK w k).op, .int .i64 (decK w k).a, .int .i64 (decK w k).b, .int .i64 (decK w k).imm].set k (.int .i64 (w / 2 ^ fAt k % 2 ^ fN k : Nat)) → SetL [Value.int .i64 (decK w k).op, .int .i64 (decK w k).a, .int .i64 (decK w k).b, .int .i64 (decK w k).imm] k [.int .i64 (w / 2 ^ fAt k % 2 ^ fN k : Nat)] l := fun l e => by rw [e]; exact SetL.set1 (by simpa using hk)
 apply key
 match k, hk with
 | 0, _ | 1, _ | 2, _ | 3, _ => simp [decK, fAt, fN]
theorem decK4 (w : Nat) : decK w 4 = decM w := rfl
theorem decM_fit (w : Nat) : (decM w).Fit := by unfold decM InsM.Fit; dsimp only; omega
theorem pack_dec {w : Nat} (hw : w < 2 ^ 64) : packI (decM w) = w ↔ w < 8388608 := by unfold packI decM; dsimp only; omega
theorem tr_cFields  : TrR Tryz.prog 136 [] ([]) (.agg fieldsC.toArray) := by
 refine Tr.enter Tryz.func136 rfl Tryz.ntmps136 rfl (fun W F => ?_)
 refine Wp.app ?_
 refine Wr ?_
 refine zA fun b1 => ?_
 refine zq [2,5,3,4,23,23,23,23] ?_
 refine Ops.pv (pv_buildA (zs := [.int .i64 0, .int .i64 0, .int .i64 0, .int .i64 0, .int .i64 0, .int .i64 0, .int .i64 0, .int .i64 0]) (cs := fieldsC) rfl rfl) rfl ?_
 refine zq [14,2,5,10] ?_
 exact Ends.ret (res_one rfl (rv_cellK [_, _, _, _, _, _, _, _] rfl rfl rfl ⟨rfl, rfl, rfl, rfl, rfl, rfl, rfl, rfl, trivial⟩)) ⟨rfl, rfl⟩
set_option maxHeartbeats 4000000 in
theorem tr_cPack (i : InsM) (hi : i.Fit) : TrR Tryz.prog 138 [i.v] ([]) (.tuple #[.int .u64 (if i.op ≤ 17 then packI i else 0 : Nat), .int .i64 (if i.op ≤ 17 then 0 else 10 : Int)]) := by
 refine Tr.enter Tryz.func138 rfl Tryz.ntmps138 rfl (fun W F => ?_)
 refine Wp.app ?_
 refine Wr ?_
 refine zB fun b1 => ?_
 refine zq [1,1,2,5,3,3,4,6,8,42,0] ?_
 refine Ops.pvcn rfl rfl (fun hg => pv_fieldAddr0 rfl rfl) rfl ?_
 refine Ops.pvcn rfl rfl (fun hg => Pv.setE (t := 11) rfl (cv_pos hg) (pv_load rfl rfl rfl)) rfl ?_
 refine Ops.pvcn rfl rfl (fun hg => Pv.setE (t := 11) rfl (cv_pos hg) (Pv.setE (t := 12) rfl (cv_pos hg) (pv_gtr rfl rfl))) rfl ?_
 refine zq [47,2,5] ?_
 refine Wp.cond_dect rfl (fun h1 => ?_) (fun h1 => ?_)
 ·
  have h17 : ¬ i.op ≤ 17 := by omega
  refine zq [3,4,1,1,2,5,10,12] ?_
  exact Ends.ret (res2 rfl rfl rfl) ⟨by rw [if_neg h17, if_neg h17] <;> rfl, rfl⟩
 have h17 : i.op ≤ 17 := by omega
 refine zq [11,5,3,3,4,6,8,6,8,6,8,6,8] ?_
 refine Ops.pv (pv_buildA (zs := [.int .i64 0, .int .i64 0, .int .i64 0, .int .i64 0]) (cs := [.int .i64 i.op, .int .i64 i.a, .int .i64 i.b, .int .i64 i.imm]) rfl rfl) rfl ?_
 refine zq [0,2,5,20] ?_
 refine Wp.loopK (σ := Nat) [(23, _)] (fun s => [(2, .int .u64 (pakW i s : Nat)), (24, .int .i64 s)]) (fun s => (b1, .cells [.int .i64 i.op, .int .i64 i.a, .int .i64 i.b, .int .i64 i.imm].toArray 165) :: F) (fun s => s ≤ 4) (fun s => 4 - s) 0 (Nat.zero_le _) ⟨rfl, trivial⟩ ⟨rfl, rfl, trivial⟩ (by intro w ho; (try dsimp only [List.nil_append, List.cons_append]); exact Drop.own ho) ?_
 rintro k KK hk4 hK
 dsimp only [List.cons_append, List.nil_append] at hK ⊢
 refine zq [3,4,42,2,5,3] ?_
 refine Wp.cond_dect rfl (fun h2 => ?_) (fun h2 => ?_)
 ·
  have hk : k < 4 := by omega
  have hv64 : insF i k < 2 ^ 64 := Nat.lt_of_lt_of_le (insF_lt hi hk) (Nat.pow_le_pow_right (by omega) (by have := (f_fits hk).2; omega))
  refine zq [11,5,3,20,3,4,0] ?_
  refine Ops.pv (pv_index1 (i := k) rfl rfl rfl rfl hk (ins_at hk)) rfl ?_
  refine zq [1,1,2,5,3,4] ?_
  refine zC (tr_cFields) ?_
  refine zq [0] ?_
  refine Ops.pv (pv_indexK (i := k) [.int .i64 (fAt k : Nat), .int .i64 (fN k : Nat)] rfl rfl rfl rfl hk rfl (fields_at hk)) rfl ?_
  refine zA fun b2 => ?_
  refine zq [14,2,5,3,4,0,6,8,6,8,0] ?_
  refine Ops.pv (pv_conv rfl (u64n (k := insF i k) rfl hv64)) rfl ?_
  refine zC ((tr_bPut (pakW i k) (fAt k) (fN k) (insF i k) (pakW_lt hi hk) (f_fits hk).1 (f_fits hk).2 hv64).eq (r' := .tuple #[.int .u64 (pakW i (k + 1) : Nat), .int .i64 0]) (by rw [putV, fldE, if_pos (insF_lt hi hk), if_pos (insF_lt hi hk)]; rfl)) ?_
  refine zq [0,7,7,1,1,2,5,3,4,0,67,2,5,17,11,19,5,4,52,0,2,49] ?_
  refine Goes.back (hK (k + 1) (by omega) (by omega)) ⟨rfl, rfl, rfl, trivial⟩
 obtain rfl : k = 4 := by omega
 rw [pakW4]
 refine zq [41,16,16,40,5,3,4,0,1,1,2,5,10] ?_
 exact Ends.ret (res2 rfl rfl rfl) ⟨by rw [if_pos h17, if_pos h17], rfl⟩
theorem ptr4_at {b k : Nat} (hk : k < 4) : nth [Value.pointer (some ⟨b, 0, none⟩), .pointer (some ⟨b, 1, none⟩), .pointer (some ⟨b, 2, none⟩), .pointer (some ⟨b, 3, none⟩)] (k * 1) = some (.pointer (some ⟨b, k, none⟩)) := by
 match k, hk with
 | 0, _ | 1, _ | 2, _ | 3, _ => rfl
theorem unp_ok {w : Nat} (hw : w < 2 ^ 64) : insOk w ↔ (decM w).op ≤ 17 ∧ packI (decM w) = w := by rw [pack_dec hw]; unfold insOk decM; dsimp only; omega
set_option maxHeartbeats 4000000 in
theorem tr_cUnpack (w : Nat) (hw : w < 2 ^ 64) : TrR Tryz.prog 76 [.int .u64 w] ([]) (.tuple #[(unpM w).1.v, .int .i64 (unpM w).2]) := by
 refine Tr.enter Tryz.func76 rfl Tryz.ntmps76 rfl (fun W F => ?_)
 refine Wp.app ?_
 refine Wr ?_
 refine zA fun b1 => ?_
 refine zq [1,2,5,3,4] ?_
 refine zA fun b2 => ?_
 refine zq [2,5,3,3,4,6,6,6,6] ?_
 refine Ops.pv (pv_buildA (zs := [.pointer none, .pointer none, .pointer none, .pointer none]) (cs := [.pointer (some ⟨b2, 0, none⟩), .pointer (some ⟨b2, 1, none⟩), .pointer (some ⟨b2, 2, none⟩), .pointer (some ⟨b2, 3, none⟩)]) rfl rfl) rfl ?_
 refine zq [0,2,5,20] ?_
 refine Wp.loopK (σ := Nat) [(0, _), (2, _), (4, _), (16, _)] (fun s => [(17, .int .i64 s)]) (fun s => (b2, .cells [.int .i64 (decK w s).op, .int .i64 (decK w s).a, .int .i64 (decK w s).b, .int .i64 (decK w s).imm].toArray 165) :: (b1, .cells [.int .i64 0, .int .i64 0, .int .i64 0, .int .i64 0].toArray 165) :: F) (fun s => s ≤ 4) (fun s => 4 - s) 0 (Nat.zero_le _) ⟨rfl, rfl, rfl, rfl, trivial⟩ ⟨rfl, trivial⟩ (by intro w ho; exact ho) ?_
 rintro k KK hk4 hK
 dsimp only [List.cons_append, List.nil_append] at hK ⊢
 refine zq [3,4,42,2,5,3] ?_
 refine Wp.cond_dect rfl (fun h1 => ?_) (fun h1 => ?_)
 ·
  have hk : k < 4 := by omega
  have hst := decK_step (w := w) hk
  have hv63 : w / 2 ^ fAt k % 2 ^ fN k < 2 ^ 63 := Nat.lt_of_lt_of_le (Nat.mod_lt _ (Nat.two_pow_pos _)) (Nat.pow_le_pow_right (by omega) (by match k, hk with | 0, _ | 1, _ | 2, _ | 3, _ => decide))
  refine zq [11,5,3,20,3,4,0] ?_
  refine Ops.pv (pv_index1 (i := k) rfl rfl rfl rfl hk (ptr4_at hk)) rfl ?_
  refine zq [1,1,2,5,3,4] ?_
  refine zC (tr_cFields) ?_
  refine zq [0] ?_
  refine Ops.pv (pv_indexK (i := k) [.int .i64 (fAt k : Nat), .int .i64 (fN k : Nat)] rfl rfl rfl rfl hk rfl (fields_at hk)) rfl ?_
  refine zA fun b3 => ?_
  refine zq [14,2,5,3,4,0,6,8,6,8] ?_
  refine zC (tr_bGet w (fAt k) (fN k) hw (f_fits hk).1 (f_fits hk).2) ?_
  refine zq [0,7,7,1,1,2,5,4,0,0] ?_
  refine Ops.pv (pv_conv rfl (w64n (k := w / 2 ^ fAt k % 2 ^ fN k) rfl hv63)) rfl ?_
  refine zq [9,25,2,19,5,4,52,0,2,49] ?_
  refine Goes.back (hK (k + 1) (by omega) (by omega)) ⟨rfl, rfl, rfl, rfl, rfl, trivial⟩
 obtain rfl : k = 4 := by omega
 rw [decK4]
 refine zq [41,16,16,40,5,3,3,4,34] ?_
 refine zC (tr_cPack (decM w) (decM_fit w)) ?_
 refine zq [0,7,7,1,1,2,5,3,4,0,27,0] ?_
 refine Ops.pvcn rfl rfl (fun hg => pv_move rfl) rfl ?_
 refine Ops.pvcn rfl rfl (fun hg => Pv.setE (t := 46) rfl (cv_pos hg) (pv_move rfl)) rfl ?_
 refine Ops.pvcn rfl rfl (fun hg => Pv.setE (t := 46) rfl (cv_pos hg) (Pv.setE (t := 47) rfl (cv_pos hg) (pv_neq rfl rfl))) rfl ?_
 refine zq [47,2,5] ?_
 refine Wp.cond_dect rfl (fun h2 => ?_) (fun h2 => ?_)
 ·
  refine zq [3,4,23,14,1,2,5,10,12] ?_
  have hno : ¬ insOk w := fun h => by obtain ⟨h1, h2⟩ := (unp_ok hw).1 h; simp_all
  exact Ends.ret (res_list (rs := [.cell 2 165, .tmp 3]) rfl ⟨_, _, rfl, rv_cellK [_, _, _, _] rfl rfl rfl ⟨rfl, rfl, rfl, rfl, trivial⟩, ⟨_, _, rfl, rv_tmp rfl, rfl⟩⟩ rfl) ⟨by rw [unpM, if_neg hno] <;> rfl, rfl⟩
 refine zq [11,5,3,4,34,14,1,2,5,10] ?_
 have hok : insOk w := (unp_ok hw).2 (by by_cases h17 : (decM w).op ≤ 17; (rw [if_pos h17, if_pos h17] at h2; exact ⟨h17, by omega⟩); (rw [if_neg h17] at h2; omega))
 exact Ends.ret (res_list (rs := [.cell 2 165, .tmp 3]) rfl ⟨_, _, rfl, rv_cellK [_, _, _, _] rfl rfl rfl ⟨rfl, rfl, rfl, rfl, trivial⟩, ⟨_, _, rfl, rv_tmp rfl, rfl⟩⟩ rfl) ⟨by rw [unpM, if_pos hok], rfl⟩
theorem tmod64 {n : Nat} : ((n : Int)).tmod 64 = ((n % 64 : Nat) : Int) := tmod_nat rfl
theorem sh64 {n : Nat} : min ((n % 64 : Nat) : Int).toNat IntKind.u64.bits = n % 64 := by
 have : n % 64 < 64 := Nat.mod_lt _ (by omega)
 show min ((n % 64 : Nat) : Int).toNat 64 = n % 64
 omega
theorem nextPc_eq {pc : Int} (h : 0 ≤ pc ∧ pc ≤ 4095) : (pc + 1).tmod 4096 = nextPc pc := by
 unfold nextPc
 rw [Int.tmod_eq_emod_of_nonneg (by omega)]
 split <;> omega
theorem RegsM.nth0 {r : RegsM} {i : Nat} (h : i < 8) : SL.nth r.cells (0 + i * 1) = some (.int .u64 (r.get i)) := by rw [Nat.zero_add, Nat.mul_one]; exact r.nth h
theorem eff_set {r : RegsM} {v : Int} {p1 p2 p3 p4 p5 : Value} {i : Nat} (h : i < 8) : SetL [.int .u64 r.r0, .int .u64 r.r1, .int .u64 r.r2, .int .u64 r.r3, .int .u64 r.r4, .int .u64 r.r5, .int .u64 r.r6, .int .u64 r.r7, p1, p2, p3, p4, p5] (0 + i * 1) [.int .u64 v]
    [.int .u64 (r.set v i).r0, .int .u64 (r.set v i).r1, .int .u64 (r.set v i).r2, .int .u64 (r.set v i).r3, .int .u64 (r.set v i).r4, .int .u64 (r.set v i).r5, .int .u64 (r.set v i).r6, .int .u64 (r.set v i).r7, p1, p2, p3, p4, p5] := by
  match i, h with
  | 0, _ | 1, _ | 2, _ | 3, _ | 4, _ | 5, _ | 6, _ | 7, _ => exact SetL.set1 (l := [.int .u64 r.r0, .int .u64 r.r1, .int .u64 r.r2, .int .u64 r.r3, .int .u64 r.r4, .int .u64 r.r5, .int .u64 r.r6, .int .u64 r.r7, p1, p2, p3, p4, p5]) (by simp)
set_option maxHeartbeats 2000000 in
theorem tr_cSum (op : Nat) (a : Int) (n : Nat) : TrR Tryz.prog 139 [.int .i64 op, .int .u64 a, .int .u64 n] ([]) (.tuple #[.int .u64 (sumV op a n), .bool (decide (sumB op))]) := by
 refine Tr.enter Tryz.func139 rfl Tryz.ntmps139 rfl (fun W F => ?_)
 refine Wp.app ?_
 refine zq [3,4,1,1,2,5,3,3,4,0,2,5,20,3,4,22,1,2,5] ?_
 refine Wp.cond_dect rfl (fun h1 => ?_) (fun h1 => ?_)
 ·
  obtain rfl : op = 2 := by omega
  refine zq [3,4,0,1,1,2,5,10,15,12] ?_
  exact zr ⟨rfl, rfl⟩
 refine zq [3,4,22,1,2,5] ?_
 refine Wp.cond_dect rfl (fun h2 => ?_) (fun h2 => ?_)
 ·
  obtain rfl : op = 3 := by omega
  refine zq [3,4,0,0] ?_
  refine Ops.pv (pv_add rfl rfl rfl) rfl ?_
  refine zq [1,1,2,5,10,15,12] ?_
  exact zr ⟨rfl, rfl⟩
 refine zq [3,4,22,1,2,5] ?_
 refine Wp.cond_dect rfl (fun h3 => ?_) (fun h3 => ?_)
 ·
  obtain rfl : op = 4 := by omega
  refine zq [3,4,0,0] ?_
  refine Ops.pv (pv_sub rfl rfl rfl) rfl ?_
  refine zq [1,1,2,5,10,15,12] ?_
  exact zr ⟨rfl, rfl⟩
 refine zq [3,4,22,1,2,5] ?_
 refine Wp.cond_dect rfl (fun h4 => ?_) (fun h4 => ?_)
 ·
  obtain rfl : op = 5 := by omega
  refine zq [3,4,0,0] ?_
  refine Ops.pv (pv_mul rfl rfl rfl) rfl ?_
  refine zq [1,1,2,5,10,15,12] ?_
  exact zr ⟨rfl, rfl⟩
 refine zq [3,4,22,1,2,5] ?_
 refine Wp.cond_dect rfl (fun h5 => ?_) (fun h5 => ?_)
 ·
  obtain rfl : op = 6 := by omega
  refine zq [3,4,0,0] ?_
  refine Ops.pv (pv_and rfl rfl rfl) rfl ?_
  refine zq [1,1,2,5,10,15,12] ?_
  exact zr ⟨rfl, rfl⟩
 refine zq [3,4,22,1,2,5] ?_
 refine Wp.cond_dect rfl (fun h6 => ?_) (fun h6 => ?_)
 ·
  obtain rfl : op = 7 := by omega
  refine zq [3,4,0,0] ?_
  refine Ops.pv (pv_or rfl rfl rfl) rfl ?_
  refine zq [1,1,2,5,10,15,12] ?_
  exact zr ⟨rfl, rfl⟩
 refine zq [3,4,22,1,2,5] ?_
 refine Wp.cond_dect rfl (fun h7 => ?_) (fun h7 => ?_)
 ·
  obtain rfl : op = 8 := by omega
  refine zq [3,4,0,0] ?_
  refine Ops.pv (pv_xor rfl rfl rfl) rfl ?_
  refine zq [1,1,2,5,10,15,12] ?_
  exact zr ⟨rfl, rfl⟩
 refine zq [3,4,22,1,2,5] ?_
 refine Wp.cond_dect rfl (fun h8 => ?_) (fun h8 => ?_)
 ·
  obtain rfl : op = 9 := by omega
  refine zq [3,4,0,0] ?_
  refine Ops.pv (pv_rem rfl rfl (by decide) tmod64) rfl ?_
  refine Ops.pv (pv_shl rfl rfl (by omega) rfl) rfl ?_
  refine zq [1,1,2,5,10,15,12] ?_
  exact Ends.ret (res2 rfl rfl rfl) ⟨by rw [sh64] <;> rfl, rfl⟩
 refine zq [3,4,22,1,2,5] ?_
 refine Wp.cond_dect rfl (fun h9 => ?_) (fun h9 => ?_)
 ·
  obtain rfl : op = 10 := by omega
  refine zq [3,4,0,0] ?_
  refine Ops.pv (pv_rem rfl rfl (by decide) tmod64) rfl ?_
  refine Ops.pv (pv_shr rfl rfl (by omega) rfl) rfl ?_
  refine zq [1,1,2,5,10,15,12] ?_
  exact Ends.ret (res2 rfl rfl rfl) ⟨by rw [sh64] <;> rfl, rfl⟩
 refine zq [11,19,5,3,4,0,1,1,2,5,10] ?_
 have hb : ¬ sumB op := by unfold sumB; omega
 exact Ends.ret (res2 rfl rfl rfl) ⟨by rw [decide_eq_false hb, sumV, if_neg (by omega), if_neg (by omega), if_neg (by omega), if_neg (by omega), if_neg (by omega), if_neg (by omega), if_neg (by omega), if_neg (by omega), if_neg (by omega)], rfl⟩
set_option maxHeartbeats 16000000 in
theorem tr_cRun (i : InsM) (hi : i.Ok) (r : RegsM) (hr : r.Ok) (pc : Int) (hp : 0 ≤ pc ∧ pc ≤ 4095) : TrR Tryz.prog 77 [i.v, r.v, .int .i64 pc] ([]) (.tuple #[(runM i r pc).v, .int .i64 0]) := by
 have h17 := hi.1
 have hi4 := hi.2.2.2
 have hfit : i.Fit := ⟨by omega, hi.2.1, hi.2.2.1, hi.2.2.2⟩
 obtain ⟨nb, hnb⟩ : ∃ nb : Nat, r.get i.b = (nb : Int) := ⟨(r.get i.b).toNat, by have := hr.get i.b; unfold U64 at this; omega⟩
 have hse : ∀ {v : Int} {p1 p2 p3 p4 p5 : Value}, SetL [.int .u64 r.r0, .int .u64 r.r1, .int .u64 r.r2, .int .u64 r.r3, .int .u64 r.r4, .int .u64 r.r5, .int .u64 r.r6, .int .u64 r.r7, p1, p2, p3, p4, p5] (0 + i.a * 1) [.int .u64 v] _ := fun {v p1 p2 p3 p4 p5} => eff_set hi.2.1
 refine Tr.enter Tryz.func77 rfl Tryz.ntmps77 rfl (fun W F => ?_)
 refine Wp.app ?_
 refine Wr ?_
 refine zB fun b1 => ?_
 refine zB fun b2 => ?_
 refine zA fun b3 => ?_
 refine zq [1,2,5,3,3,4,34] ?_
 refine zC ((tr_cPack i hfit).eq (r' := .tuple #[.int .u64 (packI i : Nat), .int .i64 0]) (by rw [if_pos h17, if_pos h17])) ?_
 refine zq [0,7,7,1,1,2,5,3,4,0,67,2,5,17,11,5,3,3,4,0,42,0] ?_
 refine Ops.pvcn rfl rfl (fun hg => pv_move rfl) rfl ?_
 refine Ops.pvcn rfl rfl (fun hg => Pv.setE (t := 28) rfl (cv_pos hg) (pv_geq rfl rfl)) rfl ?_
 refine zq [47,2,5] ?_
 refine Wp.cond_dect rfl (fun h1 => (by exfalso; omega)) (fun h1 => ?_)
 refine zq [11,5,3] ?_
 refine AnyH.start [(b1, .cells [.int .i64 i.op, .int .i64 i.a, .int .i64 i.b, .int .i64 i.imm].toArray 165), (b2, .cells r.cells.toArray 33)] 14 rfl ?_
 refine zd [0,0,1,2] ?_
 refine Tk 2 rfl rfl (pv_indexAddrA (i := i.a) rfl rfl rfl hi.2.1) rfl ?_
 refine Tk 3 rfl rfl (pv_load rfl rfl (RegsM.nth0 hi.2.1)) rfl ?_
 refine zd [4,0,5,2] ?_
 refine Tk 6 rfl rfl (pv_indexAddrA (i := i.b) rfl rfl rfl hi.2.2.1) rfl ?_
 refine Tk 7 rfl rfl ((pv_load (v := .int .u64 (nb : Int)) rfl rfl (by rw [RegsM.nth0 hi.2.2.1, hnb]))) rfl ?_
 refine zd [8,0,9,2] ?_
 refine Tk 10 rfl rfl (pv_conv rfl (u64n (k := i.imm) rfl (by omega))) rfl ?_
 refine zd [11,5,12,5,13,5] ?_
 refine AnyH.done (by kernel_rfl) ?_
 refine zq [5,3,4,33,0,52] ?_
 refine Ops.pv (pv_rem rfl rfl (by decide) (nextPc_eq hp)) rfl ?_
 refine zq [23] ?_
 refine zA fun b4 => ?_
 refine zq [14,2,5,3,3,4,6,8,0,0] ?_
 refine zC ((tr_cSum i.op (r.get i.a) nb).eq (r' := .tuple #[.int .u64 (sumV i.op (r.get i.a) (r.get i.b)), .bool (decide (sumB i.op))]) (by rw [hnb])) ?_
 refine zq [0,7,7,1,1,2,5,3,4,0,2,5] ?_
 refine Wp.cond_dect rfl (fun h2 => ?_) (fun h2 => ?_)
 ·
  have hb : sumB i.op := by assumption
  refine zq [3,4,6,8,0,6] ?_
  refine Ops.pv (pv_indexAddrA (i := i.a) rfl rfl rfl hi.2.1) rfl ?_
  refine zq [25,2,5,3,4,37,14,1,2,5,10,12] ?_
  have he : runM i r pc = ⟨r.set (sumV i.op (r.get i.a) (r.get i.b)) i.a, nextPc pc, 0, 0, 0, 0⟩ := by rw [runM, if_pos hb]
  exact Ends.ret (res_list (rs := [.cell 6 169, .tmp 7]) rfl ⟨_, _, rfl, rv_cellK [_, _, _, _, _, _, _, _, _, _, _, _, _] rfl rfl rfl ⟨rfl, rfl, rfl, rfl, rfl, rfl, rfl, rfl, rfl, rfl, rfl, rfl, rfl, trivial⟩, ⟨_, _, rfl, rv_tmp rfl, rfl⟩⟩ rfl) ⟨by rw [he], rfl⟩
 have hb : ¬ sumB i.op := by assumption
 refine zq [11,5,3,3,4,6,8,2,5,20,3,20,3,20,3,20,3,20,3,20,3,20,3,20,3,20,3,20,3,3,3,4,22,1,2,5] ?_
 refine Wp.cond_dect rfl (fun h3 => ?_) (fun h3 => ?_)
 ·
  have ho : i.op = 0 := by omega
  refine zq [41,16,16,40,5,3,4,0,6,25,6,25,2,5,41,28,16,28,16,28,16,28,16,28,16,28,16,28,16,28,16,40,5,3,4,37,14,1,2,5,10] ?_
  have he : runM i r pc = ⟨r, pc, 4, 0, 0, 0⟩ := by rw [runM, if_neg hb]; simp [ho]
  exact Ends.ret (res_list (rs := [.cell 6 169, .tmp 7]) rfl ⟨_, _, rfl, rv_cellK [_, _, _, _, _, _, _, _, _, _, _, _, _] rfl rfl rfl ⟨rfl, rfl, rfl, rfl, rfl, rfl, rfl, rfl, rfl, rfl, rfl, rfl, rfl, trivial⟩, ⟨_, _, rfl, rv_tmp rfl, rfl⟩⟩ rfl) ⟨by rw [he], rfl⟩
 refine zq [11,5,3,3,4,22,1,2,5] ?_
 refine Wp.cond_dect rfl (fun h4 => ?_) (fun h4 => ?_)
 ·
  have ho : i.op = 1 := by omega
  refine zq [41,16,16,28,16,40,5,3,4,6,8,0,6] ?_
  refine Ops.pv (pv_indexAddrA (i := i.a) rfl rfl rfl hi.2.1) rfl ?_
  refine zq [25,2,5,41,28,16,28,16,28,16,28,16,28,16,28,16,28,16,40,5,3,4,37,14,1,2,5,10] ?_
  have he : runM i r pc = ⟨r.set i.imm i.a, nextPc pc, 0, 0, 0, 0⟩ := by rw [runM, if_neg hb]; simp [ho]
  exact Ends.ret (res_list (rs := [.cell 6 169, .tmp 7]) rfl ⟨_, _, rfl, rv_cellK [_, _, _, _, _, _, _, _, _, _, _, _, _] rfl rfl rfl ⟨rfl, rfl, rfl, rfl, rfl, rfl, rfl, rfl, rfl, rfl, rfl, rfl, rfl, trivial⟩, ⟨_, _, rfl, rv_tmp rfl, rfl⟩⟩ rfl) ⟨by rw [he], rfl⟩
 refine zq [11,5,3,3,4,22,1,2,5] ?_
 refine Wp.cond_dect rfl (fun h5 => ?_) (fun h5 => ?_)
 ·
  have ho : i.op = 17 := by omega
  refine zq [41,16,16,28,16,28,16,40,5,3,4,6,8,0] ?_
  refine Ops.pv (pv_shl (r := IntKind.u64.wrap (r.get i.a * 2 ^ 12)) rfl rfl (by decide) rfl) rfl ?_
  refine zq [0] ?_
  refine Ops.pv (pv_add rfl rfl rfl) rfl ?_
  refine zq [6] ?_
  refine Ops.pv (pv_indexAddrA (i := i.a) rfl rfl rfl hi.2.1) rfl ?_
  refine zq [25,2,5,41,28,16,28,16,28,16,28,16,28,16,28,16,40,5,3,4,37,14,1,2,5,10] ?_
  have he : runM i r pc = ⟨r.set (IntKind.u64.wrap (IntKind.u64.wrap (r.get i.a * 2 ^ 12) + i.imm)) i.a, nextPc pc, 0, 0, 0, 0⟩ := by rw [runM, if_neg hb]; simp [ho]
  exact Ends.ret (res_list (rs := [.cell 6 169, .tmp 7]) rfl ⟨_, _, rfl, rv_cellK [_, _, _, _, _, _, _, _, _, _, _, _, _] rfl rfl rfl ⟨rfl, rfl, rfl, rfl, rfl, rfl, rfl, rfl, rfl, rfl, rfl, rfl, rfl, trivial⟩, ⟨_, _, rfl, rv_tmp rfl, rfl⟩⟩ rfl) ⟨by rw [he], rfl⟩
 refine zq [11,5,3,3,4,22,1,2,5] ?_
 refine Wp.cond_dect rfl (fun h6 => ?_) (fun h6 => ?_)
 ·
  have ho : i.op = 11 := by omega
  refine zq [41,16,16,28,16,28,16,28,16,40,5,3] ?_
  refine AnyH.start [(b1, .cells [.int .i64 i.op, .int .i64 i.a, .int .i64 i.b, .int .i64 i.imm].toArray 165)] 11 rfl ?_
  refine zd [0,1,1,1] ?_
  refine Tk 2 rfl rfl (pv_add rfl rfl rfl) rfl ?_
  refine zd [3,0,4,2,5,0] ?_
  refine z1 6 ?_
  refine zd [7,0] ?_
  refine z1 8 ?_
  refine zd [9,0] ?_
  refine z1 10 ?_
  refine AnyH.done (by kernel_rfl) ?_
  refine zq [5,41,28,16,28,16,28,16,28,16,28,16,40,5,3,4,37,14,1,2,5,10] ?_
  have he : runM i r pc = ⟨r, nextPc pc, 1, IntKind.u64.wrap (r.get i.b + i.imm), i.a, 0⟩ := by rw [runM, if_neg hb]; simp [ho]
  exact Ends.ret (res_list (rs := [.cell 6 169, .tmp 7]) rfl ⟨_, _, rfl, rv_cellK [_, _, _, _, _, _, _, _, _, _, _, _, _] rfl rfl rfl ⟨rfl, rfl, rfl, rfl, rfl, rfl, rfl, rfl, rfl, rfl, rfl, rfl, rfl, trivial⟩, ⟨_, _, rfl, rv_tmp rfl, rfl⟩⟩ rfl) ⟨by rw [he]; simp only [hnb], rfl⟩
 refine zq [11,5,3,3,4,22,1,2,5] ?_
 refine Wp.cond_dect rfl (fun h7 => ?_) (fun h7 => ?_)
 ·
  have ho : i.op = 12 := by omega
  refine zq [41,16,16,28,16,28,16,28,16,28,16,40,5,3,4,0,0] ?_
  refine Ops.pv (pv_add rfl rfl rfl) rfl ?_
  refine zq [0,6,25,6,25,6,25,2,5,41,28,16,28,16,28,16,28,16,40,5,3,4,37,14,1,2,5,10] ?_
  have he : runM i r pc = ⟨r, nextPc pc, 2, IntKind.u64.wrap (r.get i.b + i.imm), 0, r.get i.a⟩ := by rw [runM, if_neg hb]; simp [ho]
  exact Ends.ret (res_list (rs := [.cell 6 169, .tmp 7]) rfl ⟨_, _, rfl, rv_cellK [_, _, _, _, _, _, _, _, _, _, _, _, _] rfl rfl rfl ⟨rfl, rfl, rfl, rfl, rfl, rfl, rfl, rfl, rfl, rfl, rfl, rfl, rfl, trivial⟩, ⟨_, _, rfl, rv_tmp rfl, rfl⟩⟩ rfl) ⟨by rw [he]; simp only [hnb], rfl⟩
 refine zq [11,5,3,3,4,22,1,2,5] ?_
 refine Wp.cond_dect rfl (fun h8 => ?_) (fun h8 => ?_)
 ·
  have ho : i.op = 16 := by omega
  refine zq [41,16,16,28,16,28,16,28,16,28,16,28,16,40,5,3,4,0,6,25,6,25,2,5,41,28,16,28,16,28,16,40,5,3,4,37,14,1,2,5,10] ?_
  have he : runM i r pc = ⟨r, nextPc pc, 3, 0, 0, i.imm⟩ := by rw [runM, if_neg hb]; simp [ho]
  exact Ends.ret (res_list (rs := [.cell 6 169, .tmp 7]) rfl ⟨_, _, rfl, rv_cellK [_, _, _, _, _, _, _, _, _, _, _, _, _] rfl rfl rfl ⟨rfl, rfl, rfl, rfl, rfl, rfl, rfl, rfl, rfl, rfl, rfl, rfl, rfl, trivial⟩, ⟨_, _, rfl, rv_tmp rfl, rfl⟩⟩ rfl) ⟨by rw [he], rfl⟩
 refine zq [11,5,3,3,4,22,1,2,5] ?_
 refine Wp.cond_dect rfl (fun h9 => ?_) (fun h9 => ?_)
 ·
  have ho : i.op = 14 := by omega
  refine zq [41,16,16,28,16,28,16,28,16,28,16,28,16,28,16,40,5,4,1,2,19,5,3,4,0,0,43,2,5] ?_
  refine Wp.cond_dect rfl (fun h10 => ?_) (fun h10 => ?_)
  ·
   refine zq [41,28,16,40,5,3,4,37,14,1,2,5,10] ?_
   have he : runM i r pc = ⟨r, nextPc pc, 0, 0, 0, 0⟩ := by rw [runM, if_neg hb]; simp only [ho]; simp [show ¬ r.get i.a < 1 by omega]
   exact Ends.ret (res_list (rs := [.cell 6 169, .tmp 7]) rfl ⟨_, _, rfl, rv_cellK [_, _, _, _, _, _, _, _, _, _, _, _, _] rfl rfl rfl ⟨rfl, rfl, rfl, rfl, rfl, rfl, rfl, rfl, rfl, rfl, rfl, rfl, rfl, trivial⟩, ⟨_, _, rfl, rv_tmp rfl, rfl⟩⟩ rfl) ⟨by rw [he], rfl⟩
  refine zq [11,19,5,3,4,6,8,6,25,2,5,41,40,5,3,4,37,14,1,2,5,10] ?_
  have he : runM i r pc = ⟨r, i.imm, 0, 0, 0, 0⟩ := by rw [runM, if_neg hb]; simp only [ho]; simp [show r.get i.a < 1 by omega]
  exact Ends.ret (res_list (rs := [.cell 6 169, .tmp 7]) rfl ⟨_, _, rfl, rv_cellK [_, _, _, _, _, _, _, _, _, _, _, _, _] rfl rfl rfl ⟨rfl, rfl, rfl, rfl, rfl, rfl, rfl, rfl, rfl, rfl, rfl, rfl, rfl, trivial⟩, ⟨_, _, rfl, rv_tmp rfl, rfl⟩⟩ rfl) ⟨by rw [he], rfl⟩
 refine zq [11,5,3,3,4,22,1,2,5] ?_
 refine Wp.cond_dect rfl (fun h11 => ?_) (fun h11 => ?_)
 ·
  have ho : i.op = 15 := by omega
  refine zq [41,16,16,28,16,28,16,28,16,28,16,28,16,28,16,28,16,40,5,3,4,0,0,43,2,5] ?_
  refine Wp.cond_dect rfl (fun h12 => ?_) (fun h12 => ?_)
  ·
   refine zq [41,28,16,40,5,3,4,37,14,1,2,5,10] ?_
   have he : runM i r pc = ⟨r, nextPc pc, 0, 0, 0, 0⟩ := by rw [runM, if_neg hb]; simp only [ho]; simp [show ¬ r.get i.a < r.get i.b by omega]
   exact Ends.ret (res_list (rs := [.cell 6 169, .tmp 7]) rfl ⟨_, _, rfl, rv_cellK [_, _, _, _, _, _, _, _, _, _, _, _, _] rfl rfl rfl ⟨rfl, rfl, rfl, rfl, rfl, rfl, rfl, rfl, rfl, rfl, rfl, rfl, rfl, trivial⟩, ⟨_, _, rfl, rv_tmp rfl, rfl⟩⟩ rfl) ⟨by rw [he], rfl⟩
  refine zq [11,19,5,3,4,6,8,6,25,2,5,41,40,5,3,4,37,14,1,2,5,10] ?_
  have he : runM i r pc = ⟨r, i.imm, 0, 0, 0, 0⟩ := by rw [runM, if_neg hb]; simp only [ho]; simp [show r.get i.a < r.get i.b by omega]
  exact Ends.ret (res_list (rs := [.cell 6 169, .tmp 7]) rfl ⟨_, _, rfl, rv_cellK [_, _, _, _, _, _, _, _, _, _, _, _, _] rfl rfl rfl ⟨rfl, rfl, rfl, rfl, rfl, rfl, rfl, rfl, rfl, rfl, rfl, rfl, rfl, trivial⟩, ⟨_, _, rfl, rv_tmp rfl, rfl⟩⟩ rfl) ⟨by rw [he], rfl⟩
 refine zq [11,5,3,4,22,1,2,5] ?_
 refine Wp.cond_dect rfl (fun h13 => ?_) (fun h13 => (by exfalso; have : ¬ sumB i.op := ‹¬ sumB i.op›; unfold sumB at this; omega))
 have ho : i.op = 13 := by omega
 refine zq [41,16,28,16,28,16,28,16,28,16,28,16,28,16,28,16,28,16,40,5,3,4,6,8,6,25,2,5,41,40,5,3,4,37,14,1,2,5,10] ?_
 have he : runM i r pc = ⟨r, i.imm, 0, 0, 0, 0⟩ := by rw [runM, if_neg hb]; simp [ho]
 exact Ends.ret (res_list (rs := [.cell 6 169, .tmp 7]) rfl ⟨_, _, rfl, rv_cellK [_, _, _, _, _, _, _, _, _, _, _, _, _] rfl rfl rfl ⟨rfl, rfl, rfl, rfl, rfl, rfl, rfl, rfl, rfl, rfl, rfl, rfl, rfl, trivial⟩, ⟨_, _, rfl, rv_tmp rfl, rfl⟩⟩ rfl) ⟨by rw [he], rfl⟩
end Go.Proofs.YtipncceiekalfaaGreat
end
section
set_option linter.unusedVariables false
set_option linter.unusedSimpArgs false
set_option linter.unusedSectionVars false
namespace Go.Proofs.YtipncceiekalfaaGreat
open Go.SL
def wordsC (ws : List Int) : List Value := ws.map (.int .u64 ·)
theorem wordsC_len (ws : List Int) : (wordsC ws).length = ws.length := by simp [wordsC]
abbrev memB (mb wb n : Nat) (ws : List Int) : Hp := (mb, .cells [.slice (some ⟨wb, 0, none⟩) n n].toArray 193) :: (wb, .cells (wordsC ws).toArray 22) :: []
abbrev memP (mb : Nat) : Value := .pointer (some ⟨mb, 0, none⟩)
def memIn (ws : List Int) (a n : Int) : Prop := ¬ (((a < 0 ∨ n < 0) ∨ a > ws.length) ∨ n > ws.length - a)
instance (ws : List Int) (a n : Int) : Decidable (memIn ws a n) := by unfold memIn; infer_instance
def memAt (ws : List Int) (a : Int) : Int := ws.getD a.toNat 0
def memGet (ws : List Int) (a : Int) : Int × Int := if memIn ws a 1 then (memAt ws a, 0) else (0, 1)
def memPutE (ws : List Int) (a : Int) : Int := if memIn ws a 1 then 0 else 1
def memPut (ws : List Int) (a v : Int) : List Int := if memIn ws a 1 then ws.set a.toNat v else ws
def zeroW (ws : List Int) (a n : Nat) : List Int := ws.take a ++ List.replicate n 0 ++ ws.drop (a + n)
def memZero (ws : List Int) (a n : Int) : List Int := if memIn ws a n then zeroW ws a.toNat n.toNat else ws
theorem memIn_one {ws : List Int} {a : Int} : memIn ws a 1 ↔ 0 ≤ a ∧ a < ws.length := by unfold memIn; omega
theorem word_nth {ws : List Int} {a : Nat} (h : a < ws.length) : nth (wordsC ws) (a + 0 * 1) = some (.int .u64 (memAt ws (a : Int))) := by
 rw [nth_eq, Nat.zero_mul, Nat.add_zero, wordsC, List.getElem?_map, List.getElem?_eq_getElem h]
 simp [memAt, List.getD, List.getElem?_eq_getElem h]
theorem word_set {ws : List Int} {a : Nat} {v : Int} (h : a < ws.length) : SetL (wordsC ws) (a + 0 * 1) [.int .u64 v] (wordsC (ws.set a v)) := by
 have := SetL.set1 (l := wordsC ws) (i := a) (v := .int .u64 v) (by rw [wordsC_len]; exact h)
 rw [Nat.zero_mul, Nat.add_zero, wordsC, wordsC, List.map_set]
 rwa [wordsC] at this
theorem zero_cells (ws : List Int) (a n : Nat) : (wordsC ws).take a ++ List.replicate n (.int .u64 0) ++ (wordsC ws).drop (a + n) = wordsC (zeroW ws a n) := by
 simp [wordsC, zeroW, List.map_take, List.map_drop]
theorem zeroW_len {ws : List Int} {a n : Nat} (h : a + n ≤ ws.length) : (zeroW ws a n).length = ws.length := by
 simp [zeroW]; omega
theorem rep_words (n : Nat) : (List.replicate n [Value.int .u64 0]).flatten = wordsC (List.replicate n 0) := by
 simp [wordsC]
theorem memPut_len (ws : List Int) (a v : Int) : (memPut ws a v).length = ws.length := by unfold memPut; split <;> simp
theorem memZero_len (ws : List Int) (a n : Int) : (memZero ws a n).length = ws.length := by
 unfold memZero
 split
 ·
  rename_i h; unfold memIn at h; exact zeroW_len (by omega)
 ·
  rfl
def pw (b : Int) : Int := ((2 ^ b.toNat : Nat) : Int)
theorem pw_le {b : Int} (h : b ≤ 16) : 1 ≤ pw b ∧ pw b ≤ 65536 := by
 have h1 : 0 < 2 ^ b.toNat := Nat.two_pow_pos _
 have h2 : 2 ^ b.toNat ≤ 2 ^ 16 := Nat.pow_le_pow_right (by omega) (by omega)
 unfold pw; omega
theorem sh1i {b : Int} (h0 : 0 ≤ b) (h : b ≤ 16) : IntKind.i64.wrap (1 * 2 ^ (min b.toNat IntKind.i64.bits)) = pw b := by
 have := pw_le h
 have e : (1 : Int) * 2 ^ (min b.toNat IntKind.i64.bits) = pw b := by
  rw [Int.one_mul, show min b.toNat IntKind.i64.bits = b.toNat by show min b.toNat 64 = _; omega]
  unfold pw; norm_cast
 rw [e]; exact w64 (by omega) (by omega)
theorem shr_pw {a b : Int} (h0 : 0 ≤ b) (h : b ≤ 16) : a.fdiv (2 ^ (min b.toNat IntKind.i64.bits)) = a / pw b := by
 have e : (2 : Int) ^ (min b.toNat IntKind.i64.bits) = pw b := by
  rw [show min b.toNat IntKind.i64.bits = b.toNat by show min b.toNat 64 = _; omega]
  unfold pw; norm_cast
 rw [e]
 exact Int.fdiv_eq_ediv_of_nonneg _ (by have := pw_le h; omega)
theorem bits_i64 {x : BitVec 64} {r : Nat} (h : x.toNat = r) (hr : r < 2 ^ 63) : IntKind.i64.wrap (x.toNat : Int) = (r : Int) := by
 rw [h]; exact w64n rfl hr
theorem and_i64 {a n : Nat} (ha : a < 2 ^ 63) (hn : n ≤ 62) : bitsI .and .i64 (a : Int) ((2 ^ n - 1 : Nat) : Int) = ((a % 2 ^ n : Nat) : Int) := by
 have h1 : 2 ^ n - 1 < 2 ^ 64 := mask_le (by omega)
 have h2 : a % 2 ^ n ≤ a := Nat.mod_le _ _
 refine bits_i64 ?_ (by omega)
 show (BitVec.ofInt 64 (a : Int) &&& BitVec.ofInt 64 ((2 ^ n - 1 : Nat) : Int)).toNat = _
 rw [BitVec.toNat_and, bv_nat a (by omega), bv_nat _ h1, Nat.and_two_pow_sub_one_eq_mod]
theorem and_pw {a b : Int} (ha : 0 ≤ a) (ha2 : a ≤ 65536) (hb : b ≤ 16) : bitsI .and .i64 a (pw b - 1) = a % pw b := by
 obtain ⟨n, rfl⟩ : ∃ n : Nat, a = (n : Int) := ⟨a.toNat, by omega⟩
 have := and_i64 (a := n) (n := b.toNat) (by omega) (by omega)
 have e : pw b - 1 = ((2 ^ b.toNat - 1 : Nat) : Int) := by unfold pw; have := Nat.two_pow_pos b.toNat; omega
 rw [e, this]; unfold pw; norm_cast
def inRangeS (s : Int × Int) : Prop := ((s.2 ≥ 0 ∧ s.2 ≤ 16) ∧ s.1 ≥ 0) ∧ s.1 ≤ 65536 - pw s.2
instance (s : Int × Int) : Decidable (inRangeS s) := by unfold inRangeS; infer_instance
def rightS (s : Int × Int) : Prop := inRangeS s ∧ s.1 % pw s.2 = 0
instance (s : Int × Int) : Decidable (rightS s) := by unfold rightS; infer_instance
def endS (s : Int × Int) : Int := s.1 + pw s.2
def checkS (s : Int × Int) (words : Int) : Int := if ¬ inRangeS s then 1 else if ¬ rightS s then 9 else if endS s > words then 7 else 0
def inS (s t : Int × Int) : Prop := ((rightS s ∧ rightS t) ∧ s.2 ≤ t.2) ∧ s.1 / pw t.2 = t.1 / pw t.2
instance (s t : Int × Int) : Decidable (inS s t) := by unfold inS; infer_instance
def apartS (s t : Int × Int) : Prop := ((rightS s ∧ rightS t) ∧ ¬ inS s t) ∧ ¬ inS t s
instance (s t : Int × Int) : Decidable (apartS s t) := by unfold apartS; infer_instance
def bitsU (kind n : Int) : Int × Int :=
  if kind = 3 ∨ kind = 6 ∨ kind = 7 ∨ kind = 8 then (4, 0) else if kind = 4 ∨ kind = 5 then (1, 0)
  else if kind = 2 then (if n < 1 ∨ n > 4 then (0, 1) else (n + 1, 0)) else if kind = 1 then (if n < 0 ∨ n > 16 then (0, 1) else (n, 0)) else (0, 2)
theorem or2 {v : Nat} : (v * 16 + 1) ||| 2 = v * 16 + 3 := by
 have h1 : v * 16 + 1 = v * 16 ||| 1 := by
  have := Nat.two_pow_add_eq_or_of_lt (b := 1) (i := 4) (by omega) v
  rw [show (2 : Nat) ^ 4 * v = v * 16 by omega] at this; exact this
 have h2 : v * 16 + 3 = v * 16 ||| 3 := by
  have := Nat.two_pow_add_eq_or_of_lt (b := 3) (i := 4) (by omega) v
  rw [show (2 : Nat) ^ 4 * v = v * 16 by omega] at this; exact this
 rw [h1, h2, Nat.or_assoc]; rfl
theorem and2 (w : Nat) : w &&& 2 = w / 2 % 2 * 2 := by
 apply Nat.eq_of_testBit_eq
 intro i
 rw [Nat.testBit_and, show (2 : Nat) = 2 ^ 1 from rfl, Nat.testBit_two_pow, Nat.testBit_mul_two_pow]
 by_cases hi : 1 = i
 ·
  subst hi
  simp [Nat.testBit_eq_decide_div_mod_eq]
 ·
  have h0 : (w / 2 ^ 1 % 2 ^ 1).testBit (i - 1) = (decide (i = 1) && (w / 2 ^ 1).testBit (i - 1)) ∨ i = 0 := by
   by_cases h : i = 0
   ·
    exact .inr h
   ·
    left
    rw [Nat.testBit_mod_two_pow]
    have : (decide (i - 1 < 1)) = decide (i = 1) := by rw [decide_eq_decide]; omega
    rw [this]
  rcases h0 with h0 | h0
  ·
   rw [h0]; simp [hi, Ne.symm hi]
  ·
   subst h0; simp
theorem PteM.ext_cells {a b : PteM} : a = b ↔ [Value.bool a.valid, .bool a.write, .int .i64 a.at_] = [Value.bool b.valid, .bool b.write, .int .i64 b.at_] := by
 cases a; cases b; simp
theorem pte_kind (e : PteM) : KindV [none, none, some .i64] [Value.bool e.valid, .bool e.write, .int .i64 e.at_] := kind_b (kind_b (kind_i trivial))
def pteOf (w : Nat) : PteM := ⟨decide (w % 2 = 1), decide (w / 2 % 2 = 1), ((w / 16 % 4096 * 16 : Nat) : Int)⟩
theorem packE_v {q : Nat} (wr : Bool) (h : q < 4096) : packE ⟨true, wr, ((q * 16 : Nat) : Int)⟩ = 0 := by
 unfold packE
 rw [if_neg (by intro h; cases h), if_neg (by simp), if_neg (by dsimp only; omega)]
theorem packV_v {q : Nat} (wr : Bool) (h : q < 4096) : packV ⟨true, wr, ((q * 16 : Nat) : Int)⟩ = ((q * 16 : Nat) : Int) + 1 + (if wr then 2 else 0) := by
 unfold packV
 rw [packE_v wr h, if_pos rfl, if_neg (by intro h; cases h)]
theorem packV_n (wr : Bool) (a : Int) : packV ⟨false, wr, a⟩ = 0 := by
 unfold packV packE
 by_cases h : (⟨false, wr, a⟩ : PteM) = .zero
 ·
  rw [if_pos h, if_pos rfl, if_pos h]
 ·
  rw [if_neg h, if_pos rfl, if_neg (by decide)]
theorem pte_unp {w : Nat} (hw : w < 2 ^ 64) (h0 : w ≠ 0) : (packE (pteOf w) = 0 ∧ packV (pteOf w) = (w : Int)) ↔ pteOk w := by
 unfold pteOf pteOk
 have hm := Nat.mod_lt (w / 16) (show 4096 > 0 by omega)
 by_cases h1 : w % 2 = 1
 ·
  rw [decide_eq_true h1, packE_v _ hm, packV_v _ hm]
  by_cases h2 : w / 2 % 2 = 1
  ·
   rw [decide_eq_true h2, if_pos rfl]; omega
  ·
   rw [decide_eq_false h2, if_neg (by decide)]; omega
 ·
  rw [decide_eq_false h1, packV_n]
  constructor
  ·
   rintro ⟨_, h⟩; omega
  ·
   rintro ⟨h, _⟩; exact absurd h h1
end Go.Proofs.YtipncceiekalfaaGreat
end
section
set_option linter.unusedVariables false
set_option linter.unusedSimpArgs false
set_option linter.unusedSectionVars false
namespace Go.Proofs.YtipncceiekalfaaGreat
open Go.SL
theorem tr_memNew (n : Nat) (h1 : 64 ≤ n) (h2 : n ≤ 65536) : Tr Tryz.prog 40 [.int .i64 n] ([]) (fun u L' => ∃ mb wb, u = .tuple #[memP mb, .int .i64 0] ∧ L' = memB mb wb n (List.replicate n 0)) := by
 refine Tr.enter Tryz.func40 rfl Tryz.ntmps40 rfl (fun W F => ?_)
 refine Wp.app ?_
 refine zq [3,4,1,1,2,5,3,3,4,0,42,0] ?_
 refine Ops.pvcn rfl rfl (fun hg => pv_move rfl) rfl ?_
 refine Ops.pvcn rfl rfl (fun hg => Pv.setE (t := 7) rfl (cv_pos hg) (pv_gtr rfl rfl)) rfl ?_
 refine zq [47,2,5] ?_
 refine Wp.cond_dect rfl (fun h1 => (by exfalso; omega)) (fun h1 => ?_)
 refine zq [11,5,3,4,0] ?_
 refine Ops.ef rfl (ef_makeSlice (r := n) [.int .u64 0] rfl rfl rfl rfl (by decide) (by omega) (by omega) (by decide) rfl) ?_
 rintro _ _ ⟨wb1, rfl, rfl⟩
 rw [rep_words]
 refine zq [23] ?_
 refine zB fun b1 => ?_
 refine zq [1,1,2,5,10] ?_
 exact Ends.ret (L' := memB b1 wb1 n (List.replicate n 0)) (res2 rfl rfl rfl) ⟨b1, wb1, rfl, by simp⟩
theorem tr_memSize (ws : List Int) (mb wb N : Nat) : TrR Tryz.prog 60 [memP mb] (memB mb wb N ws) (.int .i64 N) := by
 refine Tr.enter Tryz.func60 rfl Tryz.ntmps60 rfl (fun W F => ?_)
 refine Wp.app ?_
 refine zq [3,4,1,2,5,3,4,0,9,6,8] ?_
 refine Ops.pv (pv_len_slice (T := 25) rfl rfl) rfl ?_
 refine zq [1,2,5,10] ?_
 exact zr ⟨rfl, rfl⟩
theorem tr_memPartN (ws : List Int) (mb wb N : Nat) (a n : Int) (hl : ws.length = N) (hN : N ≤ 65536) (h : ¬ memIn ws a n) (hn : I64 n) : TrR Tryz.prog 90 [memP mb, .int .i64 a, .int .i64 n] (memB mb wb N ws) (.tuple #[.slice none 0 0, .bool false]) := by
 unfold memIn at h
 unfold I64 at hn
 refine Tr.enter Tryz.func90 rfl Tryz.ntmps90 rfl (fun W F => ?_)
 refine Wp.app ?_
 refine zq [3,4,1,1,2,5,3,3,4,0,42,0] ?_
 refine Ops.pvcn rfl rfl (fun hg => pv_move rfl) rfl ?_
 refine Ops.pvcn rfl rfl (fun hg => Pv.setE (t := 11) rfl (cv_pos hg) (pv_lss rfl rfl)) rfl ?_
 refine zq [47,0] ?_
 refine Ops.pvcn rfl rfl (fun hg => pv_move rfl) rfl ?_
 refine Ops.pvcn rfl rfl (fun hg => Pv.setE (t := 15) rfl (cv_pos hg) (pv_move rfl)) rfl ?_
 refine Ops.pvcn rfl rfl (fun hg => Pv.setE (t := 15) rfl (cv_pos hg) (Pv.setE (t := 16) rfl (cv_pos hg) (pv_nilCheck rfl))) rfl ?_
 refine Ops.pvcn rfl rfl (fun hg => Pv.setE (t := 15) rfl (cv_pos hg) (Pv.setE (t := 16) rfl (cv_pos hg) (Pv.setE (t := 17) rfl (cv_pos hg) (pv_fieldAddr0 rfl rfl)))) rfl ?_
 refine Ops.pvcn rfl rfl (fun hg => Pv.setE (t := 15) rfl (cv_pos hg) (Pv.setE (t := 16) rfl (cv_pos hg) (Pv.setE (t := 17) rfl (cv_pos hg) (Pv.setE (t := 18) rfl (cv_pos hg) (pv_load rfl rfl rfl))))) rfl ?_
 refine Ops.pvcn rfl rfl (fun hg => Pv.setE (t := 15) rfl (cv_pos hg) (Pv.setE (t := 16) rfl (cv_pos hg) (Pv.setE (t := 17) rfl (cv_pos hg) (Pv.setE (t := 18) rfl (cv_pos hg) (Pv.setE (t := 19) rfl (cv_pos hg) (pv_len_slice (T := 25) rfl rfl)))))) rfl ?_
 refine Ops.pvcn rfl rfl (fun hg => Pv.setE (t := 15) rfl (cv_pos hg) (Pv.setE (t := 16) rfl (cv_pos hg) (Pv.setE (t := 17) rfl (cv_pos hg) (Pv.setE (t := 18) rfl (cv_pos hg) (Pv.setE (t := 19) rfl (cv_pos hg) (Pv.setE (t := 20) rfl (cv_pos hg) (pv_gtr rfl rfl))))))) rfl ?_
 refine zq [47,0] ?_
 refine Ops.pvcn rfl rfl (fun hg => pv_move rfl) rfl ?_
 refine Ops.pvcn rfl rfl (fun hg => Pv.setE (t := 24) rfl (cv_pos hg) (pv_move rfl)) rfl ?_
 refine Ops.pvcn rfl rfl (fun hg => Pv.setE (t := 24) rfl (cv_pos hg) (Pv.setE (t := 25) rfl (cv_pos hg) (pv_nilCheck rfl))) rfl ?_
 refine Ops.pvcn rfl rfl (fun hg => Pv.setE (t := 24) rfl (cv_pos hg) (Pv.setE (t := 25) rfl (cv_pos hg) (Pv.setE (t := 26) rfl (cv_pos hg) (pv_fieldAddr0 rfl rfl)))) rfl ?_
 refine Ops.pvcn rfl rfl (fun hg => Pv.setE (t := 24) rfl (cv_pos hg) (Pv.setE (t := 25) rfl (cv_pos hg) (Pv.setE (t := 26) rfl (cv_pos hg) (Pv.setE (t := 27) rfl (cv_pos hg) (pv_load rfl rfl rfl))))) rfl ?_
 refine Ops.pvcn rfl rfl (fun hg => Pv.setE (t := 24) rfl (cv_pos hg) (Pv.setE (t := 25) rfl (cv_pos hg) (Pv.setE (t := 26) rfl (cv_pos hg) (Pv.setE (t := 27) rfl (cv_pos hg) (Pv.setE (t := 28) rfl (cv_pos hg) (pv_len_slice (T := 25) rfl rfl)))))) rfl ?_
 refine Ops.pvcn rfl rfl (fun hg => Pv.setE (t := 24) rfl (cv_pos hg) (Pv.setE (t := 25) rfl (cv_pos hg) (Pv.setE (t := 26) rfl (cv_pos hg) (Pv.setE (t := 27) rfl (cv_pos hg) (Pv.setE (t := 28) rfl (cv_pos hg) (Pv.setE (t := 29) rfl (cv_pos hg) (pv_move rfl))))))) rfl ?_
 refine Ops.pvcn rfl rfl (fun hg => Pv.setE (t := 24) rfl (cv_pos hg) (Pv.setE (t := 25) rfl (cv_pos hg) (Pv.setE (t := 26) rfl (cv_pos hg) (Pv.setE (t := 27) rfl (cv_pos hg) (Pv.setE (t := 28) rfl (cv_pos hg) (Pv.setE (t := 29) rfl (cv_pos hg) (Pv.setE (t := 30) rfl (cv_pos hg) (pv_sub rfl rfl (w64 (by omega) (by omega)))))))))) rfl ?_
 refine Ops.pvcn rfl rfl (fun hg => Pv.setE (t := 24) rfl (cv_pos hg) (Pv.setE (t := 25) rfl (cv_pos hg) (Pv.setE (t := 26) rfl (cv_pos hg) (Pv.setE (t := 27) rfl (cv_pos hg) (Pv.setE (t := 28) rfl (cv_pos hg) (Pv.setE (t := 29) rfl (cv_pos hg) (Pv.setE (t := 30) rfl (cv_pos hg) (Pv.setE (t := 31) rfl (cv_pos hg) (pv_gtr rfl rfl))))))))) rfl ?_
 refine zq [47,2,5] ?_
 refine Wp.cond_dect rfl (fun h1 => ?_) (fun h1 => (by exfalso; omega))
 refine zq [3,4,1,1,2,5,10,12] ?_
 exact zr ⟨rfl, rfl⟩
theorem tr_memPartY (ws : List Int) (mb wb N : Nat) (a n : Nat) (hl : ws.length = N) (hN : N ≤ 65536) (h : a < N) (h2 : a + n ≤ N) : TrR Tryz.prog 90 [memP mb, .int .i64 a, .int .i64 n] (memB mb wb N ws) (.tuple #[.slice (some ⟨wb, a, none⟩) n (N - a), .bool true]) := by
 refine Tr.enter Tryz.func90 rfl Tryz.ntmps90 rfl (fun W F => ?_)
 refine Wp.app ?_
 refine zq [3,4,1,1,2,5,3,3,4,0,42,0] ?_
 refine Ops.pvcn rfl rfl (fun hg => pv_move rfl) rfl ?_
 refine Ops.pvcn rfl rfl (fun hg => Pv.setE (t := 11) rfl (cv_pos hg) (pv_lss rfl rfl)) rfl ?_
 refine zq [47,0] ?_
 refine Ops.pvcn rfl rfl (fun hg => pv_move rfl) rfl ?_
 refine Ops.pvcn rfl rfl (fun hg => Pv.setE (t := 15) rfl (cv_pos hg) (pv_move rfl)) rfl ?_
 refine Ops.pvcn rfl rfl (fun hg => Pv.setE (t := 15) rfl (cv_pos hg) (Pv.setE (t := 16) rfl (cv_pos hg) (pv_nilCheck rfl))) rfl ?_
 refine Ops.pvcn rfl rfl (fun hg => Pv.setE (t := 15) rfl (cv_pos hg) (Pv.setE (t := 16) rfl (cv_pos hg) (Pv.setE (t := 17) rfl (cv_pos hg) (pv_fieldAddr0 rfl rfl)))) rfl ?_
 refine Ops.pvcn rfl rfl (fun hg => Pv.setE (t := 15) rfl (cv_pos hg) (Pv.setE (t := 16) rfl (cv_pos hg) (Pv.setE (t := 17) rfl (cv_pos hg) (Pv.setE (t := 18) rfl (cv_pos hg) (pv_load rfl rfl rfl))))) rfl ?_
 refine Ops.pvcn rfl rfl (fun hg => Pv.setE (t := 15) rfl (cv_pos hg) (Pv.setE (t := 16) rfl (cv_pos hg) (Pv.setE (t := 17) rfl (cv_pos hg) (Pv.setE (t := 18) rfl (cv_pos hg) (Pv.setE (t := 19) rfl (cv_pos hg) (pv_len_slice (T := 25) rfl rfl)))))) rfl ?_
 refine Ops.pvcn rfl rfl (fun hg => Pv.setE (t := 15) rfl (cv_pos hg) (Pv.setE (t := 16) rfl (cv_pos hg) (Pv.setE (t := 17) rfl (cv_pos hg) (Pv.setE (t := 18) rfl (cv_pos hg) (Pv.setE (t := 19) rfl (cv_pos hg) (Pv.setE (t := 20) rfl (cv_pos hg) (pv_gtr rfl rfl))))))) rfl ?_
 refine zq [47,0] ?_
 refine Ops.pvcn rfl rfl (fun hg => pv_move rfl) rfl ?_
 refine Ops.pvcn rfl rfl (fun hg => Pv.setE (t := 24) rfl (cv_pos hg) (pv_move rfl)) rfl ?_
 refine Ops.pvcn rfl rfl (fun hg => Pv.setE (t := 24) rfl (cv_pos hg) (Pv.setE (t := 25) rfl (cv_pos hg) (pv_nilCheck rfl))) rfl ?_
 refine Ops.pvcn rfl rfl (fun hg => Pv.setE (t := 24) rfl (cv_pos hg) (Pv.setE (t := 25) rfl (cv_pos hg) (Pv.setE (t := 26) rfl (cv_pos hg) (pv_fieldAddr0 rfl rfl)))) rfl ?_
 refine Ops.pvcn rfl rfl (fun hg => Pv.setE (t := 24) rfl (cv_pos hg) (Pv.setE (t := 25) rfl (cv_pos hg) (Pv.setE (t := 26) rfl (cv_pos hg) (Pv.setE (t := 27) rfl (cv_pos hg) (pv_load rfl rfl rfl))))) rfl ?_
 refine Ops.pvcn rfl rfl (fun hg => Pv.setE (t := 24) rfl (cv_pos hg) (Pv.setE (t := 25) rfl (cv_pos hg) (Pv.setE (t := 26) rfl (cv_pos hg) (Pv.setE (t := 27) rfl (cv_pos hg) (Pv.setE (t := 28) rfl (cv_pos hg) (pv_len_slice (T := 25) rfl rfl)))))) rfl ?_
 refine Ops.pvcn rfl rfl (fun hg => Pv.setE (t := 24) rfl (cv_pos hg) (Pv.setE (t := 25) rfl (cv_pos hg) (Pv.setE (t := 26) rfl (cv_pos hg) (Pv.setE (t := 27) rfl (cv_pos hg) (Pv.setE (t := 28) rfl (cv_pos hg) (Pv.setE (t := 29) rfl (cv_pos hg) (pv_move rfl))))))) rfl ?_
 refine Ops.pvcn rfl rfl (fun hg => Pv.setE (t := 24) rfl (cv_pos hg) (Pv.setE (t := 25) rfl (cv_pos hg) (Pv.setE (t := 26) rfl (cv_pos hg) (Pv.setE (t := 27) rfl (cv_pos hg) (Pv.setE (t := 28) rfl (cv_pos hg) (Pv.setE (t := 29) rfl (cv_pos hg) (Pv.setE (t := 30) rfl (cv_pos hg) (pv_sub rfl rfl (w64 (by omega) (by omega)))))))))) rfl ?_
 refine Ops.pvcn rfl rfl (fun hg => Pv.setE (t := 24) rfl (cv_pos hg) (Pv.setE (t := 25) rfl (cv_pos hg) (Pv.setE (t := 26) rfl (cv_pos hg) (Pv.setE (t := 27) rfl (cv_pos hg) (Pv.setE (t := 28) rfl (cv_pos hg) (Pv.setE (t := 29) rfl (cv_pos hg) (Pv.setE (t := 30) rfl (cv_pos hg) (Pv.setE (t := 31) rfl (cv_pos hg) (pv_gtr rfl rfl))))))))) rfl ?_
 refine zq [47,2,5] ?_
 refine Wp.cond_dect rfl (fun h1 => (by exfalso; omega)) (fun h1 => ?_)
 refine zq [11,5,3,4,0,9,6,8,0] ?_
 refine Ops.pv ((pv_slice (i := a) (j := N) rfl (by exact ⟨.i64, rfl⟩) (by exact rfl) (by omega) (by omega)).is (u := .slice (some ⟨wb, a, none⟩) (N - a) (N - a)) (by rw [if_neg (by omega)]; simp [addr_add])) rfl ?_
 refine zq [0] ?_
 refine Ops.pv (pv_sliceTo (j := n) rfl (by exact ⟨.i64, rfl⟩) (by omega)) rfl ?_
 refine zq [1,1,2,5,10] ?_
 exact zr ⟨rfl, rfl⟩
theorem tr_memGetY (ws : List Int) (mb wb N : Nat) (k : Nat) (hl : ws.length = N) (hN : N ≤ 65536) (h : k < N) : TrR Tryz.prog 135 [memP mb, .int .i64 k] (memB mb wb N ws) (.tuple #[.int .u64 (memAt ws k), .int .i64 0]) := by
 refine Tr.enter Tryz.func135 rfl Tryz.ntmps135 rfl (fun W F => ?_)
 refine Wp.app ?_
 refine zq [3,4,1,1,2,5,3,4,0,0] ?_
 refine zC (tr_memPartY ws mb wb N k 1 hl hN h (by omega)) ?_
 refine zq [0,7,7,1,1,2,5,3,3,4,0,39,2,5,17,11,5,3,4,0] ?_
 refine Ops.pv (pv_indexAddr (i := 0) rfl rfl rfl (by first | omega | (simp; done) | (simp; omega))) rfl ?_
 refine Ops.pv (pv_load rfl rfl (word_nth (by omega))) rfl ?_
 refine zq [1,1,2,5,10] ?_
 exact zr ⟨rfl, rfl⟩
theorem tr_memGetN (ws : List Int) (mb wb N : Nat) (a : Int) (hl : ws.length = N) (hN : N ≤ 65536) (h : ¬ memIn ws a 1) : TrR Tryz.prog 135 [memP mb, .int .i64 a] (memB mb wb N ws) (.tuple #[.int .u64 0, .int .i64 1]) := by
 refine Tr.enter Tryz.func135 rfl Tryz.ntmps135 rfl (fun W F => ?_)
 refine Wp.app ?_
 refine zq [3,4,1,1,2,5,3,4,0,0] ?_
 refine zC (tr_memPartN ws mb wb N a 1 hl hN h (by unfold I64; omega)) ?_
 refine zq [0,7,7,1,1,2,5,3,3,4,0,39,2,5,18,3,4,1,1,2,5,10,12] ?_
 exact zr ⟨rfl, rfl⟩
theorem tr_memGet (ws : List Int) (mb wb N : Nat) (a : Int) (hl : ws.length = N) (hN : N ≤ 65536) : TrR Tryz.prog 135 [memP mb, .int .i64 a] (memB mb wb N ws) (.tuple #[.int .u64 (memGet ws a).1, .int .i64 (memGet ws a).2]) := by
 unfold memGet
 by_cases hin : memIn ws a 1
 ·
  rw [if_pos hin]
  have hi := memIn_one.1 hin
  obtain ⟨k, rfl⟩ : ∃ k : Nat, a = (k : Int) := ⟨a.toNat, by omega⟩
  exact tr_memGetY ws mb wb N k hl hN (by omega)
 rw [if_neg hin]; exact tr_memGetN ws mb wb N a hl hN hin
theorem tr_memPutY (ws : List Int) (mb wb N : Nat) (k : Nat) (v : Int) (hl : ws.length = N) (hN : N ≤ 65536) (h : k < N) : Tr Tryz.prog 37 [memP mb, .int .i64 k, .int .u64 v] (memB mb wb N ws) (fun u L' => u = .int .i64 0 ∧ L' = memB mb wb N (ws.set k v)) := by
 have hset := word_set (ws := ws) (v := v) (a := k) (by omega)
 refine Tr.enter Tryz.func37 rfl Tryz.ntmps37 rfl (fun W F => ?_)
 refine Wp.app ?_
 refine zq [3,4,1,2,5,3,4,0,0] ?_
 refine zC (tr_memPartY ws mb wb N k 1 hl hN h (by omega)) ?_
 refine zq [0,7,7,1,1,2,5,3,3,4,0,39,2,5,17,11,5,3,4,0,0] ?_
 refine Ops.pv (pv_indexAddr (i := 0) rfl rfl rfl (by first | omega | (simp; done) | (simp; omega))) rfl ?_
 refine zq [25,2,5,3,4,1,2,5,10] ?_
 exact zr (L' := memB mb wb N (ws.set k v)) ⟨rfl, rfl⟩
theorem tr_memPutN (ws : List Int) (mb wb N : Nat) (a : Int) (v : Int) (hl : ws.length = N) (hN : N ≤ 65536) (h : ¬ memIn ws a 1) : TrR Tryz.prog 37 [memP mb, .int .i64 a, .int .u64 v] (memB mb wb N ws) (.int .i64 1) := by
 refine Tr.enter Tryz.func37 rfl Tryz.ntmps37 rfl (fun W F => ?_)
 refine Wp.app ?_
 refine zq [3,4,1,2,5,3,4,0,0] ?_
 refine zC (tr_memPartN ws mb wb N a 1 hl hN h (by unfold I64; omega)) ?_
 refine zq [0,7,7,1,1,2,5,3,3,4,0,39,2,5,18,3,4,1,2,5,10,12] ?_
 exact zr ⟨rfl, rfl⟩
theorem tr_memPut (ws : List Int) (mb wb N : Nat) (a v : Int) (hl : ws.length = N) (hN : N ≤ 65536) : Tr Tryz.prog 37 [memP mb, .int .i64 a, .int .u64 v] (memB mb wb N ws) (fun u L' => u = .int .i64 (memPutE ws a) ∧ L' = memB mb wb N (memPut ws a v)) := by
 unfold memPutE memPut
 by_cases hin : memIn ws a 1
 ·
  rw [if_pos hin, if_pos hin]
  have hi := memIn_one.1 hin
  obtain ⟨k, rfl⟩ : ∃ k : Nat, a = (k : Int) := ⟨a.toNat, by omega⟩
  exact tr_memPutY ws mb wb N k v hl hN (by omega)
 rw [if_neg hin, if_neg hin]; exact tr_memPutN ws mb wb N a v hl hN hin
theorem tr_memZero (ws : List Int) (mb wb N : Nat) (a n : Nat) (hl : ws.length = N) (hN : N ≤ 65536) (hn : 0 < n) (h : a + n ≤ N) : Tr Tryz.prog 62 [memP mb, .int .i64 a, .int .i64 n] (memB mb wb N ws) (fun u L' => u = .int .i64 0 ∧ L' = memB mb wb N (zeroW ws a n)) := by
 refine Tr.enter Tryz.func62 rfl Tryz.ntmps62 rfl (fun W F => ?_)
 refine Wp.app ?_
 refine zq [3,4,1,2,5,3,4,0,0,0] ?_
 refine zC (tr_memPartY ws mb wb N a n hl hN (by omega) h) ?_
 refine zq [0,7,7,1,1,2,5,3,3,4,0,39,2,5,17,11,5,3,4,0] ?_
 refine Ops.ef rfl (ef_clear (T := 25) rfl hn rfl rfl rfl (by rw [wordsC_len]; omega)) ?_
 rintro _ _ ⟨rfl, rfl⟩
 rw [zero_cells]
 refine zq [2,5,3,4,1,2,5,10] ?_
 exact zr (L' := memB mb wb N (zeroW ws a n)) ⟨rfl, rfl⟩
theorem tr_spIn (s : Int × Int) : TrR Tryz.prog 117 [slotV s] ([]) (.bool (decide (inRangeS s))) := by
 refine Tr.enter Tryz.func117 rfl Tryz.ntmps117 rfl (fun W F => ?_)
 refine Wp.app ?_
 refine Wr ?_
 refine zB fun b1 => ?_
 refine zq [1,2,5,3] ?_
 refine AnyH.start [(b1, .cells [.int .i64 s.1, .int .i64 s.2].toArray 42)] 23 rfl ?_
 refine zd [0,0,1,2] ?_
 refine Tk 2 rfl rfl (pv_geq rfl rfl) rfl ?_
 refine zd [3,1] ?_
 refine AnyH.takec 4 rfl (by kernel_rfl) (by kernel_rfl) (by kernel_rfl) PF.pf rfl rfl (fun hg => pv_fieldAddr0 rfl rfl) rfl ?_
 refine AnyH.takec 5 rfl (by kernel_rfl) (by kernel_rfl) (by kernel_rfl) PF.pf rfl rfl (fun hg => Pv.setE (t := 7) rfl (cv_pos hg) (pv_load rfl rfl rfl)) rfl ?_
 refine AnyH.takec 6 rfl (by kernel_rfl) (by kernel_rfl) (by kernel_rfl) PF.pf rfl rfl (fun hg => Pv.setE (t := 7) rfl (cv_pos hg) (Pv.setE (t := 8) rfl (cv_pos hg) (pv_leq rfl rfl))) rfl ?_
 refine Tk 7 rfl rfl (pv_pick_and rfl rfl) rfl ?_
 refine zd [8,1] ?_
 refine AnyH.takec 9 rfl (by kernel_rfl) (by kernel_rfl) (by kernel_rfl) PF.pf rfl rfl (fun hg => pv_fieldAddr0 rfl rfl) rfl ?_
 refine AnyH.takec 10 rfl (by kernel_rfl) (by kernel_rfl) (by kernel_rfl) PF.pf rfl rfl (fun hg => Pv.setE (t := 12) rfl (cv_pos hg) (pv_load rfl rfl rfl)) rfl ?_
 refine AnyH.takec 11 rfl (by kernel_rfl) (by kernel_rfl) (by kernel_rfl) PF.pf rfl rfl (fun hg => Pv.setE (t := 12) rfl (cv_pos hg) (Pv.setE (t := 13) rfl (cv_pos hg) (pv_geq rfl rfl))) rfl ?_
 refine Tk 12 rfl rfl (pv_pick_and rfl rfl) rfl ?_
 refine zd [13,1] ?_
 refine AnyH.takec 14 rfl (by kernel_rfl) (by kernel_rfl) (by kernel_rfl) PF.pf rfl rfl (fun hg => pv_fieldAddr0 rfl rfl) rfl ?_
 refine AnyH.takec 15 rfl (by kernel_rfl) (by kernel_rfl) (by kernel_rfl) PF.pf rfl rfl (fun hg => Pv.setE (t := 17) rfl (cv_pos hg) (pv_load rfl rfl rfl)) rfl ?_
 refine AnyH.takec 16 rfl (by kernel_rfl) (by kernel_rfl) (by kernel_rfl) PF.pf rfl rfl (fun hg => Pv.setE (t := 17) rfl (cv_pos hg) (Pv.setE (t := 18) rfl (cv_pos hg) (pv_fieldAddr0 rfl rfl))) rfl ?_
 refine AnyH.takec 17 rfl (by kernel_rfl) (by kernel_rfl) (by kernel_rfl) PF.pf rfl rfl (fun hg => Pv.setE (t := 17) rfl (cv_pos hg) (Pv.setE (t := 18) rfl (cv_pos hg) (Pv.setE (t := 19) rfl (cv_pos hg) (pv_load rfl rfl rfl)))) rfl ?_
 refine AnyH.takec 18 rfl (by kernel_rfl) (by kernel_rfl) (by kernel_rfl) PF.pf rfl rfl (fun hg => Pv.setE (t := 17) rfl (cv_pos hg) (Pv.setE (t := 18) rfl (cv_pos hg) (Pv.setE (t := 19) rfl (cv_pos hg) (Pv.setE (t := 20) rfl (cv_pos hg) (pv_shl rfl rfl (by omega) (sh1i (by omega) (by omega))))))) rfl ?_
 refine AnyH.takec 19 rfl (by kernel_rfl) (by kernel_rfl) (by kernel_rfl) PF.pf rfl rfl (fun hg => Pv.setE (t := 17) rfl (cv_pos hg) (Pv.setE (t := 18) rfl (cv_pos hg) (Pv.setE (t := 19) rfl (cv_pos hg) (Pv.setE (t := 20) rfl (cv_pos hg) (Pv.setE (t := 21) rfl (cv_pos hg) (pv_sub rfl rfl (w64 (by have := pw_le (b := s.2) (by omega); omega) (by have := pw_le (b := s.2) (by omega); omega)))))))) rfl ?_
 refine AnyH.takec 20 rfl (by kernel_rfl) (by kernel_rfl) (by kernel_rfl) PF.pf rfl rfl (fun hg => Pv.setE (t := 17) rfl (cv_pos hg) (Pv.setE (t := 18) rfl (cv_pos hg) (Pv.setE (t := 19) rfl (cv_pos hg) (Pv.setE (t := 20) rfl (cv_pos hg) (Pv.setE (t := 21) rfl (cv_pos hg) (Pv.setE (t := 22) rfl (cv_pos hg) (pv_leq rfl rfl))))))) rfl ?_
 refine Tk 21 rfl rfl (pv_pick_and rfl rfl) rfl ?_
 refine zd [22,5] ?_
 refine AnyH.done (by kernel_rfl) ?_
 refine zq [5,10] ?_
 exact zr ⟨rfl, rfl⟩
theorem tr_spRight (s : Int × Int) : TrR Tryz.prog 118 [slotV s] ([]) (.bool (decide (rightS s))) := by
 refine Tr.enter Tryz.func118 rfl Tryz.ntmps118 rfl (fun W F => ?_)
 refine Wp.app ?_
 refine Wr ?_
 refine zB fun b1 => ?_
 refine zq [1,2,5,3] ?_
 refine AnyH.start [(b1, .cells [.int .i64 s.1, .int .i64 s.2].toArray 42)] 13 rfl ?_
 refine zd [0,10] ?_
 refine AnyH.one 1 (by kernel_rfl) ?_
 refine Turn.ef rfl rfl (ef_callr (tr_spIn s) rfl rfl) ?_ ?_
 ·
  rintro _ _ ⟨rfl, rfl⟩; infer_instance
 rintro _ _ ⟨rfl, rfl⟩
 refine zd [2,1] ?_
 refine AnyH.takec 3 rfl (by kernel_rfl) (by kernel_rfl) (by kernel_rfl) PF.pf rfl rfl (fun hg => pv_fieldAddr0 rfl rfl) rfl ?_
 refine AnyH.takec 4 rfl (by kernel_rfl) (by kernel_rfl) (by kernel_rfl) PF.pf rfl rfl (fun hg => Pv.setE (t := 6) rfl (cv_pos hg) (pv_load rfl rfl rfl)) rfl ?_
 refine AnyH.takec 5 rfl (by kernel_rfl) (by kernel_rfl) (by kernel_rfl) PF.pf rfl rfl (fun hg => Pv.setE (t := 6) rfl (cv_pos hg) (Pv.setE (t := 7) rfl (cv_pos hg) (pv_fieldAddr0 rfl rfl))) rfl ?_
 refine AnyH.takec 6 rfl (by kernel_rfl) (by kernel_rfl) (by kernel_rfl) PF.pf rfl rfl (fun hg => Pv.setE (t := 6) rfl (cv_pos hg) (Pv.setE (t := 7) rfl (cv_pos hg) (Pv.setE (t := 8) rfl (cv_pos hg) (pv_load rfl rfl rfl)))) rfl ?_
 refine AnyH.takec 7 rfl (by kernel_rfl) (by kernel_rfl) (by kernel_rfl) PF.pf rfl rfl (fun hg => Pv.setE (t := 6) rfl (cv_pos hg) (Pv.setE (t := 7) rfl (cv_pos hg) (Pv.setE (t := 8) rfl (cv_pos hg) (Pv.setE (t := 9) rfl (cv_pos hg) (pv_shl rfl rfl (by unfold inRangeS at hg; omega) (sh1i (by unfold inRangeS at hg; omega) (by unfold inRangeS at hg; omega))))))) rfl ?_
 refine AnyH.takec 8 rfl (by kernel_rfl) (by kernel_rfl) (by kernel_rfl) PF.pf rfl rfl (fun hg => Pv.setE (t := 6) rfl (cv_pos hg) (Pv.setE (t := 7) rfl (cv_pos hg) (Pv.setE (t := 8) rfl (cv_pos hg) (Pv.setE (t := 9) rfl (cv_pos hg) (Pv.setE (t := 10) rfl (cv_pos hg) (pv_sub rfl rfl (w64 (by unfold inRangeS at hg; have := pw_le (b := s.2) (by omega); omega) (by unfold inRangeS at hg; have := pw_le (b := s.2) (by omega); omega)))))))) rfl ?_
 refine AnyH.takec 9 rfl (by kernel_rfl) (by kernel_rfl) (by kernel_rfl) PF.pf rfl rfl (fun hg => Pv.setE (t := 6) rfl (cv_pos hg) (Pv.setE (t := 7) rfl (cv_pos hg) (Pv.setE (t := 8) rfl (cv_pos hg) (Pv.setE (t := 9) rfl (cv_pos hg) (Pv.setE (t := 10) rfl (cv_pos hg) (Pv.setE (t := 11) rfl (cv_pos hg) (pv_and rfl rfl (and_pw (by unfold inRangeS at hg; omega) (by unfold inRangeS at hg; have := pw_le (b := s.2) (by omega); omega) (by unfold inRangeS at hg; omega))))))))) rfl ?_
 refine AnyH.takec 10 rfl (by kernel_rfl) (by kernel_rfl) (by kernel_rfl) PF.pf rfl rfl (fun hg => Pv.setE (t := 6) rfl (cv_pos hg) (Pv.setE (t := 7) rfl (cv_pos hg) (Pv.setE (t := 8) rfl (cv_pos hg) (Pv.setE (t := 9) rfl (cv_pos hg) (Pv.setE (t := 10) rfl (cv_pos hg) (Pv.setE (t := 11) rfl (cv_pos hg) (Pv.setE (t := 12) rfl (cv_pos hg) (pv_eql rfl rfl)))))))) rfl ?_
 refine Tk 11 rfl rfl (pv_pick_and rfl rfl) rfl ?_
 refine zd [12,5] ?_
 refine AnyH.done (by kernel_rfl) ?_
 refine zq [5,10] ?_
 exact zr ⟨rfl, rfl⟩
theorem tr_spEnd (s : Int × Int) (h : inRangeS s) : TrR Tryz.prog 119 [slotV s] ([]) (.int .i64 (endS s)) := by
 unfold inRangeS at h
 refine Tr.enter Tryz.func119 rfl Tryz.ntmps119 rfl (fun W F => ?_)
 refine Wp.app ?_
 refine Wr ?_
 refine zB fun b1 => ?_
 refine zq [1,2,5,3] ?_
 refine AnyH.start [(b1, .cells [.int .i64 s.1, .int .i64 s.2].toArray 42)] 7 rfl ?_
 refine zd [0,0,1,2,2,0,3,2] ?_
 refine Tk 4 rfl rfl (pv_shl rfl rfl (by omega) (sh1i (by omega) (by omega))) rfl ?_
 refine Tk 5 rfl rfl (pv_add rfl rfl (w64 (by have := pw_le (b := s.2) (by omega); omega) (by have := pw_le (b := s.2) (by omega); omega))) rfl ?_
 refine zd [6,5] ?_
 refine AnyH.done (by kernel_rfl) ?_
 refine zq [5,10] ?_
 exact zr ⟨rfl, rfl⟩
theorem tr_spCheck (s : Int × Int) (n : Int) : TrR Tryz.prog 59 [slotV s, .int .i64 n] ([]) (.int .i64 (checkS s n)) := by
 refine Tr.enter Tryz.func59 rfl Tryz.ntmps59 rfl (fun W F => ?_)
 refine Wp.app ?_
 refine Wr ?_
 refine zB fun b1 => ?_
 refine zq [1,2,5,3,20,3,4,30] ?_
 refine zC (tr_spIn s) ?_
 refine zq [55,1,2,5] ?_
 refine Wp.cond_dect rfl (fun h1 => ?_) (fun h1 => ?_)
 ·
  refine zq [3,4,1,2,5,10,15,12] ?_
  exact Ends.ret (res1 rfl rfl) ⟨by simp_all [checkS], rfl⟩
 have hin : inRangeS s := by simp_all
 refine zq [3,4,30] ?_
 refine zC (tr_spRight s) ?_
 refine zq [55,1,2,5] ?_
 refine Wp.cond_dect rfl (fun h2 => ?_) (fun h2 => ?_)
 ·
  refine zq [3,4,1,2,5,10,15,12] ?_
  exact Ends.ret (res1 rfl rfl) ⟨by simp_all [checkS], rfl⟩
 refine zq [3,4,30] ?_
 refine zC (tr_spEnd s hin) ?_
 refine zq [0,44,1,2,5] ?_
 refine Wp.cond_dect rfl (fun h3 => ?_) (fun h3 => ?_)
 ·
  refine zq [3,4,1,2,5,10,15,12] ?_
  exact Ends.ret (res1 rfl rfl) ⟨by simp_all [checkS], rfl⟩
 refine zq [11,19,5,3,4,1,2,5,10] ?_
 exact Ends.ret (res1 rfl rfl) ⟨by simp_all [checkS], rfl⟩
theorem tr_spIs (s t : Int × Int) : TrR Tryz.prog 121 [slotV s, slotV t] ([]) (.bool (decide (inS s t))) := by
 refine Tr.enter Tryz.func121 rfl Tryz.ntmps121 rfl (fun W F => ?_)
 refine Wp.app ?_
 refine Wr ?_
 refine zB fun b1 => ?_
 refine zB fun b2 => ?_
 refine zq [1,2,5,3] ?_
 refine AnyH.start [(b1, .cells [.int .i64 s.1, .int .i64 s.2].toArray 42), (b2, .cells [.int .i64 t.1, .int .i64 t.2].toArray 42)] 27 rfl ?_
 refine zd [0,10] ?_
 refine AnyH.one 1 (by kernel_rfl) ?_
 refine Turn.ef rfl rfl (ef_callr (tr_spRight s) rfl rfl) ?_ ?_
 ·
  rintro _ _ ⟨rfl, rfl⟩; infer_instance
 rintro _ _ ⟨rfl, rfl⟩
 refine zd [2,1] ?_
 refine AnyH.split (t := 7) rfl (fun h1 => ?_) (fun h1 => ?_)
 ·
  refine Tk 3 rfl ⟨_, _, rfl, rfl, rfl⟩ (pv_loadK [_, _] rfl rfl rfl ⟨rfl, rfl, trivial⟩) rfl ?_
  refine AnyH.one 4 (by kernel_rfl) ?_
  refine Turn.ef rfl ⟨_, _, rfl, rfl, rfl⟩ (ef_callr (tr_spRight t) rfl rfl) ?_ ?_
  ·
   rintro _ _ ⟨rfl, rfl⟩; infer_instance
  rintro _ _ ⟨rfl, rfl⟩
  refine Tk 5 rfl rfl (pv_pick_true rfl rfl) rfl ?_
  refine zd [6,1] ?_
  refine AnyH.takec 7 rfl (by kernel_rfl) (by kernel_rfl) (by kernel_rfl) PF.pf rfl rfl (fun hg => pv_fieldAddr0 rfl rfl) rfl ?_
  refine AnyH.takec 8 rfl (by kernel_rfl) (by kernel_rfl) (by kernel_rfl) PF.pf rfl rfl (fun hg => Pv.setE (t := 12) rfl (cv_pos hg) (pv_load rfl rfl rfl)) rfl ?_
  refine AnyH.takec 9 rfl (by kernel_rfl) (by kernel_rfl) (by kernel_rfl) PF.pf rfl rfl (fun hg => Pv.setE (t := 12) rfl (cv_pos hg) (Pv.setE (t := 13) rfl (cv_pos hg) (pv_fieldAddr0 rfl rfl))) rfl ?_
  refine AnyH.takec 10 rfl (by kernel_rfl) (by kernel_rfl) (by kernel_rfl) PF.pf rfl rfl (fun hg => Pv.setE (t := 12) rfl (cv_pos hg) (Pv.setE (t := 13) rfl (cv_pos hg) (Pv.setE (t := 14) rfl (cv_pos hg) (pv_load rfl rfl rfl)))) rfl ?_
  refine AnyH.takec 11 rfl (by kernel_rfl) (by kernel_rfl) (by kernel_rfl) PF.pf rfl rfl (fun hg => Pv.setE (t := 12) rfl (cv_pos hg) (Pv.setE (t := 13) rfl (cv_pos hg) (Pv.setE (t := 14) rfl (cv_pos hg) (Pv.setE (t := 15) rfl (cv_pos hg) (pv_leq rfl rfl))))) rfl ?_
  refine Tk 12 rfl rfl (pv_pick_and rfl rfl) rfl ?_
  refine zd [13,1] ?_
  refine AnyH.takec 14 rfl (by kernel_rfl) (by kernel_rfl) (by kernel_rfl) PF.pf rfl rfl (fun hg => pv_fieldAddr0 rfl rfl) rfl ?_
  refine AnyH.takec 15 rfl (by kernel_rfl) (by kernel_rfl) (by kernel_rfl) PF.pf rfl rfl (fun hg => Pv.setE (t := 19) rfl (cv_pos hg) (pv_load rfl rfl rfl)) rfl ?_
  refine AnyH.takec 16 rfl (by kernel_rfl) (by kernel_rfl) (by kernel_rfl) PF.pf rfl rfl (fun hg => Pv.setE (t := 19) rfl (cv_pos hg) (Pv.setE (t := 20) rfl (cv_pos hg) (pv_fieldAddr0 rfl rfl))) rfl ?_
  refine AnyH.takec 17 rfl (by kernel_rfl) (by kernel_rfl) (by kernel_rfl) PF.pf rfl rfl (fun hg => Pv.setE (t := 19) rfl (cv_pos hg) (Pv.setE (t := 20) rfl (cv_pos hg) (Pv.setE (t := 21) rfl (cv_pos hg) (pv_load rfl rfl rfl)))) rfl ?_
  refine AnyH.takec 18 rfl (by kernel_rfl) (by kernel_rfl) (by kernel_rfl) PF.pf rfl rfl (fun hg => Pv.setE (t := 19) rfl (cv_pos hg) (Pv.setE (t := 20) rfl (cv_pos hg) (Pv.setE (t := 21) rfl (cv_pos hg) (Pv.setE (t := 22) rfl (cv_pos hg) (pv_shr rfl rfl (by have hq := hg; unfold rightS inRangeS at hq; omega) (shr_pw (by have hq := hg; unfold rightS inRangeS at hq; omega) (by have hq := hg; unfold rightS inRangeS at hq; omega))))))) rfl ?_
  refine AnyH.takec 19 rfl (by kernel_rfl) (by kernel_rfl) (by kernel_rfl) PF.pf rfl rfl (fun hg => Pv.setE (t := 19) rfl (cv_pos hg) (Pv.setE (t := 20) rfl (cv_pos hg) (Pv.setE (t := 21) rfl (cv_pos hg) (Pv.setE (t := 22) rfl (cv_pos hg) (Pv.setE (t := 23) rfl (cv_pos hg) (pv_fieldAddr0 rfl rfl)))))) rfl ?_
  refine AnyH.takec 20 rfl (by kernel_rfl) (by kernel_rfl) (by kernel_rfl) PF.pf rfl rfl (fun hg => Pv.setE (t := 19) rfl (cv_pos hg) (Pv.setE (t := 20) rfl (cv_pos hg) (Pv.setE (t := 21) rfl (cv_pos hg) (Pv.setE (t := 22) rfl (cv_pos hg) (Pv.setE (t := 23) rfl (cv_pos hg) (Pv.setE (t := 24) rfl (cv_pos hg) (pv_load rfl rfl rfl))))))) rfl ?_
  refine AnyH.takec 21 rfl (by kernel_rfl) (by kernel_rfl) (by kernel_rfl) PF.pf rfl rfl (fun hg => Pv.setE (t := 19) rfl (cv_pos hg) (Pv.setE (t := 20) rfl (cv_pos hg) (Pv.setE (t := 21) rfl (cv_pos hg) (Pv.setE (t := 22) rfl (cv_pos hg) (Pv.setE (t := 23) rfl (cv_pos hg) (Pv.setE (t := 24) rfl (cv_pos hg) (Pv.setE (t := 25) rfl (cv_pos hg) (pv_fieldAddr0 rfl rfl)))))))) rfl ?_
  refine AnyH.takec 22 rfl (by kernel_rfl) (by kernel_rfl) (by kernel_rfl) PF.pf rfl rfl (fun hg => Pv.setE (t := 19) rfl (cv_pos hg) (Pv.setE (t := 20) rfl (cv_pos hg) (Pv.setE (t := 21) rfl (cv_pos hg) (Pv.setE (t := 22) rfl (cv_pos hg) (Pv.setE (t := 23) rfl (cv_pos hg) (Pv.setE (t := 24) rfl (cv_pos hg) (Pv.setE (t := 25) rfl (cv_pos hg) (Pv.setE (t := 26) rfl (cv_pos hg) (pv_load rfl rfl rfl))))))))) rfl ?_
  refine AnyH.takec 23 rfl (by kernel_rfl) (by kernel_rfl) (by kernel_rfl) PF.pf rfl rfl (fun hg => Pv.setE (t := 19) rfl (cv_pos hg) (Pv.setE (t := 20) rfl (cv_pos hg) (Pv.setE (t := 21) rfl (cv_pos hg) (Pv.setE (t := 22) rfl (cv_pos hg) (Pv.setE (t := 23) rfl (cv_pos hg) (Pv.setE (t := 24) rfl (cv_pos hg) (Pv.setE (t := 25) rfl (cv_pos hg) (Pv.setE (t := 26) rfl (cv_pos hg) (Pv.setE (t := 27) rfl (cv_pos hg) (pv_shr rfl rfl (by have hq := hg; unfold rightS inRangeS at hq; omega) (shr_pw (by have hq := hg; unfold rightS inRangeS at hq; omega) (by have hq := hg; unfold rightS inRangeS at hq; omega)))))))))))) rfl ?_
  refine AnyH.takec 24 rfl (by kernel_rfl) (by kernel_rfl) (by kernel_rfl) PF.pf rfl rfl (fun hg => Pv.setE (t := 19) rfl (cv_pos hg) (Pv.setE (t := 20) rfl (cv_pos hg) (Pv.setE (t := 21) rfl (cv_pos hg) (Pv.setE (t := 22) rfl (cv_pos hg) (Pv.setE (t := 23) rfl (cv_pos hg) (Pv.setE (t := 24) rfl (cv_pos hg) (Pv.setE (t := 25) rfl (cv_pos hg) (Pv.setE (t := 26) rfl (cv_pos hg) (Pv.setE (t := 27) rfl (cv_pos hg) (Pv.setE (t := 28) rfl (cv_pos hg) (pv_eql rfl rfl))))))))))) rfl ?_
  refine Tk 25 rfl rfl (pv_pick_and rfl rfl) rfl ?_
  refine zd [26,5] ?_
  refine AnyH.done (by kernel_rfl) ?_
  refine zq [5,10] ?_
  exact Ends.ret (res1 rfl rfl) ⟨by simp [inS, *], rfl⟩
 refine Ts 3 rfl ⟨_, _, rfl, rfl, rfl⟩ rfl ?_
 refine Ts 4 rfl ⟨_, _, rfl, rfl, rfl⟩ rfl ?_
 refine Tk 5 rfl rfl (pv_pick_false rfl rfl) rfl ?_
 refine zd [6,1] ?_
 refine Ts 7 rfl ⟨_, _, rfl, rfl, rfl⟩ rfl ?_
 refine Ts 8 rfl ⟨_, _, rfl, rfl, rfl⟩ rfl ?_
 refine Ts 9 rfl ⟨_, _, rfl, rfl, rfl⟩ rfl ?_
 refine Ts 10 rfl ⟨_, _, rfl, rfl, rfl⟩ rfl ?_
 refine Ts 11 rfl ⟨_, _, rfl, rfl, rfl⟩ rfl ?_
 refine Tk 12 rfl rfl (pv_pick_false rfl rfl) rfl ?_
 refine zd [13,1] ?_
 refine Ts 14 rfl ⟨_, _, rfl, rfl, rfl⟩ rfl ?_
 refine Ts 15 rfl ⟨_, _, rfl, rfl, rfl⟩ rfl ?_
 refine Ts 16 rfl ⟨_, _, rfl, rfl, rfl⟩ rfl ?_
 refine Ts 17 rfl ⟨_, _, rfl, rfl, rfl⟩ rfl ?_
 refine Ts 18 rfl ⟨_, _, rfl, rfl, rfl⟩ rfl ?_
 refine Ts 19 rfl ⟨_, _, rfl, rfl, rfl⟩ rfl ?_
 refine Ts 20 rfl ⟨_, _, rfl, rfl, rfl⟩ rfl ?_
 refine Ts 21 rfl ⟨_, _, rfl, rfl, rfl⟩ rfl ?_
 refine Ts 22 rfl ⟨_, _, rfl, rfl, rfl⟩ rfl ?_
 refine Ts 23 rfl ⟨_, _, rfl, rfl, rfl⟩ rfl ?_
 refine Ts 24 rfl ⟨_, _, rfl, rfl, rfl⟩ rfl ?_
 refine Tk 25 rfl rfl (pv_pick_false rfl rfl) rfl ?_
 refine zd [26,5] ?_
 refine AnyH.done (by kernel_rfl) ?_
 refine zq [5,10] ?_
 exact Ends.ret (res1 rfl rfl) ⟨by simp [inS, *], rfl⟩
set_option maxHeartbeats 2000000 in
theorem tr_spApart (s t : Int × Int) : TrR Tryz.prog 120 [slotV s, slotV t] ([]) (.bool (decide (apartS s t))) := by
 refine Tr.enter Tryz.func120 rfl Tryz.ntmps120 rfl (fun W F => ?_)
 refine Wp.app ?_
 refine Wr ?_
 refine zB fun b1 => ?_
 refine zB fun b2 => ?_
 refine zq [1,2,5,3,4,30] ?_
 refine zC (tr_spRight s) ?_
 refine zq [0] ?_
 refine Ops.split (t := 7) rfl (fun h1 => ?_) (fun h1 => ?_)
 ·
  refine Ops.pvg ⟨_, _, rfl, rfl, rfl⟩ (pv_loadK [_, _] rfl rfl rfl ⟨rfl, rfl, trivial⟩) rfl ?_
  refine Ops.efg ⟨_, _, rfl, rfl, rfl⟩ (ef_callr (tr_spRight t) rfl rfl) ?_
  rintro _ _ ⟨rfl, rfl⟩
  refine zq [24,0] ?_
  refine Ops.split (t := 11) rfl (fun h2 => ?_) (fun h2 => ?_)
  ·
   refine Ops.pvg ⟨_, _, rfl, rfl, rfl⟩ (pv_loadK [_, _] rfl rfl rfl ⟨rfl, rfl, trivial⟩) rfl ?_
   refine Ops.pvg ⟨_, _, rfl, rfl, rfl⟩ (pv_loadK [_, _] rfl rfl rfl ⟨rfl, rfl, trivial⟩) rfl ?_
   refine Ops.efg ⟨_, _, rfl, rfl, rfl⟩ (ef_callr (tr_spIs s t) rfl rfl) ?_
   rintro _ _ ⟨rfl, rfl⟩
   refine Ops.pvg ⟨_, _, rfl, rfl, rfl⟩ (pv_not_dec rfl) rfl ?_
   refine zq [24,0] ?_
   refine Ops.split (t := 17) rfl (fun h3 => ?_) (fun h3 => ?_)
   ·
    refine Ops.pvg ⟨_, _, rfl, rfl, rfl⟩ (pv_loadK [_, _] rfl rfl rfl ⟨rfl, rfl, trivial⟩) rfl ?_
    refine Ops.pvg ⟨_, _, rfl, rfl, rfl⟩ (pv_loadK [_, _] rfl rfl rfl ⟨rfl, rfl, trivial⟩) rfl ?_
    refine Ops.efg ⟨_, _, rfl, rfl, rfl⟩ (ef_callr (tr_spIs t s) rfl rfl) ?_
    rintro _ _ ⟨rfl, rfl⟩
    refine Ops.pvg ⟨_, _, rfl, rfl, rfl⟩ (pv_not_dec rfl) rfl ?_
    refine zq [24,1,2,5,10] ?_
    exact Ends.ret (res1 rfl rfl) ⟨by simp [apartS, *], rfl⟩
   refine zq [13,13,13,13,26,1,2,5,10] ?_
   exact Ends.ret (res1 rfl rfl) ⟨by simp [apartS, *], rfl⟩
  refine zq [13,13,13,13,26,0,13,13,13,13,26,1,2,5,10] ?_
  exact Ends.ret (res1 rfl rfl) ⟨by simp [apartS, *], rfl⟩
 refine zq [13,13,26,0,13,13,13,13,26,0,13,13,13,13,26,1,2,5,10] ?_
 exact Ends.ret (res1 rfl rfl) ⟨by simp [apartS, *], rfl⟩
set_option maxHeartbeats 4000000 in
theorem tr_uBits (kind n : Int) (hn : I64 n) : TrR Tryz.prog 58 [.int .i64 kind, .int .i64 n] ([]) (.tuple #[.int .i64 (bitsU kind n).1, .int .i64 (bitsU kind n).2]) := by
 unfold I64 at hn
 refine Tr.enter Tryz.func58 rfl Tryz.ntmps58 rfl (fun W F => ?_)
 refine Wp.app ?_
 refine zq [3,4,1,1,2,5,3,4,1,1,2,5,3,3,4,0,2,5,20,3,20,3,20,3,20,3,20,3,20,3,3,3,3,4,22,1,2,5] ?_
 refine Wp.cond_dect rfl (fun h1 => ?_) (fun h1 => ?_)
 ·
  refine zq [11,5,18,41,16,16,40,5,3,3,4,1,1,2,5,10,12,15,12,15,12,15,12,15,12,15,12] ?_
  exact Ends.ret (res2 rfl rfl rfl) ⟨by first | (exfalso; omega) | (unfold bitsU; (repeat (first | rw [if_pos (by omega)] | rw [if_neg (by omega)])) <;> rfl), rfl⟩
 refine zq [3,4,22,1,2,5] ?_
 refine Wp.cond_dect rfl (fun h2 => ?_) (fun h2 => ?_)
 ·
  refine zq [11,5,18,41,16,16,40,5,3,3,4,1,1,2,5,10,12,15,12,15,12,15,12,15,12,15,12] ?_
  exact Ends.ret (res2 rfl rfl rfl) ⟨by first | (exfalso; omega) | (unfold bitsU; (repeat (first | rw [if_pos (by omega)] | rw [if_neg (by omega)])) <;> rfl), rfl⟩
 refine zq [3,4,22,1,2,5] ?_
 refine Wp.cond_dect rfl (fun h3 => ?_) (fun h3 => ?_)
 ·
  refine zq [11,5,18,41,16,16,40,5,3,3,4,1,1,2,5,10,12,15,12,15,12,15,12,15,12,15,12] ?_
  exact Ends.ret (res2 rfl rfl rfl) ⟨by first | (exfalso; omega) | (unfold bitsU; (repeat (first | rw [if_pos (by omega)] | rw [if_neg (by omega)])) <;> rfl), rfl⟩
 refine zq [4,22,1,2,5] ?_
 refine Wp.cond_dect rfl (fun h4 => ?_) (fun h4 => ?_)
 ·
  refine zq [41,16,16,40,5,3,3,4,1,1,2,5,10,12,15,12,15,12,15,12,15,12,15,12] ?_
  exact Ends.ret (res2 rfl rfl rfl) ⟨by first | (exfalso; omega) | (unfold bitsU; (repeat (first | rw [if_pos (by omega)] | rw [if_neg (by omega)])) <;> rfl), rfl⟩
 refine zq [11,5,3,3,3,4,22,1,2,5] ?_
 refine Wp.cond_dect rfl (fun h5 => ?_) (fun h5 => ?_)
 ·
  refine zq [11,5,18,41,16,16,28,16,40,5,3,3,4,1,1,2,5,10,12,15,12,15,12,15,12,15,12] ?_
  exact Ends.ret (res2 rfl rfl rfl) ⟨by first | (exfalso; omega) | (unfold bitsU; (repeat (first | rw [if_pos (by omega)] | rw [if_neg (by omega)])) <;> rfl), rfl⟩
 refine zq [4,22,1,2,5] ?_
 refine Wp.cond_dect rfl (fun h6 => ?_) (fun h6 => ?_)
 ·
  refine zq [41,16,16,28,16,40,5,3,3,4,1,1,2,5,10,12,15,12,15,12,15,12,15,12] ?_
  exact Ends.ret (res2 rfl rfl rfl) ⟨by first | (exfalso; omega) | (unfold bitsU; (repeat (first | rw [if_pos (by omega)] | rw [if_neg (by omega)])) <;> rfl), rfl⟩
 refine zq [11,5,3,3,4,22,1,2,5] ?_
 refine Wp.cond_dect rfl (fun h7 => ?_) (fun h7 => ?_)
 ·
  refine zq [41,16,16,28,16,28,16,40,5,4,1,1,2,19,5,3,3,4,0,0,42,0] ?_
  refine Ops.pvcn rfl rfl (fun hg => pv_move rfl) rfl ?_
  refine Ops.pvcn rfl rfl (fun hg => Pv.setE (t := 25) rfl (cv_pos hg) (pv_move rfl)) rfl ?_
  refine Ops.pvcn rfl rfl (fun hg => Pv.setE (t := 25) rfl (cv_pos hg) (Pv.setE (t := 26) rfl (cv_pos hg) (pv_gtr rfl rfl))) rfl ?_
  refine zq [47,2,5] ?_
  refine Wp.cond_dect rfl (fun h8 => ?_) (fun h8 => ?_)
  ·
   refine zq [3,4,1,1,2,5,10,12,15,12,15,12] ?_
   exact Ends.ret (res2 rfl rfl rfl) ⟨by first | (exfalso; omega) | (unfold bitsU; (repeat (first | rw [if_pos (by omega)] | rw [if_neg (by omega)])) <;> rfl), rfl⟩
  refine zq [11,5,41,28,16,40,5,3,3,4,0,22,2,5] ?_
  refine Wp.cond_dect rfl (fun h9 => ?_) (fun h9 => ?_)
  ·
   refine zq [4,0,52,1,2,5,3,4,0,1,1,2,5,10] ?_
   exact Ends.ret (res2 rfl rfl rfl) ⟨by first | (exfalso; omega) | (unfold bitsU; (repeat (first | rw [if_pos (by omega)] | rw [if_neg (by omega)])) <;> rfl), rfl⟩
  refine zq [11,5,3,4,0,1,1,2,5,10] ?_
  exact Ends.ret (res2 rfl rfl rfl) ⟨by first | (exfalso; omega) | (unfold bitsU; (repeat (first | rw [if_pos (by omega)] | rw [if_neg (by omega)])) <;> rfl), rfl⟩
 refine zq [11,5,3,4,22,1,2,5] ?_
 refine Wp.cond_dect rfl (fun h10 => ?_) (fun h10 => ?_)
 ·
  refine zq [41,16,28,16,28,16,28,16,40,5,3,3,4,0,0,42,0] ?_
  refine Ops.pvcn rfl rfl (fun hg => pv_move rfl) rfl ?_
  refine Ops.pvcn rfl rfl (fun hg => Pv.setE (t := 25) rfl (cv_pos hg) (pv_move rfl)) rfl ?_
  refine Ops.pvcn rfl rfl (fun hg => Pv.setE (t := 25) rfl (cv_pos hg) (Pv.setE (t := 26) rfl (cv_pos hg) (pv_gtr rfl rfl))) rfl ?_
  refine zq [47,2,5] ?_
  refine Wp.cond_dect rfl (fun h11 => ?_) (fun h11 => ?_)
  ·
   refine zq [3,4,1,1,2,5,10,12,15,12,15,12] ?_
   exact Ends.ret (res2 rfl rfl rfl) ⟨by first | (exfalso; omega) | (unfold bitsU; (repeat (first | rw [if_pos (by omega)] | rw [if_neg (by omega)])) <;> rfl), rfl⟩
  refine zq [11,5,41,28,16,40,5,3,3,4,0,22,2,5] ?_
  refine Wp.cond_dect rfl (fun h12 => ?_) (fun h12 => ?_)
  ·
   refine zq [4,0,52,1,2,5,3,4,0,1,1,2,5,10] ?_
   exact Ends.ret (res2 rfl rfl rfl) ⟨by first | (exfalso; omega) | (unfold bitsU; (repeat (first | rw [if_pos (by omega)] | rw [if_neg (by omega)])) <;> rfl), rfl⟩
  refine zq [11,5,3,4,0,1,1,2,5,10] ?_
  exact Ends.ret (res2 rfl rfl rfl) ⟨by first | (exfalso; omega) | (unfold bitsU; (repeat (first | rw [if_pos (by omega)] | rw [if_neg (by omega)])) <;> rfl), rfl⟩
 refine zq [11,5,41,28,16,28,16,28,16,28,16,40,5,3,3,4,1,1,2,5,10,12,15,12] ?_
 exact Ends.ret (res2 rfl rfl rfl) ⟨by first | (exfalso; omega) | (unfold bitsU; (repeat (first | rw [if_pos (by omega)] | rw [if_neg (by omega)])) <;> rfl), rfl⟩
set_option maxHeartbeats 4000000 in
theorem tr_pPack (e : PteM) : TrR Tryz.prog 210 [e.v] ([]) (.tuple #[.int .u64 (packV e), .int .i64 (packE e)]) := by
 refine Tr.enter Tryz.func210 rfl Tryz.ntmps210 rfl (fun W F => ?_)
 refine Wp.app ?_
 refine Wr ?_
 refine zB fun b1 => ?_
 refine zq [1,1,2,5,3,20,3,4,29,23] ?_
 refine Ops.pv (pv_eqlF (e = .zero) (xs := [.bool e.valid, .bool e.write, .int .i64 e.at_]) (ys := [.bool false, .bool false, .int .i64 0]) rfl rfl (pte_kind _) (pte_kind .zero) PteM.ext_cells (by decide) (by kernel_rfl)) rfl ?_
 refine zq [1,2,5] ?_
 refine Wp.cond_dect rfl (fun h1 => ?_) (fun h1 => ?_)
 ·
  refine zq [3,4,1,1,2,5,10,15,12] ?_
  exact Ends.ret (res2 rfl rfl rfl) ⟨by simp_all [packE, packV], rfl⟩
 refine zq [3,4,6,8,39,1,2,5] ?_
 refine Wp.cond_t rfl (fun h2 => ?_) (fun h2 => ?_)
 ·
  refine zq [3,4,1,1,2,5,10,15,12] ?_
  exact Ends.ret (res2 rfl rfl rfl) ⟨by simp_all [packE, packV], rfl⟩
 refine zq [3,4,6,8,42,0] ?_
 refine Ops.pvcn rfl rfl (fun hg => pv_fieldAddr0 rfl rfl) rfl ?_
 refine Ops.pvcn rfl rfl (fun hg => Pv.setE (t := 19) rfl (cv_pos hg) (pv_load rfl rfl rfl)) rfl ?_
 refine Ops.pvcn rfl rfl (fun hg => Pv.setE (t := 19) rfl (cv_pos hg) (Pv.setE (t := 20) rfl (cv_pos hg) (pv_gtr rfl rfl))) rfl ?_
 refine zq [47,0] ?_
 refine Ops.pvcn rfl rfl (fun hg => pv_fieldAddr0 rfl rfl) rfl ?_
 refine Ops.pvcn rfl rfl (fun hg => Pv.setE (t := 24) rfl (cv_pos hg) (pv_load rfl rfl rfl)) rfl ?_
 refine Ops.pvcn rfl rfl (fun hg => Pv.setE (t := 24) rfl (cv_pos hg) (Pv.setE (t := 25) rfl (cv_pos hg) (pv_rem rfl rfl (by decide) (by rw [Int.tmod_eq_emod_of_nonneg (by omega)])))) rfl ?_
 refine Ops.pvcn rfl rfl (fun hg => Pv.setE (t := 24) rfl (cv_pos hg) (Pv.setE (t := 25) rfl (cv_pos hg) (Pv.setE (t := 26) rfl (cv_pos hg) (pv_neq rfl rfl)))) rfl ?_
 refine zq [47,1,2,5] ?_
 refine Wp.cond_dect rfl (fun h3 => ?_) (fun h3 => ?_)
 ·
  have h9 : packE e = 9 := by unfold packE; rw [if_neg (by assumption), if_neg (by simp_all), if_pos (by omega)]
  refine zq [3,4,1,1,2,5,10,15,12] ?_
  exact Ends.ret (res2 rfl rfl rfl) ⟨by rw [packV, h9, if_neg (by decide)], rfl⟩
 obtain ⟨q, hq⟩ : ∃ q : Nat, e.at_ = ((q * 16 : Nat) : Int) := ⟨(e.at_ / 16).toNat, by omega⟩
 have hq4 : q < 4096 := by omega
 have hquo : IntKind.i64.wrap (e.at_.tdiv 16) = (q : Int) := by rw [hq, show (((q * 16 : Nat)) : Int).tdiv 16 = q from by rw [Int.tdiv_eq_ediv_of_nonneg (by omega)]; omega]; exact w64 (by omega) (by omega)
 have hpv : putV 1 4 12 q = q * 16 + 1 := if_pos hq4
 have hpe : fldE 12 q = 0 := if_pos hq4
 have hor : bitsI .or .u64 ((putV 1 4 12 q : Nat) : Int) 2 = ((q * 16 + 3 : Nat) : Int) := by rw [hpv]; exact (or_nat (b := 2) (by omega) (by omega)).trans (by rw [or2])
 have h0 : packE e = 0 := by unfold packE; rw [if_neg (by assumption), if_neg (by simp_all), if_neg (by omega)]
 refine zq [11,19,5,3,4,6,8] ?_
 refine Ops.pv (pv_quo rfl rfl (by decide) hquo) rfl ?_
 refine Ops.pv (pv_conv rfl (u64n (k := q) rfl (by omega))) rfl ?_
 refine zC (tr_bPut 1 4 12 q (by omega) (by omega) (by omega) (by omega)) ?_
 refine zq [0,7,7,1,1,2,5,3,3,4,6,8,2,5] ?_
 refine Wp.cond_t rfl (fun h4 => ?_) (fun h4 => ?_)
 ·
  refine zq [4,0] ?_
  refine Ops.pv (pv_or rfl rfl hor) rfl ?_
  refine zq [1,2,5,3,4,0,1,1,2,5,10] ?_
  have hw : e.write = true := by assumption
  exact Ends.ret (res2 rfl rfl rfl) ⟨by rw [packV, h0, if_pos rfl, if_neg (by assumption), hw, if_pos rfl, hq] <;> (first | done | (congr 3; done) | (congr 3; omega)), rfl⟩
 refine zq [11,5,3,4,0,1,1,2,5,10] ?_
 have hw : e.write = false := by assumption
 exact Ends.ret (res2 rfl rfl rfl) ⟨by rw [packV, h0, if_pos rfl, if_neg (by assumption), hw, if_neg (by decide), hpv, hq] <;> (first | done | (congr 3; done) | (congr 3; omega)), rfl⟩
set_option maxHeartbeats 4000000 in
theorem tr_pUnpack (w : Nat) (hw : w < 2 ^ 64) : TrR Tryz.prog 174 [.int .u64 w] ([]) (.tuple #[(pteM w).1.v, .int .i64 (pteM w).2]) := by
 refine Tr.enter Tryz.func174 rfl Tryz.ntmps174 rfl (fun W F => ?_)
 refine Wp.app ?_
 refine Wr ?_
 refine zA fun b1 => ?_
 refine zq [1,2,5,3,3,4,0,22,2,5] ?_
 refine Wp.cond_dect rfl (fun h1 => ?_) (fun h1 => ?_)
 ·
  refine zq [3,4,23,14,1,2,5,10,12] ?_
  obtain rfl : w = 0 := by omega
  exact Ends.ret (res_list (rs := [.cell 2 276, .tmp 3]) rfl ⟨_, _, rfl, rv_cellK [_, _, _] rfl rfl rfl ⟨rfl, rfl, rfl, trivial⟩, ⟨_, _, rfl, rv_tmp rfl, rfl⟩⟩ rfl) ⟨rfl, rfl⟩
 refine zq [11,5,3,4,0] ?_
 refine zC (tr_bGet w 4 12 hw (by omega) (by omega)) ?_
 refine zq [0,7,7,1,1,2,5,3,4,0] ?_
 refine Ops.pv (pv_and rfl rfl (and_mask64 (n := 1) hw (by omega))) rfl ?_
 refine Ops.pv ((pv_eql rfl rfl).is (u := .bool (decide (w % 2 = 1))) (by congr 1; rw [decide_eq_decide]; omega)) rfl ?_
 refine zq [0] ?_
 refine Ops.pv (pv_and rfl rfl ((and_nat (b := 2) hw (by omega)).trans (by rw [and2]))) rfl ?_
 refine Ops.pv ((pv_neq rfl rfl).is (u := .bool (decide (w / 2 % 2 = 1))) (by congr 1; rw [decide_eq_decide]; omega)) rfl ?_
 refine zq [0] ?_
 refine Ops.pv (pv_conv rfl (w64n (k := w / 2 ^ 4 % 2 ^ 12) rfl (by omega))) rfl ?_
 refine Ops.pv (pv_mul rfl rfl (w64n (k := w / 16 % 4096 * 16) (by omega) (by omega))) rfl ?_
 refine zq [23] ?_
 refine zA fun b2 => ?_
 refine zq [14,2,5,3,3,4,29] ?_
 refine zC (tr_pPack (pteOf w)) ?_
 refine zq [0,7,7,1,1,2,5,3,4,0,27,0] ?_
 refine Ops.pvcn rfl rfl (fun hg => pv_move rfl) rfl ?_
 refine Ops.pvcn rfl rfl (fun hg => Pv.setE (t := 35) rfl (cv_pos hg) (pv_move rfl)) rfl ?_
 refine Ops.pvcn rfl rfl (fun hg => Pv.setE (t := 35) rfl (cv_pos hg) (Pv.setE (t := 36) rfl (cv_pos hg) (pv_neq rfl rfl))) rfl ?_
 refine zq [47,2,5] ?_
 refine Wp.cond_dect rfl (fun h2 => ?_) (fun h2 => ?_)
 ·
  refine zq [3,4,23,14,1,2,5,10,12] ?_
  have h0 : w ≠ 0 := by omega
  have hno : ¬ pteOk w := fun h => by have := (pte_unp hw h0).2 h; omega
  exact Ends.ret (res_list (rs := [.cell 2 276, .tmp 3]) rfl ⟨_, _, rfl, rv_cellK [_, _, _] rfl rfl rfl ⟨rfl, rfl, rfl, trivial⟩, ⟨_, _, rfl, rv_tmp rfl, rfl⟩⟩ rfl) ⟨by rw [pteM, if_neg h0, if_neg hno], rfl⟩
 refine zq [11,5,3,4,29,14,1,2,5,10] ?_
 have h0 : w ≠ 0 := by omega
 have hok : pteOk w := (pte_unp hw h0).1 (by omega)
 have he : pteOf w = ⟨true, decide (w / 2 % 2 = 1), (w / 16 * 16 : Nat)⟩ := by unfold pteOf; unfold pteOk at hok; rw [decide_eq_true hok.1, show w / 16 % 4096 = w / 16 by omega]
 exact Ends.ret (res_list (rs := [.cell 2 276, .tmp 3]) rfl ⟨_, _, rfl, rv_cellK [_, _, _] rfl rfl rfl ⟨rfl, rfl, rfl, trivial⟩, ⟨_, _, rfl, rv_tmp rfl, rfl⟩⟩ rfl) ⟨by rw [pteM, if_neg h0, if_pos hok, ← he]; rfl, rfl⟩
set_option maxHeartbeats 2000000 in
theorem tr_pSplit (a : Int) (ha : I64 a) : TrR Tryz.prog 170 [.int .i64 a] ([]) (.tuple #[.int .i64 (splitM a).1, .int .i64 (splitM a).2.1, .int .i64 (splitM a).2.2.1, .int .i64 (splitM a).2.2.2]) := by
 refine Tr.enter Tryz.func170 rfl Tryz.ntmps170 rfl (fun W F => ?_)
 refine Wp.app ?_
 refine zq [3,4,1,1,1,1,2,5,3,3,4,0,42,0] ?_
 refine Ops.pvcn rfl rfl (fun hg => pv_move rfl) rfl ?_
 refine Ops.pvcn rfl rfl (fun hg => Pv.setE (t := 9) rfl (cv_pos hg) (pv_geq rfl rfl)) rfl ?_
 refine zq [47,2,5] ?_
 refine Wp.cond_dect rfl (fun h1 => ?_) (fun h1 => ?_)
 ·
  refine zq [3,4,1,1,1,1,2,5,10,12] ?_
  have hsp : splitM a = (0, 0, 0, 1) := if_pos (by omega)
  exact Ends.ret (res_list (rs := [.tmp 2, .tmp 3, .tmp 4, .tmp 5]) rfl ⟨_, _, rfl, rv_tmp rfl, ⟨_, _, rfl, rv_tmp rfl, ⟨_, _, rfl, rv_tmp rfl, ⟨_, _, rfl, rv_tmp rfl, rfl⟩⟩⟩⟩ rfl) ⟨by rw [hsp], rfl⟩
 obtain ⟨k, rfl⟩ : ∃ k : Nat, a = (k : Int) := ⟨a.toNat, by omega⟩
 have hsp : splitM (k : Int) = (((k / 256 : Nat) : Int), ((k / 16 % 16 : Nat) : Int), ((k % 16 : Nat) : Int), 0) := by unfold splitM; rw [if_neg (by omega)]; rfl
 refine zq [11,5,3,4,0] ?_
 refine Ops.pv (pv_shr rfl rfl (by decide) (shr_nat (j := 8) (by omega))) rfl ?_
 refine zq [0] ?_
 refine Ops.pv (pv_shr rfl rfl (by decide) (shr_nat (j := 4) (by omega))) rfl ?_
 refine Ops.pv (pv_and rfl rfl (and_i64 (a := k / 2 ^ 4) (n := 4) (by omega) (by omega))) rfl ?_
 refine zq [0] ?_
 refine Ops.pv (pv_and rfl rfl (and_i64 (a := k) (n := 4) (by omega) (by omega))) rfl ?_
 refine zq [1,1,1,1,2,5,10] ?_
 exact Ends.ret (res_list (rs := [.tmp 2, .tmp 3, .tmp 4, .tmp 5]) rfl ⟨_, _, rfl, rv_tmp rfl, ⟨_, _, rfl, rv_tmp rfl, ⟨_, _, rfl, rv_tmp rfl, ⟨_, _, rfl, rv_tmp rfl, rfl⟩⟩⟩⟩ rfl) ⟨by rw [hsp], rfl⟩
end Go.Proofs.YtipncceiekalfaaGreat
end
section
set_option linter.unusedVariables false
set_option linter.unusedSimpArgs false
set_option linter.unusedSectionVars false
namespace Go.Proofs.YtipncceiekalfaaGreat
open Go.SL
def WdOk (ws : List Int) : Prop := ∀ x, x ∈ ws → U64 x
theorem WdOk.at_ {ws : List Int} (h : WdOk ws) (a : Int) : U64 (memAt ws a) := by
 unfold memAt
 rw [List.getD_eq_getElem?_getD]
 cases he : ws[a.toNat]? with
 | none => decide
 | some x => exact h x (List.mem_of_getElem? he)
theorem WdOk.get {ws : List Int} (h : WdOk ws) (a : Int) : U64 (memGet ws a).1 := by
 unfold memGet
 split
 ·
  exact h.at_ a
 ·
  decide
theorem WdOk.put {ws : List Int} (h : WdOk ws) (a : Int) {v : Int} (hv : U64 v) : WdOk (memPut ws a v) := by
 unfold memPut
 split
 ·
  intro x hx
  rcases List.mem_or_eq_of_mem_set hx with hx | rfl
  ·
   exact h x hx
  ·
   exact hv
 ·
  exact h
theorem WdOk.zero {ws : List Int} (h : WdOk ws) (a n : Int) : WdOk (memZero ws a n) := by
 unfold memZero
 split
 ·
  intro x hx
  unfold zeroW at hx
  rw [List.mem_append, List.mem_append] at hx
  rcases hx with (hx | hx) | hx
  ·
   exact h x (List.mem_of_mem_take hx)
  ·
   rw [(List.mem_replicate.1 hx).2]; decide
  ·
   exact h x (List.mem_of_mem_drop hx)
 ·
  exact h
theorem WdOk.new (n : Nat) : WdOk (List.replicate n 0) := fun x hx => by rw [(List.mem_replicate.1 hx).2]; decide
def thereW (N : Nat) (a : Int) : Prop := a ≥ 0 ∧ a ≤ (N : Int) - 16
instance (N : Nat) (a : Int) : Decidable (thereW N a) := by unfold thereW; infer_instance
def pteI (x : Int) : PteM × Int := pteM x.toNat
def leads (N : Nat) (x : PteM × Int) : Prop := (x.2 = 0 ∧ x.1.valid = true) ∧ thereW N x.1.at_
instance (N : Nat) (x : PteM × Int) : Decidable (leads N x) := by unfold leads; infer_instance
def page1 (ws : List Int) (dir a : Int) : PteM × Int := pteI (memGet ws (dir + (splitM a).1)).1
def page2 (ws : List Int) (dir a : Int) : PteM × Int := pteI (memGet ws ((page1 ws dir a).1.at_ + (splitM a).2.1)).1
def pageM (ws : List Int) (dir a : Int) : PteM × Int :=
  if (splitM a).2.2.2 ≠ 0 then (.zero, (splitM a).2.2.2)
  else if ¬ thereW ws.length dir ∨ dir % 16 ≠ 0 then (.zero, 9)
  else if ¬ leads ws.length (page1 ws dir a) then (.zero, 12)
  else if (page1 ws dir a).1.write = true then (.zero, 12)
  else if ¬ leads ws.length (page2 ws dir a) then (.zero, 12)
  else ((page2 ws dir a).1, 0)
theorem splitM_lt {a : Int} (h : (splitM a).2.2.2 = 0) : 0 ≤ (splitM a).1 ∧ (splitM a).1 < 16 ∧ 0 ≤ (splitM a).2.1 ∧ (splitM a).2.1 < 16 ∧ 0 ≤ (splitM a).2.2.1 ∧ (splitM a).2.2.1 < 16 := by
 unfold splitM at *
 split at h
 ·
  cases h
 ·
  rename_i hc; rw [if_neg hc]; dsimp only; omega
theorem pteM_at (w : Nat) : 0 ≤ (pteM w).1.at_ ∧ (pteM w).1.at_ ≤ 65520 ∧ (pteM w).1.at_ % 16 = 0 := by
 unfold pteM
 split
 ·
  decide
 ·
  split
  ·
   rename_i h; unfold pteOk at h; dsimp only; omega
  ·
   decide
theorem pteI_at (x : Int) : 0 ≤ (pteI x).1.at_ ∧ (pteI x).1.at_ ≤ 65520 ∧ (pteI x).1.at_ % 16 = 0 := pteM_at _
def thereS (N : Nat) (a : Int) : Prop := (a ≥ 0 ∧ a % 16 = 0) ∧ a ≤ (N : Int) - 16
instance (N : Nat) (a : Int) : Decidable (thereS N a) := by unfold thereS; infer_instance
def entW (a : Int) (wr : Bool) : Int := packV ⟨true, wr, a⟩
theorem entW_u64 (a : Int) (wr : Bool) : U64 (entW a wr) := by
 unfold entW packV packE
 by_cases h : (⟨true, wr, a⟩ : PteM) = .zero
 ·
  cases h
 ·
  rw [if_neg h, if_neg (show ¬ (true = false) by decide)]
  by_cases h2 : a < 0 ∨ 65520 < a ∨ a % 16 ≠ 0
  ·
   rw [if_pos h2, if_neg (by decide)]; decide
  ·
   rw [if_neg h2, if_pos rfl, if_neg h]
   unfold U64
   cases wr <;> simp <;> omega
def firstM (ws : List Int) (dir a other : Int) : Int × Int :=
  if (splitM a).2.2.2 ≠ 0 then (0, (splitM a).2.2.2) else if ¬ thereS ws.length dir ∨ ¬ thereS ws.length other then (0, 9) else (dir + (splitM a).1, 0)
def secE (ws : List Int) (dir a other : Int) : PteM × Int := pteI (memGet ws (firstM ws dir a other).1).1
def secOk (N : Nat) (x : PteM × Int) : Prop := ((x.2 = 0 ∧ x.1.valid = true) ∧ x.1.write = false) ∧ thereS N x.1.at_
instance (N : Nat) (x : PteM × Int) : Decidable (secOk N x) := by unfold secOk; infer_instance
def secondM (ws : List Int) (dir a other : Int) : Int × Int :=
  if (firstM ws dir a other).2 ≠ 0 then (0, (firstM ws dir a other).2)
  else if ¬ secOk ws.length (secE ws dir a other) then (0, 12) else ((secE ws dir a other).1.at_ + (splitM a).2.1, 0)
def applyE (ws : List Int) (at_ : Int) (f : Int → Int × Int) : Int := if (f (memGet ws at_).1).2 ≠ 0 then (f (memGet ws at_).1).2 else memPutE ws at_
def applyW (ws : List Int) (at_ : Int) (f : Int → Int × Int) : List Int := if (f (memGet ws at_).1).2 ≠ 0 then ws else memPut ws at_ (f (memGet ws at_).1).1
def setF (a : Int) (wr : Bool) (w : Int) : Int × Int := if w ≠ 0 then (0, 4) else (entW a wr, 0)
def tableE (ws : List Int) (dir a t : Int) : Int := if (firstM ws dir a t).2 ≠ 0 then (firstM ws dir a t).2 else applyE ws (firstM ws dir a t).1 (setF t false)
def tableW (ws : List Int) (dir a t : Int) : List Int := if (firstM ws dir a t).2 ≠ 0 then ws else applyW ws (firstM ws dir a t).1 (setF t false)
def smapE (ws : List Int) (dir a t : Int) (wr : Bool) : Int := if (secondM ws dir a t).2 ≠ 0 then (secondM ws dir a t).2 else applyE ws (secondM ws dir a t).1 (setF t wr)
def smapW (ws : List Int) (dir a t : Int) (wr : Bool) : List Int := if (secondM ws dir a t).2 ≠ 0 then ws else applyW ws (secondM ws dir a t).1 (setF t wr)
theorem applyW_len (ws : List Int) (a : Int) (f : Int → Int × Int) : (applyW ws a f).length = ws.length := by
 unfold applyW; split
 ·
  rfl
 ·
  exact memPut_len ..
theorem applyW_ok {ws : List Int} (h : WdOk ws) (a : Int) {f : Int → Int × Int} (hf : ∀ w, U64 (f w).1) : WdOk (applyW ws a f) := by
 unfold applyW; split
 ·
  exact h
 ·
  exact h.put a (hf _)
theorem setF_u64 (a : Int) (wr : Bool) (w : Int) : U64 (setF a wr w).1 := by
 unfold setF; split
 ·
  decide
 ·
  exact entW_u64 a wr
structure KeptM where
  sp : Int
  pg : Int
  e : PteM
deriving DecidableEq
abbrev KeptM.cells (x : KeptM) : List Value := [.int .i64 x.sp, .int .i64 x.pg, .bool x.e.valid, .bool x.e.write, .int .i64 x.e.at_]
def keptC (x : KeptM) : List Value := [.int .i64 x.sp, .int .i64 x.pg, .bool x.e.valid, .bool x.e.write, .int .i64 x.e.at_]
instance : Enc keptC 5 := ⟨fun _ => rfl, fun _ => rfl⟩
abbrev keptZ : KeptM := ⟨0, 0, .zero⟩
def keyP (sp pg : Int) (x : KeptM) : Bool := decide (x.sp = sp ∧ x.pg = pg)
def tlbGet (l : List KeptM) (sp pg : Int) : Option KeptM := l.find? (keyP sp pg)
def tlbDrop (l : List KeptM) (sp pg : Int) : List KeptM := l.filter fun x => !keyP sp pg x
def keyOk (sp pg : Int) : Prop := ((sp ≥ 0 ∧ sp < 64) ∧ pg ≥ 0) ∧ pg < 256
instance (sp pg : Int) : Decidable (keyOk sp pg) := by unfold keyOk; infer_instance
def fillL (l : List KeptM) (sp pg : Int) (e : PteM) : List KeptM := let m := tlbDrop l sp pg ++ [⟨sp, pg, e⟩]; if m.length > 8 then m.tail else m
end Go.Proofs.YtipncceiekalfaaGreat
end
