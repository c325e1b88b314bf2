/- BootBytes. Laid together by pack.py out of the texts in wip. -/
import Derived.Test.YtkldjadpoknejaaPBootBytes3
set_option linter.unusedVariables false
set_option linter.unusedSimpArgs false
set_option linter.unusedSectionVars false
section
set_option linter.unusedVariables false
set_option linter.unusedSimpArgs false
set_option linter.unusedSectionVars false
namespace Go.Proofs.Ytkldjadpoknejaa
open Go.SL
abbrev DSR (D : Dd) (v1 v2 v3 v4 v5 v6 v7 : Value) (H1 H2 H3 H4 H5 H6 H7 : Hp) : Prop := DS 53 61 64 67 70 73 76 D v1 v2 v3 v4 v5 v6 v7 H1 H2 H3 H4 H5 H6 H7
theorem Lies.readsAt {cc X : List Value} {o : Nat} (h : Lies cc o X) (Pr Q S : List Value) (hX : X = Pr ++ (Q ++ S)) : Reads cc (o + Pr.length) Q := by
 rw [reads_iff]
 intro j v hv
 have := h (Pr.length + j) v (by rw [hX, List.getElem?_append_right (by omega), show Pr.length + j - Pr.length = j by omega, List.getElem?_append_left (List.getElem?_eq_some_iff.1 hv).1]; exact hv)
 rw [show o + (Pr.length + j) = o + Pr.length + j by omega] at this
 rwa [nth_eq] at this
theorem Lies.reads {cc X : List Value} {o : Nat} (h : Lies cc o X) : Reads cc o X := h.readsAt [] X [] (by simp)
def ASl {α : Type} (G : Hp) (k : Nat) (v : Value) (f : α → List Value) (l : List α) : Prop := ∃ a c, v = .slice a l.length c ∧ ArgS G k a (l.map f)
theorem ASl.form {α : Type} {G : Hp} {k : Nat} {v : Value} {f : α → List Value} {l : List α} (h : ASl G k v f l) : ∃ a c, v = .slice a l.length c := ⟨_, _, h.choose_spec.choose_spec.1⟩
theorem ASl.mono {α : Type} {G G' : Hp} {k : Nat} {v : Value} {f : α → List Value} {l : List α} (h : ASl G k v f l) (hg : ∀ p, p ∈ G → p ∈ G') : ASl G' k v f l := by
 obtain ⟨a, c, e, h⟩ := h
 refine ⟨a, c, e, fun i x hx => ?_⟩
 obtain ⟨h1, b, o, cc, T, fz, h2, h3, h4⟩ := h i x hx
 exact ⟨h1, b, o, cc, T, fz, h2, hg _ h3, h4⟩
theorem lies_of {cc X : List Value} {o : Nat} (h : Reads cc o X) : Lies cc o X := fun i v hv => by
 rw [reads_iff] at h
 rw [nth_eq]
 exact h i v hv
theorem da_el {α : Type} {G : Hp} {k i : Nat} {v : Value} {f : α → List Value} {l : List α} {a : α} (h : ASl G k v f l) (hi : l[i]? = some a) :
    ∃ b o cc T fz cap, v = .slice (some ⟨b, o, none⟩) l.length cap ∧ (b, Obj.cells (List.toArray cc) T fz) ∈ G ∧ Lies cc (o + i * k) (f a) := by
  obtain ⟨x, c, rfl, h⟩ := h
  obtain ⟨_, b, o, cc, T, fz, rfl, h2, h3⟩ := h i (f a) (by rw [List.getElem?_map, hi]; rfl)
  exact ⟨b, o, cc, T, fz, c, rfl, h2, lies_of h3⟩
theorem slc_as {α : Type} {f : α → List Value} {k T : Nat} [he : Enc f k] {v : Value} {l : List α} {H : Hp} (h : Slc T k v l.length (cel f l) H) (hk : 0 < k) : ASl H k v f l := by
 obtain ⟨a, c, rfl⟩ := h.form
 refine ⟨a, c, rfl, fun i x hx => ?_⟩
 rw [List.getElem?_map] at hx
 obtain ⟨y, hy, rfl⟩ := Option.map_eq_some_iff.1 hx
 obtain ⟨b, o, cc, cap, hv, rfl, hl, _⟩ := slc_el h hy hk
 cases hv
 exact ⟨he.len _, b, o, cc, T, _, rfl, List.mem_cons_self .., hl.reads⟩
structure DA (G : Hp) (D : Dd) (v1 v2 v3 v4 v5 v6 v7 : Value) : Prop where
  o : ASl G 3 v1 (cE fsO) D.o
  p : ASl G 8 v2 (cE fsP) D.p
  m : ASl G 4 v3 (cE fsM) D.m
  f : ASl G 3 v4 (cE fsF) D.f
  t : ASl G 8 v5 (cE fsT) D.t
  w : ASl G 4 v6 (cE fsW) D.w
  s : ASl G 2 v7 (cE fsS) D.s
theorem DS.da {to tp tm tf tt tw ts : TypeId} {D : Dd} {v1 v2 v3 v4 v5 v6 v7 : Value} {H1 H2 H3 H4 H5 H6 H7 : Hp} (h : DS to tp tm tf tt tw ts D v1 v2 v3 v4 v5 v6 v7 H1 H2 H3 H4 H5 H6 H7) : DA (H1 ++ (H2 ++ (H3 ++ (H4 ++ (H5 ++ (H6 ++ H7)))))) D v1 v2 v3 v4 v5 v6 v7 :=
  ⟨(slc_as h.o (by decide)).mono (by simp +contextual), (slc_as h.p (by decide)).mono (by simp +contextual), (slc_as h.m (by decide)).mono (by simp +contextual), (slc_as h.f (by decide)).mono (by simp +contextual), (slc_as h.t (by decide)).mono (by simp +contextual), (slc_as h.w (by decide)).mono (by simp +contextual), (slc_as h.s (by decide)).mono (by simp +contextual)⟩
theorem cel_take1 {α : Type} {f : α → List Value} {l : List α} {i : Nat} {a : α} (h : l[i]? = some a) : cel f (l.take (i + 1)) = cel f (l.take i) ++ f a := by
 rw [List.take_add_one, h, cel_app]; simp [cel]
def greatD (D : Dd) : Prop := (((((((D.o.length : Int) > 100 ∨ (D.p.length : Int) > 300) ∨ (D.m.length : Int) > 100) ∨ (D.f.length : Int) > 600) ∨ (D.t.length : Int) > 100) ∨ (D.w.length : Int) > 100) ∨ (D.s.length : Int) > 100)
instance (D : Dd) : Decidable (greatD D) := by unfold greatD; infer_instance
set_option maxHeartbeats 4000000 in
theorem tr_great (G : Hp) (D : Dd) (v1 v2 v3 v4 v5 v6 v7 : Value) (hs : DA G D v1 v2 v3 v4 v5 v6 v7) : TrR Try.prog 4 [.agg #[v1, v2, v3, v4, v5, v6, v7]] ([]) (.bool (decide (greatD D))) := by
 obtain ⟨s1, c1, rfl⟩ := hs.o.form
 obtain ⟨s2, c2, rfl⟩ := hs.p.form
 obtain ⟨s3, c3, rfl⟩ := hs.m.form
 obtain ⟨s4, c4, rfl⟩ := hs.f.form
 obtain ⟨s5, c5, rfl⟩ := hs.t.form
 obtain ⟨s6, c6, rfl⟩ := hs.w.form
 obtain ⟨s7, c7, rfl⟩ := hs.s.form
 refine Tr.enter Try.func4 rfl Try.ntmps4 rfl (fun W F => ?_)
 refine Wp.app ?_
 refine Wr ?_
 refine Ops.ef rfl (ef_boxK rfl rfl) ?_
 rintro _ _ ⟨b1, rfl, rfl⟩
 refine Oa1 rfl rfl ?_
 refine On ?_
 refine Wr ?_
 refine Of1 rfl rfl rfl ?_
 refine Ol1 rfl rfl rfl rfl ?_
 refine Ops.pv (pv_len_slice (T := 22) rfl rfl) rfl ?_
 refine Ops.pv (pv_gtr rfl rfl) rfl ?_
 refine Om1 rfl rfl ?_
 refine Ops.pvcn rfl rfl (fun hg => pv_fieldAddr0 rfl rfl) rfl ?_
 refine Ops.pvcn rfl rfl (fun hg => Pv.setE (t := 8) rfl (cv_pos hg) (pv_load rfl rfl rfl)) rfl ?_
 refine Ops.pvcn rfl rfl (fun hg => Pv.setE (t := 8) rfl (cv_pos hg) (Pv.setE (t := 9) rfl (cv_pos hg) (pv_len_slice (T := 23) rfl rfl))) rfl ?_
 refine Ops.pvcn rfl rfl (fun hg => Pv.setE (t := 8) rfl (cv_pos hg) (Pv.setE (t := 9) rfl (cv_pos hg) (Pv.setE (t := 10) rfl (cv_pos hg) (pv_gtr rfl rfl)))) rfl ?_
 refine Ops.pv (pv_pick_or rfl rfl) rfl ?_
 refine Om1 rfl rfl ?_
 refine Ops.pvcn rfl rfl (fun hg => pv_fieldAddr0 rfl rfl) rfl ?_
 refine Ops.pvcn rfl rfl (fun hg => Pv.setE (t := 14) rfl (cv_pos hg) (pv_load rfl rfl rfl)) rfl ?_
 refine Ops.pvcn rfl rfl (fun hg => Pv.setE (t := 14) rfl (cv_pos hg) (Pv.setE (t := 15) rfl (cv_pos hg) (pv_len_slice (T := 24) rfl rfl))) rfl ?_
 refine Ops.pvcn rfl rfl (fun hg => Pv.setE (t := 14) rfl (cv_pos hg) (Pv.setE (t := 15) rfl (cv_pos hg) (Pv.setE (t := 16) rfl (cv_pos hg) (pv_gtr rfl rfl)))) rfl ?_
 refine Ops.pv (pv_pick_or rfl rfl) rfl ?_
 refine Om1 rfl rfl ?_
 refine Ops.pvcn rfl rfl (fun hg => pv_fieldAddr0 rfl rfl) rfl ?_
 refine Ops.pvcn rfl rfl (fun hg => Pv.setE (t := 20) rfl (cv_pos hg) (pv_load rfl rfl rfl)) rfl ?_
 refine Ops.pvcn rfl rfl (fun hg => Pv.setE (t := 20) rfl (cv_pos hg) (Pv.setE (t := 21) rfl (cv_pos hg) (pv_len_slice (T := 25) rfl rfl))) rfl ?_
 refine Ops.pvcn rfl rfl (fun hg => Pv.setE (t := 20) rfl (cv_pos hg) (Pv.setE (t := 21) rfl (cv_pos hg) (Pv.setE (t := 22) rfl (cv_pos hg) (pv_gtr rfl rfl)))) rfl ?_
 refine Ops.pv (pv_pick_or rfl rfl) rfl ?_
 refine Om1 rfl rfl ?_
 refine Ops.pvcn rfl rfl (fun hg => pv_fieldAddr0 rfl rfl) rfl ?_
 refine Ops.pvcn rfl rfl (fun hg => Pv.setE (t := 26) rfl (cv_pos hg) (pv_load rfl rfl rfl)) rfl ?_
 refine Ops.pvcn rfl rfl (fun hg => Pv.setE (t := 26) rfl (cv_pos hg) (Pv.setE (t := 27) rfl (cv_pos hg) (pv_len_slice (T := 26) rfl rfl))) rfl ?_
 refine Ops.pvcn rfl rfl (fun hg => Pv.setE (t := 26) rfl (cv_pos hg) (Pv.setE (t := 27) rfl (cv_pos hg) (Pv.setE (t := 28) rfl (cv_pos hg) (pv_gtr rfl rfl)))) rfl ?_
 refine Ops.pv (pv_pick_or rfl rfl) rfl ?_
 refine Om1 rfl rfl ?_
 refine Ops.pvcn rfl rfl (fun hg => pv_fieldAddr0 rfl rfl) rfl ?_
 refine Ops.pvcn rfl rfl (fun hg => Pv.setE (t := 32) rfl (cv_pos hg) (pv_load rfl rfl rfl)) rfl ?_
 refine Ops.pvcn rfl rfl (fun hg => Pv.setE (t := 32) rfl (cv_pos hg) (Pv.setE (t := 33) rfl (cv_pos hg) (pv_len_slice (T := 27) rfl rfl))) rfl ?_
 refine Ops.pvcn rfl rfl (fun hg => Pv.setE (t := 32) rfl (cv_pos hg) (Pv.setE (t := 33) rfl (cv_pos hg) (Pv.setE (t := 34) rfl (cv_pos hg) (pv_gtr rfl rfl)))) rfl ?_
 refine Ops.pv (pv_pick_or rfl rfl) rfl ?_
 refine Om1 rfl rfl ?_
 refine Ops.pvcn rfl rfl (fun hg => pv_fieldAddr0 rfl rfl) rfl ?_
 refine Ops.pvcn rfl rfl (fun hg => Pv.setE (t := 38) rfl (cv_pos hg) (pv_load rfl rfl rfl)) rfl ?_
 refine Ops.pvcn rfl rfl (fun hg => Pv.setE (t := 38) rfl (cv_pos hg) (Pv.setE (t := 39) rfl (cv_pos hg) (pv_len_slice (T := 28) rfl rfl))) rfl ?_
 refine Ops.pvcn rfl rfl (fun hg => Pv.setE (t := 38) rfl (cv_pos hg) (Pv.setE (t := 39) rfl (cv_pos hg) (Pv.setE (t := 40) rfl (cv_pos hg) (pv_gtr rfl rfl)))) rfl ?_
 refine Ops.pv (pv_pick_or rfl rfl) rfl ?_
 refine Oa1 rfl rfl ?_
 refine On ?_
 refine Wp.ret ?_
 exact Ends.ret (res1 rfl rfl) ⟨rfl, rfl⟩
set_option maxHeartbeats 16000000 in
theorem tr_to (G : Hp) (D : Dd) (v1 v2 v3 v4 v5 v6 v7 : Value) (hs : DA G D v1 v2 v3 v4 v5 v6 v7) (hlo : D.o.length ≤ 2 ^ 20) (hlp : D.p.length ≤ 2 ^ 20) (hlm : D.m.length ≤ 2 ^ 20) (hlf : D.f.length ≤ 2 ^ 20) (hlt : D.t.length ≤ 2 ^ 20) (hlw : D.w.length ≤ 2 ^ 20) (hls : D.s.length ≤ 2 ^ 20) : Tr Try.prog 5 [.agg #[v1, v2, v3, v4, v5, v6, v7]] (G) (fun u L' => ∃ (w1 w2 w3 w4 w5 w6 w7 : Value) (K1 K2 K3 K4 K5 K6 K7 : Hp), DSB D w1 w2 w3 w4 w5 w6 w7 K1 K2 K3 K4 K5 K6 K7 ∧ u = .agg #[w1, w2, w3, w4, w5, w6, w7] ∧ L' = K1 ++ (K2 ++ (K3 ++ (K4 ++ (K5 ++ (K6 ++ (K7 ++ G))))))) := by
 obtain ⟨s1, c1, rfl⟩ := hs.o.form
 obtain ⟨s2, c2, rfl⟩ := hs.p.form
 obtain ⟨s3, c3, rfl⟩ := hs.m.form
 obtain ⟨s4, c4, rfl⟩ := hs.f.form
 obtain ⟨s5, c5, rfl⟩ := hs.t.form
 obtain ⟨s6, c6, rfl⟩ := hs.w.form
 obtain ⟨s7, c7, rfl⟩ := hs.s.form
 refine Tr.enter Try.func5 rfl Try.ntmps5 rfl (fun W F => ?_)
 refine Wp.app ?_
 refine Wr ?_
 refine Ops.ef rfl (ef_boxK rfl rfl) ?_
 rintro _ _ ⟨b1, rfl, rfl⟩
 refine Ops.ef rfl (ef_allocK tyZ40 rfl) ?_
 rintro _ _ ⟨b2, rfl, rfl⟩
 refine On ?_
 refine Wr ?_
 refine Ops.ef rfl (ef_allocK tyZ40 rfl) ?_
 rintro _ _ ⟨b3, rfl, rfl⟩
 refine On ?_
 refine Wp.seq ?_
 refine Wr ?_
 refine Oa1 rfl rfl ?_
 refine On ?_
 refine Wp.block ?_
 refine Wp.loopK (σ := Nat × Value × Hp) [(1, _), (2, _), (3, _)] (fun s => [(4, .int .i64 s.1)]) (fun s => (b3, .cells [s.2.1, .slice none 0 0, .slice none 0 0, .slice none 0 0, .slice none 0 0, .slice none 0 0, .slice none 0 0].toArray 40) :: ((b2, .cells [.slice none 0 0, .slice none 0 0, .slice none 0 0, .slice none 0 0, .slice none 0 0, .slice none 0 0, .slice none 0 0].toArray 40) :: ((b1, .cells [.slice s1 D.o.length c1, .slice s2 D.p.length c2, .slice s3 D.m.length c3, .slice s4 D.f.length c4, .slice s5 D.t.length c5, .slice s6 D.w.length c6, .slice s7 D.s.length c7].toArray 30) :: (s.2.2 ++ (G ++ F))))) (fun s => s.1 ≤ D.o.length ∧ Slc 54 3 s.2.1 s.1 (cel (cE fsO) (D.o.take s.1)) s.2.2) (fun s => D.o.length - s.1) (0, .slice none 0 0, []) ⟨Nat.zero_le _, Slc.nil _ _⟩ ⟨rfl, rfl, rfl, trivial⟩ ⟨rfl, trivial⟩ (by intro w ho; (try dsimp only [List.nil_append, List.cons_append]); exact Drop.own ho) ?_
 rintro ⟨i, vv, G1⟩ KK ⟨hi, hsv⟩ hK
 dsimp only [List.cons_append, List.nil_append] at hK ⊢
 dsimp only at hi hsv ⊢
 refine Wp.seq ?_
 refine Wr ?_
 refine Om1 rfl rfl ?_
 refine Of1 rfl rfl rfl ?_
 refine Ol1 rfl rfl rfl rfl ?_
 refine Ops.pv (pv_len_slice (T := 22) rfl rfl) rfl ?_
 refine Ops.pv (pv_lss rfl rfl) rfl ?_
 refine On ?_
 refine Wp.cond_dect rfl (fun h1 => ?_) (fun h1 => ?_)
 ·
  obtain ⟨e, he⟩ : ∃ e, D.o[i]? = some e := ⟨_, List.getElem?_eq_getElem (by omega)⟩
  obtain ⟨eb, eo, cc, TT, fz, cap, hva, hbm, hx⟩ := da_el hs.o he
  cases hva
  have hbg : Blk G eb (.cells cc.toArray TT fz) := ⟨hbm⟩
  obtain ⟨a0, a1, a2, hae⟩ := El.three rfl e
  rw [cE, hae] at hx
  refine Wp.skip ?_
  refine Ends.seq ?_
  refine Wp.seq ?_
  refine Wp.block ?_
  refine Wr ?_
  refine Of1 rfl rfl rfl ?_
  refine Ol1 rfl rfl rfl rfl ?_
  refine Om1 rfl rfl ?_
  refine Ops.pv (pv_indexAddr (i := i) rfl rfl rfl (by omega)) rfl ?_
  refine Ops.pv (pv_loadK [.int .i64 a0, .int .i64 a1, .int .i64 a2] rfl rfl rfl hx.reads) rfl ?_
  refine Ops.ef rfl (ef_allocK tyZ53 rfl) ?_
  rintro _ _ ⟨b4, rfl, rfl⟩
  refine Ops.ef rfl (ef_storeK rfl rfl rfl rfl) ?_
  rintro _ _ ⟨rfl, rfl⟩
  refine On ?_
  refine Wp.region ?_
  refine Of1 rfl rfl rfl ?_
  refine Ol1 rfl rfl rfl rfl ?_
  refine Of1 rfl rfl rfl ?_
  refine Ol1 rfl rfl rfl rfl ?_
  refine Of1 rfl rfl rfl ?_
  refine Ol1 rfl rfl rfl rfl ?_
  refine Of1 rfl rfl rfl ?_
  refine Ol1 rfl rfl rfl rfl ?_
  refine Ops.pv (pv_build rfl) rfl ?_
  refine Ops.ef rfl (ef_buildSlice1 (k := 3) rfl rfl rfl rfl rfl) ?_
  rintro _ _ ⟨b5, rfl, rfl⟩
  refine Ops.ef rfl (ef_append (H := G1) (xs := [.int .i64 a0, .int .i64 a1, .int .i64 a2]) rfl hsv rfl ⟨rfl, rfl, rfl, trivial⟩ rfl rfl rfl (by omega) (by omega) rfl rfl) ?_
  rintro _ _ ⟨vn1, Hn, hn1, rfl, rfl⟩
  refine Ops.app ?_
  have hsn : Slc 54 3 vn1 (i + 1) (cel (cE fsO) (D.o.take (i + 1))) Hn := by rw [cel_take1 he, cE, hae]; exact hn1
  obtain ⟨x9, y9, rfl⟩ := hsn.form
  refine Of1 rfl rfl rfl ?_
  refine Ops.ef rfl (ef_store1 rfl rfl (by first | rfl | assumption) (by first | rfl | assumption)) ?_
  rintro _ _ ⟨rfl, rfl⟩
  refine Ops.nil ?_
  refine Ends.block_normal ?_
  refine Ends.seq ?_
  refine Wp.region ?_
  refine Om1 rfl rfl ?_
  refine Ops.pv (pv_add rfl rfl (w64n (k := i + 1) (by omega) (by omega))) rfl ?_
  refine Oa1 rfl rfl ?_
  refine Ops.nil ?_
  refine Ends.goes ?_
  refine Goes.back (hK (i + 1, .slice x9 (i + 1) y9, Hn) ⟨by dsimp only; omega, hsn⟩ (by dsimp only; omega)) ⟨rfl, rfl, rfl, rfl, trivial⟩
 obtain rfl : i = D.o.length := by omega
 rw [List.take_length] at hsv
 obtain ⟨p1, q1, rfl⟩ := hsv.form
 have hg1 := hsv
 clear hsv
 refine Wp.exit ?_
 refine Ends.then_exit ?_
 refine Ends.then_exit ?_
 refine Ends.block_hit ?_
 refine Ends.seq ?_
 refine Wp.seq ?_
 refine Wr ?_
 refine Oa1 rfl rfl ?_
 refine On ?_
 refine Wp.block ?_
 refine Wp.loopK (σ := Nat × Value × Hp) [(1, _), (2, _), (3, _)] (fun s => [(6, .int .i64 s.1)]) (fun s => (b3, .cells [.slice p1 D.o.length q1, s.2.1, .slice none 0 0, .slice none 0 0, .slice none 0 0, .slice none 0 0, .slice none 0 0].toArray 40) :: ((b2, .cells [.slice none 0 0, .slice none 0 0, .slice none 0 0, .slice none 0 0, .slice none 0 0, .slice none 0 0, .slice none 0 0].toArray 40) :: ((b1, .cells [.slice s1 D.o.length c1, .slice s2 D.p.length c2, .slice s3 D.m.length c3, .slice s4 D.f.length c4, .slice s5 D.t.length c5, .slice s6 D.w.length c6, .slice s7 D.s.length c7].toArray 30) :: (G1 ++ (s.2.2 ++ (G ++ F)))))) (fun s => s.1 ≤ D.p.length ∧ Slc 62 8 s.2.1 s.1 (cel (cE fsP) (D.p.take s.1)) s.2.2) (fun s => D.p.length - s.1) (0, .slice none 0 0, []) ⟨Nat.zero_le _, Slc.nil _ _⟩ ⟨rfl, rfl, rfl, trivial⟩ ⟨rfl, trivial⟩ (by intro w ho; (try dsimp only [List.nil_append, List.cons_append]); exact Drop.own ho) ?_
 rintro ⟨i, vv, G2⟩ KK ⟨hi, hsv⟩ hK
 dsimp only [List.cons_append, List.nil_append] at hK ⊢
 dsimp only at hi hsv ⊢
 refine Wp.seq ?_
 refine Wr ?_
 refine Om1 rfl rfl ?_
 refine Of1 rfl rfl rfl ?_
 refine Ol1 rfl rfl rfl rfl ?_
 refine Ops.pv (pv_len_slice (T := 23) rfl rfl) rfl ?_
 refine Ops.pv (pv_lss rfl rfl) rfl ?_
 refine On ?_
 refine Wp.cond_dect rfl (fun h2 => ?_) (fun h2 => ?_)
 ·
  obtain ⟨e, he⟩ : ∃ e, D.p[i]? = some e := ⟨_, List.getElem?_eq_getElem (by omega)⟩
  obtain ⟨eb, eo, cc, TT, fz, cap, hva, hbm, hx⟩ := da_el hs.p he
  cases hva
  have hbg : Blk G eb (.cells cc.toArray TT fz) := ⟨hbm⟩
  obtain ⟨a0, a1, a2, a3, a4, a5, a6, a7, hae⟩ := El.eight rfl e
  rw [cE, hae] at hx
  refine Wp.skip ?_
  refine Ends.seq ?_
  refine Wp.seq ?_
  refine Wp.block ?_
  refine AnyH.start ((b1, .cells [.slice s1 D.o.length c1, .slice (some ⟨eb, eo, none⟩) D.p.length c2, .slice s3 D.m.length c3, .slice s4 D.f.length c4, .slice s5 D.t.length c5, .slice s6 D.w.length c6, .slice s7 D.s.length c7].toArray 30) :: G) 19 rfl ?_
  refine Tk 0 rfl rfl (pv_fieldAddr0 rfl rfl) rfl ?_
  refine Tk 2 rfl rfl (pv_fieldAddr0 rfl rfl) rfl ?_
  refine Tk 3 rfl rfl (pv_load rfl rfl rfl) rfl ?_
  refine Tk 4 rfl rfl (pv_move rfl) rfl ?_
  refine Tk 5 rfl rfl (pv_indexAddr (i := i) rfl rfl rfl (by omega)) rfl ?_
  refine Tk 6 rfl rfl (pv_fieldAddr rfl rfl) rfl ?_
  refine Tk 7 rfl rfl (pv_loadK [.int .i64 a0, .int .i64 a1] rfl rfl rfl (hx.readsAt [] [.int .i64 a0, .int .i64 a1] [.int .i64 a2, .int .i64 a3, .int .i64 a4, .int .u64 a5, .int .u64 a6, .int .i64 a7] rfl)) rfl ?_
  refine Tk 8 rfl rfl (pv_fieldAddr0 rfl rfl) rfl ?_
  refine Tk 9 rfl rfl (pv_load rfl rfl rfl) rfl ?_
  refine Tk 10 rfl rfl (pv_move rfl) rfl ?_
  refine Tk 11 rfl rfl (pv_indexAddr (i := i) rfl rfl rfl (by omega)) rfl ?_
  refine Tk 12 rfl rfl (pv_fieldAddr rfl rfl) rfl ?_
  refine Tk 13 rfl rfl (pv_loadK [.int .i64 a2, .int .i64 a3, .int .i64 a4, .int .u64 a5, .int .u64 a6, .int .i64 a7] rfl rfl rfl (hx.readsAt [.int .i64 a0, .int .i64 a1] [.int .i64 a2, .int .i64 a3, .int .i64 a4, .int .u64 a5, .int .u64 a6, .int .i64 a7] [] rfl)) rfl ?_
  refine Tk 14 rfl rfl (pv_build rfl) rfl ?_
  refine AnyH.two 1 15 (by kernel_rfl) ?_ ?_
  ·
   refine Turn.ef rfl rfl (ef_pv (pv_load rfl rfl rfl) rfl) ?_ ?_
   ·
    rintro _ _ ⟨rfl, rfl⟩; infer_instance
   rintro _ _ ⟨rfl, rfl⟩
   refine AnyH.one 15 (by kernel_rfl) ?_
   refine Turn.ef rfl rfl (ef_buildSlice1 (k := 8) rfl rfl rfl rfl rfl) ?_ ?_
   ·
    rintro _ _ ⟨b6, rfl, rfl⟩; infer_instance
   rintro _ _ ⟨b6, rfl, rfl⟩
   refine AnyH.one 16 (by kernel_rfl) ?_
   refine Turn.ef rfl rfl (ef_append (H := G2) (xs := [.int .i64 a0, .int .i64 a1, .int .i64 a2, .int .i64 a3, .int .i64 a4, .int .u64 a5, .int .u64 a6, .int .i64 a7]) rfl hsv rfl ⟨rfl, rfl, rfl, rfl, rfl, rfl, rfl, rfl, trivial⟩ rfl rfl rfl (by omega) (by omega) rfl rfl) ?_ ?_
   ·
    rintro _ _ ⟨vn2, Hn, hn2, rfl, rfl⟩; infer_instance
   rintro _ _ ⟨vn2, Hn, hn2, rfl, rfl⟩
   refine AnyH.app ?_
   have hsn : Slc 62 8 vn2 (i + 1) (cel (cE fsP) (D.p.take (i + 1))) Hn := by rw [cel_take1 he, cE, hae]; exact hn2
   obtain ⟨x9, y9, rfl⟩ := hsn.form
   refine Tk 17 rfl rfl (pv_fieldAddr0 rfl rfl) rfl ?_
   refine AnyH.one 18 (by kernel_rfl) ?_
   refine Turn.ef rfl rfl (ef_store1 rfl rfl (by first | rfl | assumption) (by first | rfl | assumption)) ?_ ?_
   ·
    rintro _ _ ⟨rfl, rfl⟩; infer_instance
   rintro _ _ ⟨rfl, rfl⟩
   refine AnyH.done (by kernel_rfl) ?_
   refine Ends.block_normal ?_
   refine Ends.seq ?_
   refine Wp.region ?_
   refine Om1 rfl rfl ?_
   refine Ops.pv (pv_add rfl rfl (w64n (k := i + 1) (by omega) (by omega))) rfl ?_
   refine Oa1 rfl rfl ?_
   refine Ops.nil ?_
   refine Ends.goes ?_
   refine Goes.back (hK (i + 1, .slice x9 (i + 1) y9, Hn) ⟨by dsimp only; omega, hsn⟩ (by dsimp only; omega)) ⟨rfl, rfl, rfl, rfl, trivial⟩
  refine Turn.ef rfl rfl (ef_buildSlice1 (k := 8) rfl rfl rfl rfl rfl) ?_ ?_
  ·
   rintro _ _ ⟨b7, rfl, rfl⟩; infer_instance
  rintro _ _ ⟨b7, rfl, rfl⟩
  refine AnyH.one 1 (by kernel_rfl) ?_
  refine Turn.ef rfl rfl (ef_pv (pv_load rfl rfl rfl) rfl) ?_ ?_
  ·
   rintro _ _ ⟨rfl, rfl⟩; infer_instance
  rintro _ _ ⟨rfl, rfl⟩
  refine AnyH.one 16 (by kernel_rfl) ?_
  refine Turn.ef rfl rfl (ef_append (H := G2) (xs := [.int .i64 a0, .int .i64 a1, .int .i64 a2, .int .i64 a3, .int .i64 a4, .int .u64 a5, .int .u64 a6, .int .i64 a7]) rfl hsv rfl ⟨rfl, rfl, rfl, rfl, rfl, rfl, rfl, rfl, trivial⟩ rfl rfl rfl (by omega) (by omega) rfl rfl) ?_ ?_
  ·
   rintro _ _ ⟨vn3, Hn, hn3, rfl, rfl⟩; infer_instance
  rintro _ _ ⟨vn3, Hn, hn3, rfl, rfl⟩
  refine AnyH.app ?_
  have hsn : Slc 62 8 vn3 (i + 1) (cel (cE fsP) (D.p.take (i + 1))) Hn := by rw [cel_take1 he, cE, hae]; exact hn3
  obtain ⟨x9, y9, rfl⟩ := hsn.form
  refine Tk 17 rfl rfl (pv_fieldAddr0 rfl rfl) rfl ?_
  refine AnyH.one 18 (by kernel_rfl) ?_
  refine Turn.ef rfl rfl (ef_store1 rfl rfl (by first | rfl | assumption) (by first | rfl | assumption)) ?_ ?_
  ·
   rintro _ _ ⟨rfl, rfl⟩; infer_instance
  rintro _ _ ⟨rfl, rfl⟩
  refine AnyH.done (by kernel_rfl) ?_
  refine Ends.block_normal ?_
  refine Ends.seq ?_
  refine Wp.region ?_
  refine Om1 rfl rfl ?_
  refine Ops.pv (pv_add rfl rfl (w64n (k := i + 1) (by omega) (by omega))) rfl ?_
  refine Oa1 rfl rfl ?_
  refine Ops.nil ?_
  refine Ends.goes ?_
  refine Goes.back (hK (i + 1, .slice x9 (i + 1) y9, Hn) ⟨by dsimp only; omega, hsn⟩ (by dsimp only; omega)) ⟨rfl, rfl, rfl, rfl, trivial⟩
 obtain rfl : i = D.p.length := by omega
 rw [List.take_length] at hsv
 obtain ⟨p2, q2, rfl⟩ := hsv.form
 have hg2 := hsv
 clear hsv
 refine Wp.exit ?_
 refine Ends.then_exit ?_
 refine Ends.then_exit ?_
 refine Ends.block_hit ?_
 refine Ends.seq ?_
 refine Wp.seq ?_
 refine Wr ?_
 refine Oa1 rfl rfl ?_
 refine On ?_
 refine Wp.block ?_
 refine Wp.loopK (σ := Nat × Value × Hp) [(1, _), (2, _), (3, _)] (fun s => [(7, .int .i64 s.1)]) (fun s => (b3, .cells [.slice p1 D.o.length q1, .slice p2 D.p.length q2, s.2.1, .slice none 0 0, .slice none 0 0, .slice none 0 0, .slice none 0 0].toArray 40) :: ((b2, .cells [.slice none 0 0, .slice none 0 0, .slice none 0 0, .slice none 0 0, .slice none 0 0, .slice none 0 0, .slice none 0 0].toArray 40) :: ((b1, .cells [.slice s1 D.o.length c1, .slice s2 D.p.length c2, .slice s3 D.m.length c3, .slice s4 D.f.length c4, .slice s5 D.t.length c5, .slice s6 D.w.length c6, .slice s7 D.s.length c7].toArray 30) :: (G1 ++ (G2 ++ (s.2.2 ++ (G ++ F))))))) (fun s => s.1 ≤ D.m.length ∧ Slc 65 4 s.2.1 s.1 (cel (cE fsM) (D.m.take s.1)) s.2.2) (fun s => D.m.length - s.1) (0, .slice none 0 0, []) ⟨Nat.zero_le _, Slc.nil _ _⟩ ⟨rfl, rfl, rfl, trivial⟩ ⟨rfl, trivial⟩ (by intro w ho; (try dsimp only [List.nil_append, List.cons_append]); exact Drop.own ho) ?_
 rintro ⟨i, vv, G3⟩ KK ⟨hi, hsv⟩ hK
 dsimp only [List.cons_append, List.nil_append] at hK ⊢
 dsimp only at hi hsv ⊢
 refine Wp.seq ?_
 refine Wr ?_
 refine Om1 rfl rfl ?_
 refine Of1 rfl rfl rfl ?_
 refine Ol1 rfl rfl rfl rfl ?_
 refine Ops.pv (pv_len_slice (T := 24) rfl rfl) rfl ?_
 refine Ops.pv (pv_lss rfl rfl) rfl ?_
 refine On ?_
 refine Wp.cond_dect rfl (fun h3 => ?_) (fun h3 => ?_)
 ·
  obtain ⟨e, he⟩ : ∃ e, D.m[i]? = some e := ⟨_, List.getElem?_eq_getElem (by omega)⟩
  obtain ⟨eb, eo, cc, TT, fz, cap, hva, hbm, hx⟩ := da_el hs.m he
  cases hva
  have hbg : Blk G eb (.cells cc.toArray TT fz) := ⟨hbm⟩
  obtain ⟨a0, a1, a2, a3, hae⟩ := El.four rfl e
  rw [cE, hae] at hx
  refine Wp.skip ?_
  refine Ends.seq ?_
  refine Wp.seq ?_
  refine Wp.block ?_
  refine Wr ?_
  refine Of1 rfl rfl rfl ?_
  refine Ol1 rfl rfl rfl rfl ?_
  refine Om1 rfl rfl ?_
  refine Ops.pv (pv_indexAddr (i := i) rfl rfl rfl (by omega)) rfl ?_
  refine Ops.pv (pv_loadK [.int .i64 a0, .int .i64 a1, .int .i64 a2, .bool (decide (a3 = 1))] rfl rfl rfl hx.reads) rfl ?_
  refine Ops.ef rfl (ef_allocK tyZ64 rfl) ?_
  rintro _ _ ⟨b8, rfl, rfl⟩
  refine Ops.ef rfl (ef_storeK rfl rfl rfl rfl) ?_
  rintro _ _ ⟨rfl, rfl⟩
  refine On ?_
  refine Wp.region ?_
  refine Of1 rfl rfl rfl ?_
  refine Ol1 rfl rfl rfl rfl ?_
  refine Of1 rfl rfl rfl ?_
  refine Ol1 rfl rfl rfl rfl ?_
  refine Of1 rfl rfl rfl ?_
  refine Ol1 rfl rfl rfl rfl ?_
  refine Of1 rfl rfl rfl ?_
  refine Ol1 rfl rfl rfl rfl ?_
  refine Of1 rfl rfl rfl ?_
  refine Ol1 rfl rfl rfl rfl ?_
  refine Ops.pv (pv_build rfl) rfl ?_
  refine Ops.ef rfl (ef_buildSlice1 (k := 4) rfl rfl rfl rfl rfl) ?_
  rintro _ _ ⟨b9, rfl, rfl⟩
  refine Ops.ef rfl (ef_append (H := G3) (xs := [.int .i64 a0, .int .i64 a1, .int .i64 a2, .bool (decide (a3 = 1))]) rfl hsv rfl ⟨rfl, rfl, rfl, rfl, trivial⟩ rfl rfl rfl (by omega) (by omega) rfl rfl) ?_
  rintro _ _ ⟨vn4, Hn, hn4, rfl, rfl⟩
  refine Ops.app ?_
  have hsn : Slc 65 4 vn4 (i + 1) (cel (cE fsM) (D.m.take (i + 1))) Hn := by rw [cel_take1 he, cE, hae]; exact hn4
  obtain ⟨x9, y9, rfl⟩ := hsn.form
  refine Of1 rfl rfl rfl ?_
  refine Ops.ef rfl (ef_store1 rfl rfl (by first | rfl | assumption) (by first | rfl | assumption)) ?_
  rintro _ _ ⟨rfl, rfl⟩
  refine Ops.nil ?_
  refine Ends.block_normal ?_
  refine Ends.seq ?_
  refine Wp.region ?_
  refine Om1 rfl rfl ?_
  refine Ops.pv (pv_add rfl rfl (w64n (k := i + 1) (by omega) (by omega))) rfl ?_
  refine Oa1 rfl rfl ?_
  refine Ops.nil ?_
  refine Ends.goes ?_
  refine Goes.back (hK (i + 1, .slice x9 (i + 1) y9, Hn) ⟨by dsimp only; omega, hsn⟩ (by dsimp only; omega)) ⟨rfl, rfl, rfl, rfl, trivial⟩
 obtain rfl : i = D.m.length := by omega
 rw [List.take_length] at hsv
 obtain ⟨p3, q3, rfl⟩ := hsv.form
 have hg3 := hsv
 clear hsv
 refine Wp.exit ?_
 refine Ends.then_exit ?_
 refine Ends.then_exit ?_
 refine Ends.block_hit ?_
 refine Ends.seq ?_
 refine Wp.seq ?_
 refine Wr ?_
 refine Oa1 rfl rfl ?_
 refine On ?_
 refine Wp.block ?_
 refine Wp.loopK (σ := Nat × Value × Hp) [(1, _), (2, _), (3, _)] (fun s => [(9, .int .i64 s.1)]) (fun s => (b3, .cells [.slice p1 D.o.length q1, .slice p2 D.p.length q2, .slice p3 D.m.length q3, s.2.1, .slice none 0 0, .slice none 0 0, .slice none 0 0].toArray 40) :: ((b2, .cells [.slice none 0 0, .slice none 0 0, .slice none 0 0, .slice none 0 0, .slice none 0 0, .slice none 0 0, .slice none 0 0].toArray 40) :: ((b1, .cells [.slice s1 D.o.length c1, .slice s2 D.p.length c2, .slice s3 D.m.length c3, .slice s4 D.f.length c4, .slice s5 D.t.length c5, .slice s6 D.w.length c6, .slice s7 D.s.length c7].toArray 30) :: (G1 ++ (G2 ++ (G3 ++ (s.2.2 ++ (G ++ F)))))))) (fun s => s.1 ≤ D.f.length ∧ Slc 68 3 s.2.1 s.1 (cel (cE fsF) (D.f.take s.1)) s.2.2) (fun s => D.f.length - s.1) (0, .slice none 0 0, []) ⟨Nat.zero_le _, Slc.nil _ _⟩ ⟨rfl, rfl, rfl, trivial⟩ ⟨rfl, trivial⟩ (by intro w ho; (try dsimp only [List.nil_append, List.cons_append]); exact Drop.own ho) ?_
 rintro ⟨i, vv, G4⟩ KK ⟨hi, hsv⟩ hK
 dsimp only [List.cons_append, List.nil_append] at hK ⊢
 dsimp only at hi hsv ⊢
 refine Wp.seq ?_
 refine Wr ?_
 refine Om1 rfl rfl ?_
 refine Of1 rfl rfl rfl ?_
 refine Ol1 rfl rfl rfl rfl ?_
 refine Ops.pv (pv_len_slice (T := 25) rfl rfl) rfl ?_
 refine Ops.pv (pv_lss rfl rfl) rfl ?_
 refine On ?_
 refine Wp.cond_dect rfl (fun h4 => ?_) (fun h4 => ?_)
 ·
  obtain ⟨e, he⟩ : ∃ e, D.f[i]? = some e := ⟨_, List.getElem?_eq_getElem (by omega)⟩
  obtain ⟨eb, eo, cc, TT, fz, cap, hva, hbm, hx⟩ := da_el hs.f he
  cases hva
  have hbg : Blk G eb (.cells cc.toArray TT fz) := ⟨hbm⟩
  obtain ⟨a0, a1, a2, hae⟩ := El.three rfl e
  rw [cE, hae] at hx
  refine Wp.skip ?_
  refine Ends.seq ?_
  refine Wp.seq ?_
  refine Wp.block ?_
  refine Wr ?_
  refine Of1 rfl rfl rfl ?_
  refine Ol1 rfl rfl rfl rfl ?_
  refine Om1 rfl rfl ?_
  refine Ops.pv (pv_indexAddr (i := i) rfl rfl rfl (by omega)) rfl ?_
  refine Ops.pv (pv_loadK [.int .i64 a0, .int .i64 a1, .int .u64 a2] rfl rfl rfl hx.reads) rfl ?_
  refine Ops.ef rfl (ef_allocK tyZ67 rfl) ?_
  rintro _ _ ⟨b10, rfl, rfl⟩
  refine Ops.ef rfl (ef_storeK rfl rfl rfl rfl) ?_
  rintro _ _ ⟨rfl, rfl⟩
  refine On ?_
  refine Wp.region ?_
  refine Of1 rfl rfl rfl ?_
  refine Ol1 rfl rfl rfl rfl ?_
  refine Of1 rfl rfl rfl ?_
  refine Ol1 rfl rfl rfl rfl ?_
  refine Of1 rfl rfl rfl ?_
  refine Ol1 rfl rfl rfl rfl ?_
  refine Of1 rfl rfl rfl ?_
  refine Ol1 rfl rfl rfl rfl ?_
  refine Ops.pv (pv_build rfl) rfl ?_
  refine Ops.ef rfl (ef_buildSlice1 (k := 3) rfl rfl rfl rfl rfl) ?_
  rintro _ _ ⟨b11, rfl, rfl⟩
  refine Ops.ef rfl (ef_append (H := G4) (xs := [.int .i64 a0, .int .i64 a1, .int .u64 a2]) rfl hsv rfl ⟨rfl, rfl, rfl, trivial⟩ rfl rfl rfl (by omega) (by omega) rfl rfl) ?_
  rintro _ _ ⟨vn5, Hn, hn5, rfl, rfl⟩
  refine Ops.app ?_
  have hsn : Slc 68 3 vn5 (i + 1) (cel (cE fsF) (D.f.take (i + 1))) Hn := by rw [cel_take1 he, cE, hae]; exact hn5
  obtain ⟨x9, y9, rfl⟩ := hsn.form
  refine Of1 rfl rfl rfl ?_
  refine Ops.ef rfl (ef_store1 rfl rfl (by first | rfl | assumption) (by first | rfl | assumption)) ?_
  rintro _ _ ⟨rfl, rfl⟩
  refine Ops.nil ?_
  refine Ends.block_normal ?_
  refine Ends.seq ?_
  refine Wp.region ?_
  refine Om1 rfl rfl ?_
  refine Ops.pv (pv_add rfl rfl (w64n (k := i + 1) (by omega) (by omega))) rfl ?_
  refine Oa1 rfl rfl ?_
  refine Ops.nil ?_
  refine Ends.goes ?_
  refine Goes.back (hK (i + 1, .slice x9 (i + 1) y9, Hn) ⟨by dsimp only; omega, hsn⟩ (by dsimp only; omega)) ⟨rfl, rfl, rfl, rfl, trivial⟩
 obtain rfl : i = D.f.length := by omega
 rw [List.take_length] at hsv
 obtain ⟨p4, q4, rfl⟩ := hsv.form
 have hg4 := hsv
 clear hsv
 refine Wp.exit ?_
 refine Ends.then_exit ?_
 refine Ends.then_exit ?_
 refine Ends.block_hit ?_
 refine Ends.seq ?_
 refine Wp.seq ?_
 refine Wr ?_
 refine Oa1 rfl rfl ?_
 refine On ?_
 refine Wp.block ?_
 refine Wp.loopK (σ := Nat × Value × Hp) [(1, _), (2, _), (3, _)] (fun s => [(11, .int .i64 s.1)]) (fun s => (b3, .cells [.slice p1 D.o.length q1, .slice p2 D.p.length q2, .slice p3 D.m.length q3, .slice p4 D.f.length q4, s.2.1, .slice none 0 0, .slice none 0 0].toArray 40) :: ((b2, .cells [.slice none 0 0, .slice none 0 0, .slice none 0 0, .slice none 0 0, .slice none 0 0, .slice none 0 0, .slice none 0 0].toArray 40) :: ((b1, .cells [.slice s1 D.o.length c1, .slice s2 D.p.length c2, .slice s3 D.m.length c3, .slice s4 D.f.length c4, .slice s5 D.t.length c5, .slice s6 D.w.length c6, .slice s7 D.s.length c7].toArray 30) :: (G1 ++ (G2 ++ (G3 ++ (G4 ++ (s.2.2 ++ (G ++ F))))))))) (fun s => s.1 ≤ D.t.length ∧ Slc 71 8 s.2.1 s.1 (cel (cE fsT) (D.t.take s.1)) s.2.2) (fun s => D.t.length - s.1) (0, .slice none 0 0, []) ⟨Nat.zero_le _, Slc.nil _ _⟩ ⟨rfl, rfl, rfl, trivial⟩ ⟨rfl, trivial⟩ (by intro w ho; (try dsimp only [List.nil_append, List.cons_append]); exact Drop.own ho) ?_
 rintro ⟨i, vv, G5⟩ KK ⟨hi, hsv⟩ hK
 dsimp only [List.cons_append, List.nil_append] at hK ⊢
 dsimp only at hi hsv ⊢
 refine Wp.seq ?_
 refine Wr ?_
 refine Om1 rfl rfl ?_
 refine Of1 rfl rfl rfl ?_
 refine Ol1 rfl rfl rfl rfl ?_
 refine Ops.pv (pv_len_slice (T := 26) rfl rfl) rfl ?_
 refine Ops.pv (pv_lss rfl rfl) rfl ?_
 refine On ?_
 refine Wp.cond_dect rfl (fun h5 => ?_) (fun h5 => ?_)
 ·
  obtain ⟨e, he⟩ : ∃ e, D.t[i]? = some e := ⟨_, List.getElem?_eq_getElem (by omega)⟩
  obtain ⟨eb, eo, cc, TT, fz, cap, hva, hbm, hx⟩ := da_el hs.t he
  cases hva
  have hbg : Blk G eb (.cells cc.toArray TT fz) := ⟨hbm⟩
  obtain ⟨a0, a1, a2, a3, a4, a5, a6, a7, hae⟩ := El.eight rfl e
  rw [cE, hae] at hx
  refine Wp.skip ?_
  refine Ends.seq ?_
  refine Wp.seq ?_
  refine Wp.block ?_
  refine Wr ?_
  refine Of1 rfl rfl rfl ?_
  refine Ol1 rfl rfl rfl rfl ?_
  refine Om1 rfl rfl ?_
  refine Ops.pv (pv_indexAddr (i := i) rfl rfl rfl (by omega)) rfl ?_
  refine Ops.pv (pv_loadK [.int .i64 a0, .int .i64 a1, .int .i64 a2, .int .i64 a3, .int .i64 a4, .int .u64 a5, .int .i64 a6, .int .i64 a7] rfl rfl rfl hx.reads) rfl ?_
  refine Ops.ef rfl (ef_allocK tyZ70 rfl) ?_
  rintro _ _ ⟨b12, rfl, rfl⟩
  refine Ops.ef rfl (ef_storeK rfl rfl rfl rfl) ?_
  rintro _ _ ⟨rfl, rfl⟩
  refine On ?_
  refine Wp.region ?_
  refine Of1 rfl rfl rfl ?_
  refine Ol1 rfl rfl rfl rfl ?_
  refine Of1 rfl rfl rfl ?_
  refine Ol1 rfl rfl rfl rfl ?_
  refine Of1 rfl rfl rfl ?_
  refine Ol1 rfl rfl rfl rfl ?_
  refine Of1 rfl rfl rfl ?_
  refine Ol1 rfl rfl rfl rfl ?_
  refine Of1 rfl rfl rfl ?_
  refine Ol1 rfl rfl rfl rfl ?_
  refine Of1 rfl rfl rfl ?_
  refine Ol1 rfl rfl rfl rfl ?_
  refine Of1 rfl rfl rfl ?_
  refine Ol1 rfl rfl rfl rfl ?_
  refine Of1 rfl rfl rfl ?_
  refine Ol1 rfl rfl rfl rfl ?_
  refine Of1 rfl rfl rfl ?_
  refine Ol1 rfl rfl rfl rfl ?_
  refine Ops.pv (pv_build rfl) rfl ?_
  refine Ops.ef rfl (ef_buildSlice1 (k := 8) rfl rfl rfl rfl rfl) ?_
  rintro _ _ ⟨b13, rfl, rfl⟩
  refine Ops.ef rfl (ef_append (H := G5) (xs := [.int .i64 a0, .int .i64 a1, .int .i64 a2, .int .i64 a3, .int .i64 a4, .int .u64 a5, .int .i64 a6, .int .i64 a7]) rfl hsv rfl ⟨rfl, rfl, rfl, rfl, rfl, rfl, rfl, rfl, trivial⟩ rfl rfl rfl (by omega) (by omega) rfl rfl) ?_
  rintro _ _ ⟨vn6, Hn, hn6, rfl, rfl⟩
  refine Ops.app ?_
  have hsn : Slc 71 8 vn6 (i + 1) (cel (cE fsT) (D.t.take (i + 1))) Hn := by rw [cel_take1 he, cE, hae]; exact hn6
  obtain ⟨x9, y9, rfl⟩ := hsn.form
  refine Of1 rfl rfl rfl ?_
  refine Ops.ef rfl (ef_store1 rfl rfl (by first | rfl | assumption) (by first | rfl | assumption)) ?_
  rintro _ _ ⟨rfl, rfl⟩
  refine Ops.nil ?_
  refine Ends.block_normal ?_
  refine Ends.seq ?_
  refine Wp.region ?_
  refine Om1 rfl rfl ?_
  refine Ops.pv (pv_add rfl rfl (w64n (k := i + 1) (by omega) (by omega))) rfl ?_
  refine Oa1 rfl rfl ?_
  refine Ops.nil ?_
  refine Ends.goes ?_
  refine Goes.back (hK (i + 1, .slice x9 (i + 1) y9, Hn) ⟨by dsimp only; omega, hsn⟩ (by dsimp only; omega)) ⟨rfl, rfl, rfl, rfl, trivial⟩
 obtain rfl : i = D.t.length := by omega
 rw [List.take_length] at hsv
 obtain ⟨p5, q5, rfl⟩ := hsv.form
 have hg5 := hsv
 clear hsv
 refine Wp.exit ?_
 refine Ends.then_exit ?_
 refine Ends.then_exit ?_
 refine Ends.block_hit ?_
 refine Ends.seq ?_
 refine Wp.seq ?_
 refine Wr ?_
 refine Oa1 rfl rfl ?_
 refine On ?_
 refine Wp.block ?_
 refine Wp.loopK (σ := Nat × Value × Hp) [(1, _), (2, _), (3, _)] (fun s => [(13, .int .i64 s.1)]) (fun s => (b3, .cells [.slice p1 D.o.length q1, .slice p2 D.p.length q2, .slice p3 D.m.length q3, .slice p4 D.f.length q4, .slice p5 D.t.length q5, s.2.1, .slice none 0 0].toArray 40) :: ((b2, .cells [.slice none 0 0, .slice none 0 0, .slice none 0 0, .slice none 0 0, .slice none 0 0, .slice none 0 0, .slice none 0 0].toArray 40) :: ((b1, .cells [.slice s1 D.o.length c1, .slice s2 D.p.length c2, .slice s3 D.m.length c3, .slice s4 D.f.length c4, .slice s5 D.t.length c5, .slice s6 D.w.length c6, .slice s7 D.s.length c7].toArray 30) :: (G1 ++ (G2 ++ (G3 ++ (G4 ++ (G5 ++ (s.2.2 ++ (G ++ F)))))))))) (fun s => s.1 ≤ D.w.length ∧ Slc 74 4 s.2.1 s.1 (cel (cE fsW) (D.w.take s.1)) s.2.2) (fun s => D.w.length - s.1) (0, .slice none 0 0, []) ⟨Nat.zero_le _, Slc.nil _ _⟩ ⟨rfl, rfl, rfl, trivial⟩ ⟨rfl, trivial⟩ (by intro w ho; (try dsimp only [List.nil_append, List.cons_append]); exact Drop.own ho) ?_
 rintro ⟨i, vv, G6⟩ KK ⟨hi, hsv⟩ hK
 dsimp only [List.cons_append, List.nil_append] at hK ⊢
 dsimp only at hi hsv ⊢
 refine Wp.seq ?_
 refine Wr ?_
 refine Om1 rfl rfl ?_
 refine Of1 rfl rfl rfl ?_
 refine Ol1 rfl rfl rfl rfl ?_
 refine Ops.pv (pv_len_slice (T := 27) rfl rfl) rfl ?_
 refine Ops.pv (pv_lss rfl rfl) rfl ?_
 refine On ?_
 refine Wp.cond_dect rfl (fun h6 => ?_) (fun h6 => ?_)
 ·
  obtain ⟨e, he⟩ : ∃ e, D.w[i]? = some e := ⟨_, List.getElem?_eq_getElem (by omega)⟩
  obtain ⟨eb, eo, cc, TT, fz, cap, hva, hbm, hx⟩ := da_el hs.w he
  cases hva
  have hbg : Blk G eb (.cells cc.toArray TT fz) := ⟨hbm⟩
  obtain ⟨a0, a1, a2, a3, hae⟩ := El.four rfl e
  rw [cE, hae] at hx
  refine Wp.skip ?_
  refine Ends.seq ?_
  refine Wp.seq ?_
  refine Wp.block ?_
  refine Wr ?_
  refine Of1 rfl rfl rfl ?_
  refine Ol1 rfl rfl rfl rfl ?_
  refine Om1 rfl rfl ?_
  refine Ops.pv (pv_indexAddr (i := i) rfl rfl rfl (by omega)) rfl ?_
  refine Ops.pv (pv_loadK [.int .i64 a0, .int .i64 a1, .int .i64 a2, .int .u64 a3] rfl rfl rfl hx.reads) rfl ?_
  refine Ops.ef rfl (ef_allocK tyZ73 rfl) ?_
  rintro _ _ ⟨b14, rfl, rfl⟩
  refine Ops.ef rfl (ef_storeK rfl rfl rfl rfl) ?_
  rintro _ _ ⟨rfl, rfl⟩
  refine On ?_
  refine Wp.region ?_
  refine Of1 rfl rfl rfl ?_
  refine Ol1 rfl rfl rfl rfl ?_
  refine Of1 rfl rfl rfl ?_
  refine Ol1 rfl rfl rfl rfl ?_
  refine Of1 rfl rfl rfl ?_
  refine Ol1 rfl rfl rfl rfl ?_
  refine Of1 rfl rfl rfl ?_
  refine Ol1 rfl rfl rfl rfl ?_
  refine Of1 rfl rfl rfl ?_
  refine Ol1 rfl rfl rfl rfl ?_
  refine Ops.pv (pv_build rfl) rfl ?_
  refine Ops.ef rfl (ef_buildSlice1 (k := 4) rfl rfl rfl rfl rfl) ?_
  rintro _ _ ⟨b15, rfl, rfl⟩
  refine Ops.ef rfl (ef_append (H := G6) (xs := [.int .i64 a0, .int .i64 a1, .int .i64 a2, .int .u64 a3]) rfl hsv rfl ⟨rfl, rfl, rfl, rfl, trivial⟩ rfl rfl rfl (by omega) (by omega) rfl rfl) ?_
  rintro _ _ ⟨vn7, Hn, hn7, rfl, rfl⟩
  refine Ops.app ?_
  have hsn : Slc 74 4 vn7 (i + 1) (cel (cE fsW) (D.w.take (i + 1))) Hn := by rw [cel_take1 he, cE, hae]; exact hn7
  obtain ⟨x9, y9, rfl⟩ := hsn.form
  refine Of1 rfl rfl rfl ?_
  refine Ops.ef rfl (ef_store1 rfl rfl (by first | rfl | assumption) (by first | rfl | assumption)) ?_
  rintro _ _ ⟨rfl, rfl⟩
  refine Ops.nil ?_
  refine Ends.block_normal ?_
  refine Ends.seq ?_
  refine Wp.region ?_
  refine Om1 rfl rfl ?_
  refine Ops.pv (pv_add rfl rfl (w64n (k := i + 1) (by omega) (by omega))) rfl ?_
  refine Oa1 rfl rfl ?_
  refine Ops.nil ?_
  refine Ends.goes ?_
  refine Goes.back (hK (i + 1, .slice x9 (i + 1) y9, Hn) ⟨by dsimp only; omega, hsn⟩ (by dsimp only; omega)) ⟨rfl, rfl, rfl, rfl, trivial⟩
 obtain rfl : i = D.w.length := by omega
 rw [List.take_length] at hsv
 obtain ⟨p6, q6, rfl⟩ := hsv.form
 have hg6 := hsv
 clear hsv
 refine Wp.exit ?_
 refine Ends.then_exit ?_
 refine Ends.then_exit ?_
 refine Ends.block_hit ?_
 refine Ends.seq ?_
 refine Wp.seq ?_
 refine Wr ?_
 refine Oa1 rfl rfl ?_
 refine On ?_
 refine Wp.block ?_
 refine Wp.loopK (σ := Nat × Value × Hp) [(1, _), (2, _), (3, _)] (fun s => [(15, .int .i64 s.1)]) (fun s => (b3, .cells [.slice p1 D.o.length q1, .slice p2 D.p.length q2, .slice p3 D.m.length q3, .slice p4 D.f.length q4, .slice p5 D.t.length q5, .slice p6 D.w.length q6, s.2.1].toArray 40) :: ((b2, .cells [.slice none 0 0, .slice none 0 0, .slice none 0 0, .slice none 0 0, .slice none 0 0, .slice none 0 0, .slice none 0 0].toArray 40) :: ((b1, .cells [.slice s1 D.o.length c1, .slice s2 D.p.length c2, .slice s3 D.m.length c3, .slice s4 D.f.length c4, .slice s5 D.t.length c5, .slice s6 D.w.length c6, .slice s7 D.s.length c7].toArray 30) :: (G1 ++ (G2 ++ (G3 ++ (G4 ++ (G5 ++ (G6 ++ (s.2.2 ++ (G ++ F))))))))))) (fun s => s.1 ≤ D.s.length ∧ Slc 77 2 s.2.1 s.1 (cel (cE fsS) (D.s.take s.1)) s.2.2) (fun s => D.s.length - s.1) (0, .slice none 0 0, []) ⟨Nat.zero_le _, Slc.nil _ _⟩ ⟨rfl, rfl, rfl, trivial⟩ ⟨rfl, trivial⟩ (by intro w ho; (try dsimp only [List.nil_append, List.cons_append]); exact Drop.own ho) ?_
 rintro ⟨i, vv, G7⟩ KK ⟨hi, hsv⟩ hK
 dsimp only [List.cons_append, List.nil_append] at hK ⊢
 dsimp only at hi hsv ⊢
 refine Wp.seq ?_
 refine Wr ?_
 refine Om1 rfl rfl ?_
 refine Of1 rfl rfl rfl ?_
 refine Ol1 rfl rfl rfl rfl ?_
 refine Ops.pv (pv_len_slice (T := 28) rfl rfl) rfl ?_
 refine Ops.pv (pv_lss rfl rfl) rfl ?_
 refine On ?_
 refine Wp.cond_dect rfl (fun h7 => ?_) (fun h7 => ?_)
 ·
  obtain ⟨e, he⟩ : ∃ e, D.s[i]? = some e := ⟨_, List.getElem?_eq_getElem (by omega)⟩
  obtain ⟨eb, eo, cc, TT, fz, cap, hva, hbm, hx⟩ := da_el hs.s he
  cases hva
  have hbg : Blk G eb (.cells cc.toArray TT fz) := ⟨hbm⟩
  obtain ⟨a0, a1, hae⟩ := El.two rfl e
  rw [cE, hae] at hx
  refine Wp.skip ?_
  refine Ends.seq ?_
  refine Wp.seq ?_
  refine Wp.block ?_
  refine AnyH.start ((b1, .cells [.slice s1 D.o.length c1, .slice s2 D.p.length c2, .slice s3 D.m.length c3, .slice s4 D.f.length c4, .slice s5 D.t.length c5, .slice s6 D.w.length c6, .slice (some ⟨eb, eo, none⟩) D.s.length c7].toArray 30) :: G) 19 rfl ?_
  refine Tk 0 rfl rfl (pv_fieldAddr0 rfl rfl) rfl ?_
  refine Tk 2 rfl rfl (pv_fieldAddr0 rfl rfl) rfl ?_
  refine Tk 3 rfl rfl (pv_load rfl rfl rfl) rfl ?_
  refine Tk 4 rfl rfl (pv_move rfl) rfl ?_
  refine Tk 5 rfl rfl (pv_indexAddr (i := i) rfl rfl rfl (by omega)) rfl ?_
  refine Tk 6 rfl rfl (pv_fieldAddr rfl rfl) rfl ?_
  refine Tk 7 rfl rfl (pv_load rfl rfl (hx.at_ (v := .int .i64 a0) 0 rfl)) rfl ?_
  refine Tk 8 rfl rfl (pv_fieldAddr0 rfl rfl) rfl ?_
  refine Tk 9 rfl rfl (pv_load rfl rfl rfl) rfl ?_
  refine Tk 10 rfl rfl (pv_move rfl) rfl ?_
  refine Tk 11 rfl rfl (pv_indexAddr (i := i) rfl rfl rfl (by omega)) rfl ?_
  refine Tk 12 rfl rfl (pv_fieldAddr rfl rfl) rfl ?_
  refine Tk 13 rfl rfl (pv_load rfl rfl (hx.at_ (v := .int .i64 a1) 1 rfl)) rfl ?_
  refine Tk 14 rfl rfl (pv_build rfl) rfl ?_
  refine AnyH.two 1 15 (by kernel_rfl) ?_ ?_
  ·
   refine Turn.ef rfl rfl (ef_pv (pv_load rfl rfl rfl) rfl) ?_ ?_
   ·
    rintro _ _ ⟨rfl, rfl⟩; infer_instance
   rintro _ _ ⟨rfl, rfl⟩
   refine AnyH.one 15 (by kernel_rfl) ?_
   refine Turn.ef rfl rfl (ef_buildSlice1 (k := 2) rfl rfl rfl rfl rfl) ?_ ?_
   ·
    rintro _ _ ⟨b16, rfl, rfl⟩; infer_instance
   rintro _ _ ⟨b16, rfl, rfl⟩
   refine AnyH.one 16 (by kernel_rfl) ?_
   refine Turn.ef rfl rfl (ef_append (H := G7) (xs := [.int .i64 a0, .int .i64 a1]) rfl hsv rfl ⟨rfl, rfl, trivial⟩ rfl rfl rfl (by omega) (by omega) rfl rfl) ?_ ?_
   ·
    rintro _ _ ⟨vn8, Hn, hn8, rfl, rfl⟩; infer_instance
   rintro _ _ ⟨vn8, Hn, hn8, rfl, rfl⟩
   refine AnyH.app ?_
   have hsn : Slc 77 2 vn8 (i + 1) (cel (cE fsS) (D.s.take (i + 1))) Hn := by rw [cel_take1 he, cE, hae]; exact hn8
   obtain ⟨x9, y9, rfl⟩ := hsn.form
   refine Tk 17 rfl rfl (pv_fieldAddr0 rfl rfl) rfl ?_
   refine AnyH.one 18 (by kernel_rfl) ?_
   refine Turn.ef rfl rfl (ef_store1 rfl rfl (by first | rfl | assumption) (by first | rfl | assumption)) ?_ ?_
   ·
    rintro _ _ ⟨rfl, rfl⟩; infer_instance
   rintro _ _ ⟨rfl, rfl⟩
   refine AnyH.done (by kernel_rfl) ?_
   refine Ends.block_normal ?_
   refine Ends.seq ?_
   refine Wp.region ?_
   refine Om1 rfl rfl ?_
   refine Ops.pv (pv_add rfl rfl (w64n (k := i + 1) (by omega) (by omega))) rfl ?_
   refine Oa1 rfl rfl ?_
   refine Ops.nil ?_
   refine Ends.goes ?_
   refine Goes.back (hK (i + 1, .slice x9 (i + 1) y9, Hn) ⟨by dsimp only; omega, hsn⟩ (by dsimp only; omega)) ⟨rfl, rfl, rfl, rfl, trivial⟩
  refine Turn.ef rfl rfl (ef_buildSlice1 (k := 2) rfl rfl rfl rfl rfl) ?_ ?_
  ·
   rintro _ _ ⟨b17, rfl, rfl⟩; infer_instance
  rintro _ _ ⟨b17, rfl, rfl⟩
  refine AnyH.one 1 (by kernel_rfl) ?_
  refine Turn.ef rfl rfl (ef_pv (pv_load rfl rfl rfl) rfl) ?_ ?_
  ·
   rintro _ _ ⟨rfl, rfl⟩; infer_instance
  rintro _ _ ⟨rfl, rfl⟩
  refine AnyH.one 16 (by kernel_rfl) ?_
  refine Turn.ef rfl rfl (ef_append (H := G7) (xs := [.int .i64 a0, .int .i64 a1]) rfl hsv rfl ⟨rfl, rfl, trivial⟩ rfl rfl rfl (by omega) (by omega) rfl rfl) ?_ ?_
  ·
   rintro _ _ ⟨vn9, Hn, hn9, rfl, rfl⟩; infer_instance
  rintro _ _ ⟨vn9, Hn, hn9, rfl, rfl⟩
  refine AnyH.app ?_
  have hsn : Slc 77 2 vn9 (i + 1) (cel (cE fsS) (D.s.take (i + 1))) Hn := by rw [cel_take1 he, cE, hae]; exact hn9
  obtain ⟨x9, y9, rfl⟩ := hsn.form
  refine Tk 17 rfl rfl (pv_fieldAddr0 rfl rfl) rfl ?_
  refine AnyH.one 18 (by kernel_rfl) ?_
  refine Turn.ef rfl rfl (ef_store1 rfl rfl (by first | rfl | assumption) (by first | rfl | assumption)) ?_ ?_
  ·
   rintro _ _ ⟨rfl, rfl⟩; infer_instance
  rintro _ _ ⟨rfl, rfl⟩
  refine AnyH.done (by kernel_rfl) ?_
  refine Ends.block_normal ?_
  refine Ends.seq ?_
  refine Wp.region ?_
  refine Om1 rfl rfl ?_
  refine Ops.pv (pv_add rfl rfl (w64n (k := i + 1) (by omega) (by omega))) rfl ?_
  refine Oa1 rfl rfl ?_
  refine Ops.nil ?_
  refine Ends.goes ?_
  refine Goes.back (hK (i + 1, .slice x9 (i + 1) y9, Hn) ⟨by dsimp only; omega, hsn⟩ (by dsimp only; omega)) ⟨rfl, rfl, rfl, rfl, trivial⟩
 obtain rfl : i = D.s.length := by omega
 rw [List.take_length] at hsv
 obtain ⟨p7, q7, rfl⟩ := hsv.form
 have hg7 := hsv
 clear hsv
 refine Wp.exit ?_
 refine Ends.then_exit ?_
 refine Ends.then_exit ?_
 refine Ends.block_hit ?_
 refine Ends.seq ?_
 refine Wr ?_
 refine Ops.pv (pv_loadK [_, _, _, _, _, _, _] rfl rfl rfl ⟨rfl, rfl, rfl, rfl, rfl, rfl, rfl, trivial⟩) rfl ?_
 refine Ops.ef rfl (ef_storeK rfl rfl rfl rfl) ?_
 rintro _ _ ⟨rfl, rfl⟩
 refine On ?_
 refine Wp.ret ?_
 exact Ends.ret (L' := G1 ++ (G2 ++ (G3 ++ (G4 ++ (G5 ++ (G6 ++ (G7 ++ G))))))) (res_one rfl (rv_cellK [_, _, _, _, _, _, _] rfl rfl rfl ⟨rfl, rfl, rfl, rfl, rfl, rfl, rfl, trivial⟩)) ⟨_, _, _, _, _, _, _, G1, G2, G3, G4, G5, G6, G7, ⟨hg1, hg2, hg3, hg4, hg5, hg6, hg7⟩, rfl, rfl⟩
end Go.Proofs.Ytkldjadpoknejaa
end
section
set_option linter.unusedVariables false
set_option linter.unusedSimpArgs false
set_option linter.unusedSectionVars false
namespace Go.Proofs.Ytkldjadpoknejaa
open Go.SL
abbrev St := Bool × List UInt8
abbrev rdB (rb : Nat) (st : St) : Nat × Obj := (rb, .cells [sV st.2, .bool st.1].toArray 99)
def lwV (w : Nat) (st : St) : Nat := if st.1 = true ∨ st.2.length < w then 0 else leV (st.2.take w)
def lwS (w : Nat) (st : St) : St := if st.1 = true ∨ st.2.length < w then (true, st.2) else (false, st.2.drop w)
theorem lwV_lt (w : Nat) (st : St) : lwV w st < 256 ^ w := by
 unfold lwV
 split
 ·
  exact Nat.pow_pos (by decide)
 rename_i h
 have := leV_lt (st.2.take w)
 rw [List.length_take, Nat.min_eq_left (by omega)] at this
 exact this
theorem lwV2 (st : St) : lwV 2 st < 2 ^ 63 := Nat.lt_trans (lwV_lt 2 st) (by decide)
theorem lwS_len (w : Nat) (st : St) : (lwS w st).2.length ≤ st.2.length := by
 unfold lwS
 split
 ·
  exact Nat.le_refl _
 dsimp only; rw [List.length_drop]; omega
theorem tr_in (x : Int) : TrR Try.prog 31 [.int .i64 x] ([]) (.bool (decide (x ≥ 0 ∧ x ≤ 65535))) := by
 refine Tr.enter Try.func31 rfl Try.ntmps31 rfl (fun W F => ?_)
 refine Wp.app ?_
 refine Wr ?_
 refine Oa1 rfl rfl ?_
 refine On ?_
 refine Wr ?_
 refine Om1 rfl rfl ?_
 refine Ops.pv (pv_geq rfl rfl) rfl ?_
 refine Om1 rfl rfl ?_
 refine Ops.pvc rfl rfl (fun hg => pv_move rfl) rfl ?_
 refine Ops.pvc rfl rfl (fun hg => Pv.setE (t := 6) rfl (cv_pos hg) (pv_leq rfl rfl)) rfl ?_
 refine Ops.pv (pv_pick_and rfl rfl) rfl ?_
 refine Oa1 rfl rfl ?_
 refine On ?_
 refine Wp.ret ?_
 exact Ends.ret (res1 rfl rfl) ⟨rfl, rfl⟩
theorem tr_low (v w : Nat) (hw : w ≤ 8) : TrR Try.prog 17 [.int .u64 v, .int .i64 w] ([]) (sV (leB w v)) := by
 refine Tr.enter Try.func17 rfl Try.ntmps17 rfl (fun W F => ?_)
 refine Wp.app ?_
 refine Wr ?_
 refine Oa1 rfl rfl ?_
 refine On ?_
 refine Wr ?_
 refine Oa1 rfl rfl ?_
 refine On ?_
 refine Wp.seq ?_
 refine Wr ?_
 refine Oa1 rfl rfl ?_
 refine On ?_
 refine Wp.block ?_
 refine Wp.loopK (σ := Nat × List UInt8) [(0, _), (1, _)] (fun s => [(5, sV s.2), (6, .int .i64 s.1)]) (fun s => F) (fun s => s.1 ≤ w ∧ s.2 = leB s.1 v) (fun s => w - s.1) (0, []) ⟨Nat.zero_le _, rfl⟩ ⟨rfl, rfl, trivial⟩ ⟨rfl, rfl, trivial⟩ (by intro w ho; (try dsimp only [List.nil_append, List.cons_append]); exact Drop.own ho) ?_
 rintro ⟨i, b⟩ KK ⟨hi, hb⟩ hK
 dsimp only [List.cons_append, List.nil_append] at hK ⊢
 dsimp only at hi hb ⊢
 refine Wp.seq ?_
 refine Wr ?_
 refine Om1 rfl rfl ?_
 refine Om1 rfl rfl ?_
 refine Ops.pv (pv_lss rfl rfl) rfl ?_
 refine On ?_
 refine Wp.cond_dect rfl (fun h1 => ?_) (fun h1 => ?_)
 ·
  refine Wp.skip ?_
  refine Ends.seq ?_
  refine Wp.seq ?_
  refine Wp.block ?_
  refine Wp.region ?_
  refine Om1 rfl rfl ?_
  refine Om1 rfl rfl ?_
  refine Om1 rfl rfl ?_
  refine Ops.pv (pv_mul rfl rfl (w64n (k := 8 * i) (by omega) (by omega))) rfl ?_
  refine Ops.pv (pv_shr rfl rfl (by omega) (shrB v i (by omega))) rfl ?_
  refine Ops.pv (pv_conv rfl (u8conv (v / 256 ^ i))) rfl ?_
  refine Ops.ef rfl (ef_buildSlice1 (k := 1) rfl rfl rfl rfl rfl) ?_
  rintro _ _ ⟨b1, rfl, rfl⟩
  refine Ops.pv (pv_str_conv1 (v := UInt8.ofNat (v / 256 ^ i)) rfl rfl) rfl ?_
  refine Ops.pv (pv_str_add rfl rfl (by rw [hb, leB_len]; simp only [List.length_singleton]; omega)) rfl ?_
  refine Oa1 rfl rfl ?_
  refine Ops.nil ?_
  refine Ends.block_normal ?_
  refine Ends.seq ?_
  refine Wp.region ?_
  refine Om1 rfl rfl ?_
  refine Ops.pv (pv_add rfl rfl (w64n (k := i + 1) (by omega) (by omega))) rfl ?_
  refine Oa1 rfl rfl ?_
  refine Ops.nil ?_
  refine Ends.goes ?_
  refine Goes.back (hK (i + 1, b ++ [UInt8.ofNat (v / 256 ^ i)]) ⟨by dsimp only; omega, by dsimp only; rw [leB_succ, hb]⟩ (by dsimp only; omega)) ⟨rfl, rfl, rfl, rfl, trivial⟩
 obtain rfl : i = w := by omega
 refine Wp.exit ?_
 refine Ends.then_exit ?_
 refine Ends.then_exit ?_
 refine Ends.block_hit ?_
 refine Ends.seq ?_
 refine Wr ?_
 refine Om1 rfl rfl ?_
 refine Oa1 rfl rfl ?_
 refine On ?_
 refine Wp.ret ?_
 rw [← hb]
 exact Ends.ret (res1 rfl rfl) ⟨rfl, rfl⟩
theorem tr_two (x : Int) : TrR Try.prog 16 [.int .i64 x] ([]) (sV (leB 2 (uI x))) := by
 refine Tr.enter Try.func16 rfl Try.ntmps16 rfl (fun W F => ?_)
 refine Wp.app ?_
 refine Wr ?_
 refine Oa1 rfl rfl ?_
 refine On ?_
 refine Wr ?_
 refine Om1 rfl rfl ?_
 refine Ops.pv (pv_conv rfl (uI_eq x)) rfl ?_
 refine Ops.ef rfl (ef_callr (tr_low (uI x) 2 (by decide)) rfl rfl) ?_
 rintro _ _ ⟨rfl, rfl⟩
 refine Oa1 rfl rfl ?_
 refine On ?_
 refine Wp.ret ?_
 exact Ends.ret (res1 rfl rfl) ⟨rfl, rfl⟩
set_option maxHeartbeats 2000000 in
theorem tr_rword (rb w : Nat) (bad : Bool) (str : List UInt8) (h1 : 1 ≤ w) (h8 : w ≤ 8) (hl : str.length ≤ 2 ^ 40) : Tr Try.prog 20 [.pointer (some ⟨rb, 0, none⟩), .int .i64 w] ([(rb, .cells [sV str, .bool bad].toArray 99)]) (fun u L' => u = .int .u64 (lwV w (bad, str)) ∧ L' = [rdB rb (lwS w (bad, str))]) := by
 refine Tr.enter Try.func20 rfl Try.ntmps20 rfl (fun W F => ?_)
 refine Wp.app ?_
 refine Wr ?_
 refine Oa1 rfl rfl ?_
 refine On ?_
 refine Wp.seq ?_
 refine Wr ?_
 refine Om1 rfl rfl ?_
 refine Ops.pv (pv_nilCheck rfl) rfl ?_
 refine Of1 rfl rfl rfl ?_
 refine Ol1 rfl rfl rfl rfl ?_
 refine Om1 rfl rfl ?_
 refine Ops.splitb (t := 11) rfl (fun h1 => ?_) (fun h1 => ?_)
 ·
  refine Os1 rfl rfl rfl rfl ?_
  refine Os1 rfl rfl rfl rfl ?_
  refine Os1 rfl rfl rfl rfl ?_
  refine Os1 rfl rfl rfl rfl ?_
  refine Os1 rfl rfl rfl rfl ?_
  refine Os1 rfl rfl rfl rfl ?_
  refine Os1 rfl rfl rfl rfl ?_
  refine Ops.pv (pv_pick_true rfl rfl) rfl ?_
  refine On ?_
  refine Wp.cond_true rfl ?_
  refine Wr ?_
  refine Om1 rfl rfl ?_
  refine Ops.pv (pv_nilCheck rfl) rfl ?_
  refine Of1 rfl rfl rfl ?_
  refine Ops.ef rfl (ef_store1 rfl rfl (by first | rfl | assumption) (by first | rfl | assumption)) ?_
  rintro _ _ ⟨rfl, rfl⟩
  refine On ?_
  refine Wr ?_
  refine Oa1 rfl rfl ?_
  refine On ?_
  refine Wp.ret ?_
  refine Ends.then_ret ?_
  have hc : bad = true ∨ str.length < w := by first | exact .inl (by assumption) | exact .inr (by omega)
  exact Ends.ret (L' := [rdB rb (true, str)]) (res1 rfl rfl) ⟨by unfold lwV; rw [if_pos hc]; rfl, by unfold lwS; rw [if_pos hc]⟩
 refine Ops.pvg ⟨_, _, rfl, rfl, rfl⟩ (pv_move rfl) rfl ?_
 refine Ops.pvg ⟨_, _, rfl, rfl, rfl⟩ (pv_nilCheck rfl) rfl ?_
 refine Ops.pvg ⟨_, _, rfl, rfl, rfl⟩ (pv_fieldAddr0 rfl rfl) rfl ?_
 refine Ops.pvg ⟨_, _, rfl, rfl, rfl⟩ (pv_load rfl rfl rfl) rfl ?_
 refine Ops.pvg ⟨_, _, rfl, rfl, rfl⟩ (pv_str_len (T := 9) rfl rfl) rfl ?_
 refine Ops.pvg ⟨_, _, rfl, rfl, rfl⟩ (pv_move rfl) rfl ?_
 refine Ops.pvg ⟨_, _, rfl, rfl, rfl⟩ (pv_lss rfl rfl) rfl ?_
 refine Ops.pv (pv_pick_false rfl rfl) rfl ?_
 refine On ?_
 refine Wp.cond_dect rfl (fun h2 => ?_) (fun h2 => ?_)
 ·
  refine Wr ?_
  refine Om1 rfl rfl ?_
  refine Ops.pv (pv_nilCheck rfl) rfl ?_
  refine Of1 rfl rfl rfl ?_
  refine Ops.ef rfl (ef_store1 rfl rfl (by first | rfl | assumption) (by first | rfl | assumption)) ?_
  rintro _ _ ⟨rfl, rfl⟩
  refine On ?_
  refine Wr ?_
  refine Oa1 rfl rfl ?_
  refine On ?_
  refine Wp.ret ?_
  refine Ends.then_ret ?_
  have hc : bad = true ∨ str.length < w := by first | exact .inl (by assumption) | exact .inr (by omega)
  exact Ends.ret (L' := [rdB rb (true, str)]) (res1 rfl rfl) ⟨by unfold lwV; rw [if_pos hc]; rfl, by unfold lwS; rw [if_pos hc]⟩
 refine Wp.skip ?_
 refine Ends.seq ?_
 refine Wr ?_
 refine Oa1 rfl rfl ?_
 refine On ?_
 refine Wp.seq ?_
 refine Wr ?_
 refine Om1 rfl rfl ?_
 refine Ops.pv (pv_sub rfl rfl (w64 (by omega) (by omega))) rfl ?_
 refine Oa1 rfl rfl ?_
 refine On ?_
 refine Wp.block ?_
 refine Wp.loopK (σ := Nat × Nat) [(0, _), (1, _)] (fun s => [(5, .int .u64 s.2), (6, .int .i64 ((s.1 : Int) - 1))]) (fun s => (rb, .cells [sV str, .bool bad].toArray 99) :: F) (fun s => s.1 ≤ w ∧ s.2 = leV ((str.take w).drop s.1)) (fun s => s.1) (w, 0) ⟨Nat.le_refl _, by rw [List.drop_eq_nil_of_le (by rw [List.length_take]; omega)]; rfl⟩ ⟨rfl, rfl, trivial⟩ ⟨rfl, rfl, trivial⟩ (by intro w ho; (try dsimp only [List.nil_append, List.cons_append]); exact Drop.own ho) ?_
 rintro ⟨j9, m⟩ KK ⟨hj9, hm⟩ hK
 dsimp only [List.cons_append, List.nil_append] at hK ⊢
 dsimp only at hj9 hm ⊢
 refine Wp.seq ?_
 refine Wr ?_
 refine Om1 rfl rfl ?_
 refine Ops.pv (pv_geq rfl rfl) rfl ?_
 refine On ?_
 refine Wp.cond_dect rfl (fun h3 => ?_) (fun h3 => ?_)
 ·
  obtain ⟨j, rfl⟩ : ∃ q, j9 = q + 1 := ⟨j9 - 1, by omega⟩
  have hj1 : ((j + 1 : Nat) : Int) - 1 = (j : Int) := by omega
  rw [hj1]
  obtain ⟨b, hb⟩ : ∃ b, str[j]? = some b := ⟨_, List.getElem?_eq_getElem (by omega)⟩
  have hb2 : (str.take w)[j]? = some b := by rw [List.getElem?_take_of_lt (by omega)]; exact hb
  have hd := leV_drop hb2
  have hlt := leV_lt ((str.take w).drop j)
  rw [List.length_drop, List.length_take, Nat.min_eq_left (by omega)] at hlt
  have hp := pow256 (i := w - j) (by omega)
  rw [← hm] at hd
  have hbt := b.toNat_lt
  refine Wp.skip ?_
  refine Ends.seq ?_
  refine Wp.seq ?_
  refine Wp.block ?_
  refine Wp.region ?_
  refine Om1 rfl rfl ?_
  refine Ops.pv (pv_mul rfl rfl (u64n (k := m * 256) (by omega) (by omega))) rfl ?_
  refine Om1 rfl rfl ?_
  refine Ops.pv (pv_nilCheck rfl) rfl ?_
  refine Of1 rfl rfl rfl ?_
  refine Ol1 rfl rfl rfl rfl ?_
  refine Om1 rfl rfl ?_
  refine Ops.pv (pv_str_index (i := j) rfl rfl hb) rfl ?_
  refine Ops.pv (pv_conv rfl (u64n (k := b.toNat) rfl (by omega))) rfl ?_
  refine Ops.pv (pv_add rfl rfl (u64n (k := m * 256 + b.toNat) (by omega) (by omega))) rfl ?_
  refine Oa1 rfl rfl ?_
  refine Ops.nil ?_
  refine Ends.block_normal ?_
  refine Ends.seq ?_
  refine Wp.region ?_
  refine Om1 rfl rfl ?_
  refine Ops.pv (pv_sub rfl rfl (w64 (by omega) (by omega))) rfl ?_
  refine Oa1 rfl rfl ?_
  refine Ops.nil ?_
  refine Ends.goes ?_
  refine Goes.back (hK (j, m * 256 + b.toNat) ⟨by dsimp only; omega, by dsimp only; rw [hd]⟩ (by dsimp only; omega)) ⟨rfl, rfl, rfl, rfl, trivial⟩
 obtain rfl : j9 = 0 := by omega
 refine Wp.exit ?_
 refine Ends.then_exit ?_
 refine Ends.then_exit ?_
 refine Ends.block_hit ?_
 refine Ends.seq ?_
 refine Wr ?_
 refine Om1 rfl rfl ?_
 refine Om1 rfl rfl ?_
 refine Ops.pv (pv_nilCheck rfl) rfl ?_
 refine Of1 rfl rfl rfl ?_
 refine Ol1 rfl rfl rfl rfl ?_
 refine Om1 rfl rfl ?_
 refine Ops.pv (pv_str_from (i := w) rfl rfl (by omega)) rfl ?_
 refine Ops.pv (pv_nilCheck rfl) rfl ?_
 refine Of1 rfl rfl rfl ?_
 refine Ops.ef rfl (ef_store1 rfl rfl (by first | rfl | assumption) (by first | rfl | assumption)) ?_
 rintro _ _ ⟨rfl, rfl⟩
 refine On ?_
 refine Wr ?_
 refine Om1 rfl rfl ?_
 refine Oa1 rfl rfl ?_
 refine On ?_
 refine Wp.ret ?_
 have hc : ¬ (bad = true ∨ str.length < w) := by (first | (simp_all; done) | (simp_all; omega))
 exact Ends.ret (L' := [(rb, .cells [sV (str.drop w), .bool bad].toArray 99)]) (res1 rfl rfl) ⟨by unfold lwV; rw [if_neg hc, hm]; rfl, by unfold lwS; rw [if_neg hc]; simp_all⟩
theorem tr_rtwo (rb : Nat) (bad : Bool) (str : List UInt8) (hl : str.length ≤ 2 ^ 40) : Tr Try.prog 19 [.pointer (some ⟨rb, 0, none⟩)] ([(rb, .cells [sV str, .bool bad].toArray 99)]) (fun u L' => u = .int .i64 (lwV 2 (bad, str)) ∧ L' = [rdB rb (lwS 2 (bad, str))]) := by
 refine Tr.enter Try.func19 rfl Try.ntmps19 rfl (fun W F => ?_)
 refine Wp.app ?_
 refine Wr ?_
 refine Oa1 rfl rfl ?_
 refine On ?_
 refine Wr ?_
 refine Om1 rfl rfl ?_
 refine Ops.ef rfl (ef_call (tr_rword rb 2 bad str (by decide) (by decide) hl) rfl rfl) ?_
 rintro _ _ ⟨_, _, ⟨rfl, rfl⟩, rfl, rfl⟩
 refine Ops.app ?_
 refine Ops.pv (pv_conv rfl (w64n (k := lwV 2 (bad, str)) rfl (lwV2 _))) rfl ?_
 refine Oa1 rfl rfl ?_
 refine On ?_
 refine Wp.ret ?_
 exact Ends.ret (res1 rfl rfl) ⟨rfl, rfl⟩
end Go.Proofs.Ytkldjadpoknejaa
end
section
set_option linter.unusedVariables false
set_option linter.unusedSimpArgs false
set_option linter.unusedSectionVars false
namespace Go.Proofs.Ytkldjadpoknejaa
open Go.SL
def allOk (fs : List Fld) (l : List (El fs)) : Prop := ∀ e, e ∈ l → okE fs e.val
theorem allOk_nil (fs : List Fld) : allOk fs [] := fun e h => by cases h
theorem allOk_take {fs : List Fld} {l : List (El fs)} {i : Nat} {e : El fs} (h : l[i]? = some e) : allOk fs (l.take (i + 1)) ↔ allOk fs (l.take i) ∧ okE fs e.val := by
 unfold allOk
 rw [List.take_add_one, h]
 constructor
 ·
  intro q
  exact ⟨fun x hx => q x (List.mem_append_left _ hx), q e (List.mem_append_right _ (by simp))⟩
 rintro ⟨q1, q2⟩ x hx
 rcases List.mem_append.1 hx with hx | hx
 ·
  exact q1 x hx
 simp only [Option.toList_some, List.mem_singleton] at hx; subst hx; exact q2
theorem leaf0 {fs : List Fld} {l : List (El fs)} {i : Nat} {e : El fs} {b : Bool} {R : Prop} (he : l[i]? = some e) (hb : b = true ↔ R ∧ allOk fs (l.take i)) (h0 : b = false) : (false = true ↔ R ∧ allOk fs (l.take (i + 1))) := by
 rw [allOk_take he]
 constructor
 ·
  intro h; cases h
 rintro ⟨h1, h2, h3⟩
 rw [hb.2 ⟨h1, h2⟩] at h0; cases h0
theorem leaf1 {fs : List Fld} {l : List (El fs)} {i : Nat} {e : El fs} {b X : Bool} {R : Prop} (he : l[i]? = some e) (hb : b = true ↔ R ∧ allOk fs (l.take i)) (h1 : b = true) (hX : X = true ↔ okE fs e.val) : (X = true ↔ R ∧ allOk fs (l.take (i + 1))) := by
 rw [allOk_take he, hX]
 have := hb.1 h1
 exact ⟨fun h => ⟨this.1, this.2, h⟩, fun h => h.2.2⟩
open Classical in
set_option maxHeartbeats 16000000 in
theorem tr_right (G : Hp) (D : Dd) (v1 v2 v3 v4 v5 v6 v7 : Value) (hs : DA G D v1 v2 v3 v4 v5 v6 v7) (hlo : D.o.length ≤ 2 ^ 20) (hlp : D.p.length ≤ 2 ^ 20) (hlm : D.m.length ≤ 2 ^ 20) (hlf : D.f.length ≤ 2 ^ 20) (hlt : D.t.length ≤ 2 ^ 20) (hlw : D.w.length ≤ 2 ^ 20) (hls : D.s.length ≤ 2 ^ 20) : TrR Try.prog 15 [.agg #[v1, v2, v3, v4, v5, v6, v7]] (G) (.bool (decide (okD D))) := by
 obtain ⟨s1, c1, rfl⟩ := hs.o.form
 obtain ⟨s2, c2, rfl⟩ := hs.p.form
 obtain ⟨s3, c3, rfl⟩ := hs.m.form
 obtain ⟨s4, c4, rfl⟩ := hs.f.form
 obtain ⟨s5, c5, rfl⟩ := hs.t.form
 obtain ⟨s6, c6, rfl⟩ := hs.w.form
 obtain ⟨s7, c7, rfl⟩ := hs.s.form
 refine Tr.enter Try.func15 rfl Try.ntmps15 rfl (fun W F => ?_)
 refine Wp.app ?_
 refine Wr ?_
 refine Ops.ef rfl (ef_boxK rfl rfl) ?_
 rintro _ _ ⟨b1, rfl, rfl⟩
 refine Oa1 rfl rfl ?_
 refine On ?_
 refine Wp.seq ?_
 refine Wr ?_
 refine Of1 rfl rfl rfl ?_
 refine Ol1 rfl rfl rfl rfl ?_
 refine Ops.pv (pv_len_slice (T := 22) rfl rfl) rfl ?_
 refine Ops.pv (pv_gtr rfl rfl) rfl ?_
 refine Om1 rfl rfl ?_
 refine Ops.pvcn rfl rfl (fun hg => pv_fieldAddr0 rfl rfl) rfl ?_
 refine Ops.pvcn rfl rfl (fun hg => Pv.setE (t := 21) rfl (cv_pos hg) (pv_load rfl rfl rfl)) rfl ?_
 refine Ops.pvcn rfl rfl (fun hg => Pv.setE (t := 21) rfl (cv_pos hg) (Pv.setE (t := 22) rfl (cv_pos hg) (pv_len_slice (T := 23) rfl rfl))) rfl ?_
 refine Ops.pvcn rfl rfl (fun hg => Pv.setE (t := 21) rfl (cv_pos hg) (Pv.setE (t := 22) rfl (cv_pos hg) (Pv.setE (t := 23) rfl (cv_pos hg) (pv_gtr rfl rfl)))) rfl ?_
 refine Ops.pv (pv_pick_or rfl rfl) rfl ?_
 refine Om1 rfl rfl ?_
 refine Ops.pvcn rfl rfl (fun hg => pv_fieldAddr0 rfl rfl) rfl ?_
 refine Ops.pvcn rfl rfl (fun hg => Pv.setE (t := 27) rfl (cv_pos hg) (pv_load rfl rfl rfl)) rfl ?_
 refine Ops.pvcn rfl rfl (fun hg => Pv.setE (t := 27) rfl (cv_pos hg) (Pv.setE (t := 28) rfl (cv_pos hg) (pv_len_slice (T := 24) rfl rfl))) rfl ?_
 refine Ops.pvcn rfl rfl (fun hg => Pv.setE (t := 27) rfl (cv_pos hg) (Pv.setE (t := 28) rfl (cv_pos hg) (Pv.setE (t := 29) rfl (cv_pos hg) (pv_gtr rfl rfl)))) rfl ?_
 refine Ops.pv (pv_pick_or rfl rfl) rfl ?_
 refine Om1 rfl rfl ?_
 refine Ops.pvcn rfl rfl (fun hg => pv_fieldAddr0 rfl rfl) rfl ?_
 refine Ops.pvcn rfl rfl (fun hg => Pv.setE (t := 33) rfl (cv_pos hg) (pv_load rfl rfl rfl)) rfl ?_
 refine Ops.pvcn rfl rfl (fun hg => Pv.setE (t := 33) rfl (cv_pos hg) (Pv.setE (t := 34) rfl (cv_pos hg) (pv_len_slice (T := 25) rfl rfl))) rfl ?_
 refine Ops.pvcn rfl rfl (fun hg => Pv.setE (t := 33) rfl (cv_pos hg) (Pv.setE (t := 34) rfl (cv_pos hg) (Pv.setE (t := 35) rfl (cv_pos hg) (pv_gtr rfl rfl)))) rfl ?_
 refine Ops.pv (pv_pick_or rfl rfl) rfl ?_
 refine Om1 rfl rfl ?_
 refine Ops.pvcn rfl rfl (fun hg => pv_fieldAddr0 rfl rfl) rfl ?_
 refine Ops.pvcn rfl rfl (fun hg => Pv.setE (t := 39) rfl (cv_pos hg) (pv_load rfl rfl rfl)) rfl ?_
 refine Ops.pvcn rfl rfl (fun hg => Pv.setE (t := 39) rfl (cv_pos hg) (Pv.setE (t := 40) rfl (cv_pos hg) (pv_len_slice (T := 26) rfl rfl))) rfl ?_
 refine Ops.pvcn rfl rfl (fun hg => Pv.setE (t := 39) rfl (cv_pos hg) (Pv.setE (t := 40) rfl (cv_pos hg) (Pv.setE (t := 41) rfl (cv_pos hg) (pv_gtr rfl rfl)))) rfl ?_
 refine Ops.pv (pv_pick_or rfl rfl) rfl ?_
 refine Om1 rfl rfl ?_
 refine Ops.pvcn rfl rfl (fun hg => pv_fieldAddr0 rfl rfl) rfl ?_
 refine Ops.pvcn rfl rfl (fun hg => Pv.setE (t := 45) rfl (cv_pos hg) (pv_load rfl rfl rfl)) rfl ?_
 refine Ops.pvcn rfl rfl (fun hg => Pv.setE (t := 45) rfl (cv_pos hg) (Pv.setE (t := 46) rfl (cv_pos hg) (pv_len_slice (T := 27) rfl rfl))) rfl ?_
 refine Ops.pvcn rfl rfl (fun hg => Pv.setE (t := 45) rfl (cv_pos hg) (Pv.setE (t := 46) rfl (cv_pos hg) (Pv.setE (t := 47) rfl (cv_pos hg) (pv_gtr rfl rfl)))) rfl ?_
 refine Ops.pv (pv_pick_or rfl rfl) rfl ?_
 refine Om1 rfl rfl ?_
 refine Ops.pvcn rfl rfl (fun hg => pv_fieldAddr0 rfl rfl) rfl ?_
 refine Ops.pvcn rfl rfl (fun hg => Pv.setE (t := 51) rfl (cv_pos hg) (pv_load rfl rfl rfl)) rfl ?_
 refine Ops.pvcn rfl rfl (fun hg => Pv.setE (t := 51) rfl (cv_pos hg) (Pv.setE (t := 52) rfl (cv_pos hg) (pv_len_slice (T := 28) rfl rfl))) rfl ?_
 refine Ops.pvcn rfl rfl (fun hg => Pv.setE (t := 51) rfl (cv_pos hg) (Pv.setE (t := 52) rfl (cv_pos hg) (Pv.setE (t := 53) rfl (cv_pos hg) (pv_gtr rfl rfl)))) rfl ?_
 refine Ops.pv (pv_pick_or rfl rfl) rfl ?_
 refine On ?_
 refine Wp.cond_dect rfl (fun h1 => ?_) (fun h1 => ?_)
 ·
  refine Wr ?_
  refine Oa1 rfl rfl ?_
  refine On ?_
  refine Wp.ret ?_
  refine Ends.then_ret ?_
  have hno : ¬ okD D := by
   rintro ⟨⟨q1, _⟩, ⟨q2, _⟩, ⟨q3, _⟩, ⟨q4, _⟩, ⟨q5, _⟩, ⟨q6, _⟩, q7, _⟩
   omega
  rw [decide_eq_false hno]
  exact Ends.ret (res1 rfl rfl) ⟨rfl, rfl⟩
 refine Wp.skip ?_
 refine Ends.seq ?_
 refine Wr ?_
 refine Oa1 rfl rfl ?_
 refine On ?_
 refine Wp.seq ?_
 refine Wr ?_
 refine Oa1 rfl rfl ?_
 refine On ?_
 refine Wp.block ?_
 refine Wp.loopK (σ := Nat × Bool) [(1, _)] (fun s => [(3, .bool s.2), (4, .int .i64 s.1)]) (fun s => (b1, .cells [.slice s1 D.o.length c1, .slice s2 D.p.length c2, .slice s3 D.m.length c3, .slice s4 D.f.length c4, .slice s5 D.t.length c5, .slice s6 D.w.length c6, .slice s7 D.s.length c7].toArray 30) :: (G ++ F)) (fun s => s.1 ≤ D.o.length ∧ (s.2 = true ↔ (True) ∧ allOk fsO (D.o.take s.1))) (fun s => D.o.length - s.1) (0, true) ⟨Nat.zero_le _, by simp [allOk_nil]⟩ ⟨rfl, trivial⟩ ⟨rfl, rfl, trivial⟩ (by intro w ho; (try dsimp only [List.nil_append, List.cons_append]); exact Drop.own ho) ?_
 rintro ⟨i, z1⟩ KK ⟨hi, hz1⟩ hK
 dsimp only [List.cons_append, List.nil_append] at hK ⊢
 dsimp only at hi hz1 ⊢
 refine Wp.seq ?_
 refine Wr ?_
 refine Om1 rfl rfl ?_
 refine Of1 rfl rfl rfl ?_
 refine Ol1 rfl rfl rfl rfl ?_
 refine Ops.pv (pv_len_slice (T := 22) rfl rfl) rfl ?_
 refine Ops.pv (pv_lss rfl rfl) rfl ?_
 refine On ?_
 refine Wp.cond_dect rfl (fun h2 => ?_) (fun h2 => ?_)
 ·
  obtain ⟨e, he⟩ : ∃ e, D.o[i]? = some e := ⟨_, List.getElem?_eq_getElem (by omega)⟩
  obtain ⟨eb, eo, cc, TT, fz, cap, hva, hbm, hx⟩ := da_el hs.o he
  cases hva
  have hbg : Blk G eb (.cells cc.toArray TT fz) := ⟨hbm⟩
  obtain ⟨a0, a1, a2, hae⟩ := El.three rfl e
  rw [cE, hae] at hx
  refine Wp.skip ?_
  refine Ends.seq ?_
  refine Wp.seq ?_
  refine Wp.block ?_
  refine Wr ?_
  refine Of1 rfl rfl rfl ?_
  refine Ol1 rfl rfl rfl rfl ?_
  refine Om1 rfl rfl ?_
  refine Ops.pv (pv_indexAddr (i := i) rfl rfl rfl (by omega)) rfl ?_
  refine Ops.pv (pv_loadK [.int .i64 a0, .int .i64 a1, .int .i64 a2] rfl rfl rfl hx.reads) rfl ?_
  refine Ops.ef rfl (ef_allocK tyZ53 rfl) ?_
  rintro _ _ ⟨b2, rfl, rfl⟩
  refine Ops.ef rfl (ef_storeK rfl rfl rfl rfl) ?_
  rintro _ _ ⟨rfl, rfl⟩
  refine On ?_
  refine Wp.region ?_
  refine Om1 rfl rfl ?_
  refine Om1 rfl rfl ?_
  refine Ops.splitb (t := 69) rfl (fun h3 => ?_) (fun h3 => ?_)
  ·
   refine Ops.pvg ⟨_, _, rfl, rfl, rfl⟩ (pv_fieldAddr0 rfl rfl) rfl ?_
   refine Ops.pvg ⟨_, _, rfl, rfl, rfl⟩ (pv_load rfl rfl rfl) rfl ?_
   refine Ops.efg ⟨_, _, rfl, rfl, rfl⟩ (ef_callr (tr_in _) rfl rfl) ?_
   rintro _ _ ⟨rfl, rfl⟩
   refine Ops.pv (pv_pick_true rfl rfl) rfl ?_
   refine Om1 rfl rfl ?_
   refine Ops.split (t := 74) rfl (fun h4 => ?_) (fun h4 => ?_)
   ·
    refine Ops.pvg ⟨_, _, rfl, rfl, rfl⟩ (pv_fieldAddr0 rfl rfl) rfl ?_
    refine Ops.pvg ⟨_, _, rfl, rfl, rfl⟩ (pv_load rfl rfl rfl) rfl ?_
    refine Ops.efg ⟨_, _, rfl, rfl, rfl⟩ (ef_callr (tr_in _) rfl rfl) ?_
    rintro _ _ ⟨rfl, rfl⟩
    refine Ops.pv (pv_pick_true rfl rfl) rfl ?_
    refine Om1 rfl rfl ?_
    refine Ops.split (t := 79) rfl (fun h5 => ?_) (fun h5 => ?_)
    ·
     refine Ops.pvg ⟨_, _, rfl, rfl, rfl⟩ (pv_fieldAddr0 rfl rfl) rfl ?_
     refine Ops.pvg ⟨_, _, rfl, rfl, rfl⟩ (pv_load rfl rfl rfl) rfl ?_
     refine Ops.pvg ⟨_, _, rfl, rfl, rfl⟩ (pv_geq rfl rfl) rfl ?_
     refine Ops.pv (pv_pick_true rfl rfl) rfl ?_
     refine Om1 rfl rfl ?_
     refine Ops.pvc rfl rfl (fun hg => pv_fieldAddr0 rfl rfl) rfl ?_
     refine Ops.pvc rfl rfl (fun hg => Pv.setE (t := 85) rfl (cv_pos hg) (pv_load rfl rfl rfl)) rfl ?_
     refine Ops.pvc rfl rfl (fun hg => Pv.setE (t := 85) rfl (cv_pos hg) (Pv.setE (t := 86) rfl (cv_pos hg) (pv_leq rfl rfl))) rfl ?_
     refine Ops.pv (pv_pick_and rfl rfl) rfl ?_
     refine Oa1 rfl rfl ?_
     refine Ops.nil ?_
     refine Ends.block_normal ?_
     refine Ends.seq ?_
     refine Wp.region ?_
     refine Om1 rfl rfl ?_
     refine Ops.pv (pv_add rfl rfl (w64n (k := i + 1) (by omega) (by omega))) rfl ?_
     refine Oa1 rfl rfl ?_
     refine Ops.nil ?_
     refine Ends.goes ?_
     refine Goes.back (hK (i + 1, decide (a2 ≥ 0 ∧ a2 ≤ 7)) ⟨by dsimp only; omega, by first | exact leaf0 he hz1 (by assumption) | exact leaf1 he hz1 (by assumption) (by rw [hae]; simp only [fsO, okE, Fld.ok, and_true, true_and, decide_eq_true_eq, Bool.false_eq_true, false_iff]; omega)⟩ (by dsimp only; omega)) ⟨rfl, rfl, rfl, trivial⟩
    refine Os1 rfl rfl rfl rfl ?_
    refine Os1 rfl rfl rfl rfl ?_
    refine Os1 rfl rfl rfl rfl ?_
    refine Ops.pv (pv_pick_false rfl rfl) rfl ?_
    refine Om1 rfl rfl ?_
    refine Os1 rfl rfl rfl rfl ?_
    refine Os1 rfl rfl rfl rfl ?_
    refine Os1 rfl rfl rfl rfl ?_
    refine Ops.pv (pv_pick_false rfl rfl) rfl ?_
    refine Oa1 rfl rfl ?_
    refine Ops.nil ?_
    refine Ends.block_normal ?_
    refine Ends.seq ?_
    refine Wp.region ?_
    refine Om1 rfl rfl ?_
    refine Ops.pv (pv_add rfl rfl (w64n (k := i + 1) (by omega) (by omega))) rfl ?_
    refine Oa1 rfl rfl ?_
    refine Ops.nil ?_
    refine Ends.goes ?_
    refine Goes.back (hK (i + 1, false) ⟨by dsimp only; omega, by first | exact leaf0 he hz1 (by assumption) | exact leaf1 he hz1 (by assumption) (by rw [hae]; simp only [fsO, okE, Fld.ok, and_true, true_and, decide_eq_true_eq, Bool.false_eq_true, false_iff]; omega)⟩ (by dsimp only; omega)) ⟨rfl, rfl, rfl, trivial⟩
   refine Os1 rfl rfl rfl rfl ?_
   refine Os1 rfl rfl rfl rfl ?_
   refine Os1 rfl rfl rfl rfl ?_
   refine Ops.pv (pv_pick_false rfl rfl) rfl ?_
   refine Om1 rfl rfl ?_
   refine Os1 rfl rfl rfl rfl ?_
   refine Os1 rfl rfl rfl rfl ?_
   refine Os1 rfl rfl rfl rfl ?_
   refine Ops.pv (pv_pick_false rfl rfl) rfl ?_
   refine Om1 rfl rfl ?_
   refine Os1 rfl rfl rfl rfl ?_
   refine Os1 rfl rfl rfl rfl ?_
   refine Os1 rfl rfl rfl rfl ?_
   refine Ops.pv (pv_pick_false rfl rfl) rfl ?_
   refine Oa1 rfl rfl ?_
   refine Ops.nil ?_
   refine Ends.block_normal ?_
   refine Ends.seq ?_
   refine Wp.region ?_
   refine Om1 rfl rfl ?_
   refine Ops.pv (pv_add rfl rfl (w64n (k := i + 1) (by omega) (by omega))) rfl ?_
   refine Oa1 rfl rfl ?_
   refine Ops.nil ?_
   refine Ends.goes ?_
   refine Goes.back (hK (i + 1, false) ⟨by dsimp only; omega, by first | exact leaf0 he hz1 (by assumption) | exact leaf1 he hz1 (by assumption) (by rw [hae]; simp only [fsO, okE, Fld.ok, and_true, true_and, decide_eq_true_eq, Bool.false_eq_true, false_iff]; omega)⟩ (by dsimp only; omega)) ⟨rfl, rfl, rfl, trivial⟩
  refine Os1 rfl rfl rfl rfl ?_
  refine Os1 rfl rfl rfl rfl ?_
  refine Os1 rfl rfl rfl rfl ?_
  refine Ops.pv (pv_pick_false rfl rfl) rfl ?_
  refine Om1 rfl rfl ?_
  refine Os1 rfl rfl rfl rfl ?_
  refine Os1 rfl rfl rfl rfl ?_
  refine Os1 rfl rfl rfl rfl ?_
  refine Ops.pv (pv_pick_false rfl rfl) rfl ?_
  refine Om1 rfl rfl ?_
  refine Os1 rfl rfl rfl rfl ?_
  refine Os1 rfl rfl rfl rfl ?_
  refine Os1 rfl rfl rfl rfl ?_
  refine Ops.pv (pv_pick_false rfl rfl) rfl ?_
  refine Om1 rfl rfl ?_
  refine Os1 rfl rfl rfl rfl ?_
  refine Os1 rfl rfl rfl rfl ?_
  refine Os1 rfl rfl rfl rfl ?_
  refine Ops.pv (pv_pick_false rfl rfl) rfl ?_
  refine Oa1 rfl rfl ?_
  refine Ops.nil ?_
  refine Ends.block_normal ?_
  refine Ends.seq ?_
  refine Wp.region ?_
  refine Om1 rfl rfl ?_
  refine Ops.pv (pv_add rfl rfl (w64n (k := i + 1) (by omega) (by omega))) rfl ?_
  refine Oa1 rfl rfl ?_
  refine Ops.nil ?_
  refine Ends.goes ?_
  refine Goes.back (hK (i + 1, false) ⟨by dsimp only; omega, by first | exact leaf0 he hz1 (by assumption) | exact leaf1 he hz1 (by assumption) (by rw [hae]; simp only [fsO, okE, Fld.ok, and_true, true_and, decide_eq_true_eq, Bool.false_eq_true, false_iff]; omega)⟩ (by dsimp only; omega)) ⟨rfl, rfl, rfl, trivial⟩
 obtain rfl : i = D.o.length := by omega
 rw [List.take_length] at hz1
 refine Wp.exit ?_
 refine Ends.then_exit ?_
 refine Ends.then_exit ?_
 refine Ends.block_hit ?_
 refine Ends.seq ?_
 refine Wp.seq ?_
 refine Wr ?_
 refine Oa1 rfl rfl ?_
 refine On ?_
 refine Wp.block ?_
 refine Wp.loopK (σ := Nat × Bool) [(1, _)] (fun s => [(3, .bool s.2), (6, .int .i64 s.1)]) (fun s => (b1, .cells [.slice s1 D.o.length c1, .slice s2 D.p.length c2, .slice s3 D.m.length c3, .slice s4 D.f.length c4, .slice s5 D.t.length c5, .slice s6 D.w.length c6, .slice s7 D.s.length c7].toArray 30) :: (G ++ F)) (fun s => s.1 ≤ D.p.length ∧ (s.2 = true ↔ ((True) ∧ allOk fsO D.o) ∧ allOk fsP (D.p.take s.1))) (fun s => D.p.length - s.1) (0, z1) ⟨Nat.zero_le _, by rw [hz1]; simp [allOk_nil]⟩ ⟨rfl, trivial⟩ ⟨rfl, rfl, trivial⟩ (by intro w ho; (try dsimp only [List.nil_append, List.cons_append]); exact Drop.own ho) ?_
 rintro ⟨i, z2⟩ KK ⟨hi, hz2⟩ hK
 dsimp only [List.cons_append, List.nil_append] at hK ⊢
 dsimp only at hi hz2 ⊢
 refine Wp.seq ?_
 refine Wr ?_
 refine Om1 rfl rfl ?_
 refine Of1 rfl rfl rfl ?_
 refine Ol1 rfl rfl rfl rfl ?_
 refine Ops.pv (pv_len_slice (T := 23) rfl rfl) rfl ?_
 refine Ops.pv (pv_lss rfl rfl) rfl ?_
 refine On ?_
 refine Wp.cond_dect rfl (fun h6 => ?_) (fun h6 => ?_)
 ·
  obtain ⟨e, he⟩ : ∃ e, D.p[i]? = some e := ⟨_, List.getElem?_eq_getElem (by omega)⟩
  obtain ⟨eb, eo, cc, TT, fz, cap, hva, hbm, hx⟩ := da_el hs.p he
  cases hva
  have hbg : Blk G eb (.cells cc.toArray TT fz) := ⟨hbm⟩
  obtain ⟨a0, a1, a2, a3, a4, a5, a6, a7, hae⟩ := El.eight rfl e
  rw [cE, hae] at hx
  refine Wp.skip ?_
  refine Ends.seq ?_
  refine Wp.seq ?_
  refine Wp.block ?_
  refine Wr ?_
  refine Of1 rfl rfl rfl ?_
  refine Ol1 rfl rfl rfl rfl ?_
  refine Om1 rfl rfl ?_
  refine Ops.pv (pv_indexAddr (i := i) rfl rfl rfl (by omega)) rfl ?_
  refine Ops.pv (pv_loadK [.int .i64 a0, .int .i64 a1, .int .i64 a2, .int .i64 a3, .int .i64 a4, .int .u64 a5, .int .u64 a6, .int .i64 a7] rfl rfl rfl hx.reads) rfl ?_
  refine Ops.ef rfl (ef_allocK tyZ61 rfl) ?_
  rintro _ _ ⟨b3, rfl, rfl⟩
  refine Ops.ef rfl (ef_storeK rfl rfl rfl rfl) ?_
  rintro _ _ ⟨rfl, rfl⟩
  refine On ?_
  refine Wp.region ?_
  refine Om1 rfl rfl ?_
  refine Om1 rfl rfl ?_
  refine Ops.splitb (t := 102) rfl (fun h7 => ?_) (fun h7 => ?_)
  ·
   refine Ops.pvg ⟨_, _, rfl, rfl, rfl⟩ (pv_fieldAddr0 rfl rfl) rfl ?_
   refine Ops.pvg ⟨_, _, rfl, rfl, rfl⟩ (pv_fieldAddr0 rfl rfl) rfl ?_
   refine Ops.pvg ⟨_, _, rfl, rfl, rfl⟩ (pv_load rfl rfl rfl) rfl ?_
   refine Ops.efg ⟨_, _, rfl, rfl, rfl⟩ (ef_callr (tr_in _) rfl rfl) ?_
   rintro _ _ ⟨rfl, rfl⟩
   refine Ops.pv (pv_pick_true rfl rfl) rfl ?_
   refine Om1 rfl rfl ?_
   refine Ops.split (t := 108) rfl (fun h8 => ?_) (fun h8 => ?_)
   ·
    refine Ops.pvg ⟨_, _, rfl, rfl, rfl⟩ (pv_fieldAddr0 rfl rfl) rfl ?_
    refine Ops.pvg ⟨_, _, rfl, rfl, rfl⟩ (pv_fieldAddr0 rfl rfl) rfl ?_
    refine Ops.pvg ⟨_, _, rfl, rfl, rfl⟩ (pv_load rfl rfl rfl) rfl ?_
    refine Ops.efg ⟨_, _, rfl, rfl, rfl⟩ (ef_callr (tr_in _) rfl rfl) ?_
    rintro _ _ ⟨rfl, rfl⟩
    refine Ops.pv (pv_pick_true rfl rfl) rfl ?_
    refine Om1 rfl rfl ?_
    refine Ops.split (t := 114) rfl (fun h9 => ?_) (fun h9 => ?_)
    ·
     refine Ops.pvg ⟨_, _, rfl, rfl, rfl⟩ (pv_fieldAddr0 rfl rfl) rfl ?_
     refine Ops.pvg ⟨_, _, rfl, rfl, rfl⟩ (pv_fieldAddr rfl rfl) rfl ?_
     refine Ops.pvg ⟨_, _, rfl, rfl, rfl⟩ (pv_load rfl rfl rfl) rfl ?_
     refine Ops.efg ⟨_, _, rfl, rfl, rfl⟩ (ef_callr (tr_in _) rfl rfl) ?_
     rintro _ _ ⟨rfl, rfl⟩
     refine Ops.pv (pv_pick_true rfl rfl) rfl ?_
     refine Om1 rfl rfl ?_
     refine Ops.split (t := 120) rfl (fun h10 => ?_) (fun h10 => ?_)
     ·
      refine Ops.pvg ⟨_, _, rfl, rfl, rfl⟩ (pv_fieldAddr0 rfl rfl) rfl ?_
      refine Ops.pvg ⟨_, _, rfl, rfl, rfl⟩ (pv_fieldAddr rfl rfl) rfl ?_
      refine Ops.pvg ⟨_, _, rfl, rfl, rfl⟩ (pv_load rfl rfl rfl) rfl ?_
      refine Ops.efg ⟨_, _, rfl, rfl, rfl⟩ (ef_callr (tr_in _) rfl rfl) ?_
      rintro _ _ ⟨rfl, rfl⟩
      refine Ops.pv (pv_pick_true rfl rfl) rfl ?_
      refine Om1 rfl rfl ?_
      refine Ops.split (t := 126) rfl (fun h11 => ?_) (fun h11 => ?_)
      ·
       refine Ops.pvg ⟨_, _, rfl, rfl, rfl⟩ (pv_fieldAddr0 rfl rfl) rfl ?_
       refine Ops.pvg ⟨_, _, rfl, rfl, rfl⟩ (pv_fieldAddr rfl rfl) rfl ?_
       refine Ops.pvg ⟨_, _, rfl, rfl, rfl⟩ (pv_load rfl rfl rfl) rfl ?_
       refine Ops.efg ⟨_, _, rfl, rfl, rfl⟩ (ef_callr (tr_in _) rfl rfl) ?_
       rintro _ _ ⟨rfl, rfl⟩
       refine Ops.pv (pv_pick_true rfl rfl) rfl ?_
       refine Om1 rfl rfl ?_
       refine Ops.split (t := 132) rfl (fun h12 => ?_) (fun h12 => ?_)
       ·
        refine Ops.pvg ⟨_, _, rfl, rfl, rfl⟩ (pv_fieldAddr0 rfl rfl) rfl ?_
        refine Ops.pvg ⟨_, _, rfl, rfl, rfl⟩ (pv_fieldAddr rfl rfl) rfl ?_
        refine Ops.pvg ⟨_, _, rfl, rfl, rfl⟩ (pv_load rfl rfl rfl) rfl ?_
        refine Ops.pvg ⟨_, _, rfl, rfl, rfl⟩ (pv_lss rfl rfl) rfl ?_
        refine Ops.pv (pv_pick_true rfl rfl) rfl ?_
        refine Om1 rfl rfl ?_
        refine Ops.pvc rfl rfl (fun hg => pv_fieldAddr0 rfl rfl) rfl ?_
        refine Ops.pvc rfl rfl (fun hg => Pv.setE (t := 139) rfl (cv_pos hg) (pv_fieldAddr rfl rfl)) rfl ?_
        refine Ops.pvc rfl rfl (fun hg => Pv.setE (t := 139) rfl (cv_pos hg) (Pv.setE (t := 140) rfl (cv_pos hg) (pv_load rfl rfl rfl))) rfl ?_
        refine Ops.pvc rfl rfl (fun hg => Pv.setE (t := 139) rfl (cv_pos hg) (Pv.setE (t := 140) rfl (cv_pos hg) (Pv.setE (t := 141) rfl (cv_pos hg) (pv_lss rfl rfl)))) rfl ?_
        refine Ops.pv (pv_pick_and rfl rfl) rfl ?_
        refine Om1 rfl rfl ?_
        refine Ops.split (t := 144) rfl (fun h13 => ?_) (fun h13 => ?_)
        ·
         refine Ops.pvg ⟨_, _, rfl, rfl, rfl⟩ (pv_fieldAddr0 rfl rfl) rfl ?_
         refine Ops.pvg ⟨_, _, rfl, rfl, rfl⟩ (pv_fieldAddr rfl rfl) rfl ?_
         refine Ops.pvg ⟨_, _, rfl, rfl, rfl⟩ (pv_load rfl rfl rfl) rfl ?_
         refine Ops.efg ⟨_, _, rfl, rfl, rfl⟩ (ef_callr (tr_in _) rfl rfl) ?_
         rintro _ _ ⟨rfl, rfl⟩
         refine Ops.pv (pv_pick_true rfl rfl) rfl ?_
         refine Oa1 rfl rfl ?_
         refine Ops.nil ?_
         refine Ends.block_normal ?_
         refine Ends.seq ?_
         refine Wp.region ?_
         refine Om1 rfl rfl ?_
         refine Ops.pv (pv_add rfl rfl (w64n (k := i + 1) (by omega) (by omega))) rfl ?_
         refine Oa1 rfl rfl ?_
         refine Ops.nil ?_
         refine Ends.goes ?_
         refine Goes.back (hK (i + 1, decide (a7 ≥ 0 ∧ a7 ≤ 65535)) ⟨by dsimp only; omega, by first | exact leaf0 he hz2 (by assumption) | exact leaf1 he hz2 (by assumption) (by rw [hae]; simp only [fsP, okE, Fld.ok, and_true, true_and, decide_eq_true_eq, Bool.false_eq_true, false_iff]; omega)⟩ (by dsimp only; omega)) ⟨rfl, rfl, rfl, trivial⟩
        refine Os1 rfl rfl rfl rfl ?_
        refine Os1 rfl rfl rfl rfl ?_
        refine Os1 rfl rfl rfl rfl ?_
        refine Os1 rfl rfl rfl rfl ?_
        refine Ops.pv (pv_pick_false rfl rfl) rfl ?_
        refine Oa1 rfl rfl ?_
        refine Ops.nil ?_
        refine Ends.block_normal ?_
        refine Ends.seq ?_
        refine Wp.region ?_
        refine Om1 rfl rfl ?_
        refine Ops.pv (pv_add rfl rfl (w64n (k := i + 1) (by omega) (by omega))) rfl ?_
        refine Oa1 rfl rfl ?_
        refine Ops.nil ?_
        refine Ends.goes ?_
        refine Goes.back (hK (i + 1, false) ⟨by dsimp only; omega, by first | exact leaf0 he hz2 (by assumption) | exact leaf1 he hz2 (by assumption) (by rw [hae]; simp only [fsP, okE, Fld.ok, and_true, true_and, decide_eq_true_eq, Bool.false_eq_true, false_iff]; omega)⟩ (by dsimp only; omega)) ⟨rfl, rfl, rfl, trivial⟩
       refine Os1 rfl rfl rfl rfl ?_
       refine Os1 rfl rfl rfl rfl ?_
       refine Os1 rfl rfl rfl rfl ?_
       refine Os1 rfl rfl rfl rfl ?_
       refine Ops.pv (pv_pick_false rfl rfl) rfl ?_
       refine Om1 rfl rfl ?_
       refine Os1 rfl rfl rfl rfl ?_
       refine Os1 rfl rfl rfl rfl ?_
       refine Os1 rfl rfl rfl rfl ?_
       refine Os1 rfl rfl rfl rfl ?_
       refine Ops.pv (pv_pick_false rfl rfl) rfl ?_
       refine Om1 rfl rfl ?_
       refine Os1 rfl rfl rfl rfl ?_
       refine Os1 rfl rfl rfl rfl ?_
       refine Os1 rfl rfl rfl rfl ?_
       refine Os1 rfl rfl rfl rfl ?_
       refine Ops.pv (pv_pick_false rfl rfl) rfl ?_
       refine Oa1 rfl rfl ?_
       refine Ops.nil ?_
       refine Ends.block_normal ?_
       refine Ends.seq ?_
       refine Wp.region ?_
       refine Om1 rfl rfl ?_
       refine Ops.pv (pv_add rfl rfl (w64n (k := i + 1) (by omega) (by omega))) rfl ?_
       refine Oa1 rfl rfl ?_
       refine Ops.nil ?_
       refine Ends.goes ?_
       refine Goes.back (hK (i + 1, false) ⟨by dsimp only; omega, by first | exact leaf0 he hz2 (by assumption) | exact leaf1 he hz2 (by assumption) (by rw [hae]; simp only [fsP, okE, Fld.ok, and_true, true_and, decide_eq_true_eq, Bool.false_eq_true, false_iff]; omega)⟩ (by dsimp only; omega)) ⟨rfl, rfl, rfl, trivial⟩
      refine Os1 rfl rfl rfl rfl ?_
      refine Os1 rfl rfl rfl rfl ?_
      refine Os1 rfl rfl rfl rfl ?_
      refine Os1 rfl rfl rfl rfl ?_
      refine Ops.pv (pv_pick_false rfl rfl) rfl ?_
      refine Om1 rfl rfl ?_
      refine Os1 rfl rfl rfl rfl ?_
      refine Os1 rfl rfl rfl rfl ?_
      refine Os1 rfl rfl rfl rfl ?_
      refine Os1 rfl rfl rfl rfl ?_
      refine Ops.pv (pv_pick_false rfl rfl) rfl ?_
      refine Om1 rfl rfl ?_
      refine Os1 rfl rfl rfl rfl ?_
      refine Os1 rfl rfl rfl rfl ?_
      refine Os1 rfl rfl rfl rfl ?_
      refine Os1 rfl rfl rfl rfl ?_
      refine Ops.pv (pv_pick_false rfl rfl) rfl ?_
      refine Om1 rfl rfl ?_
      refine Os1 rfl rfl rfl rfl ?_
      refine Os1 rfl rfl rfl rfl ?_
      refine Os1 rfl rfl rfl rfl ?_
      refine Os1 rfl rfl rfl rfl ?_
      refine Ops.pv (pv_pick_false rfl rfl) rfl ?_
      refine Oa1 rfl rfl ?_
      refine Ops.nil ?_
      refine Ends.block_normal ?_
      refine Ends.seq ?_
      refine Wp.region ?_
      refine Om1 rfl rfl ?_
      refine Ops.pv (pv_add rfl rfl (w64n (k := i + 1) (by omega) (by omega))) rfl ?_
      refine Oa1 rfl rfl ?_
      refine Ops.nil ?_
      refine Ends.goes ?_
      refine Goes.back (hK (i + 1, false) ⟨by dsimp only; omega, by first | exact leaf0 he hz2 (by assumption) | exact leaf1 he hz2 (by assumption) (by rw [hae]; simp only [fsP, okE, Fld.ok, and_true, true_and, decide_eq_true_eq, Bool.false_eq_true, false_iff]; omega)⟩ (by dsimp only; omega)) ⟨rfl, rfl, rfl, trivial⟩
     refine Os1 rfl rfl rfl rfl ?_
     refine Os1 rfl rfl rfl rfl ?_
     refine Os1 rfl rfl rfl rfl ?_
     refine Os1 rfl rfl rfl rfl ?_
     refine Ops.pv (pv_pick_false rfl rfl) rfl ?_
     refine Om1 rfl rfl ?_
     refine Os1 rfl rfl rfl rfl ?_
     refine Os1 rfl rfl rfl rfl ?_
     refine Os1 rfl rfl rfl rfl ?_
     refine Os1 rfl rfl rfl rfl ?_
     refine Ops.pv (pv_pick_false rfl rfl) rfl ?_
     refine Om1 rfl rfl ?_
     refine Os1 rfl rfl rfl rfl ?_
     refine Os1 rfl rfl rfl rfl ?_
     refine Os1 rfl rfl rfl rfl ?_
     refine Os1 rfl rfl rfl rfl ?_
     refine Ops.pv (pv_pick_false rfl rfl) rfl ?_
     refine Om1 rfl rfl ?_
     refine Os1 rfl rfl rfl rfl ?_
     refine Os1 rfl rfl rfl rfl ?_
     refine Os1 rfl rfl rfl rfl ?_
     refine Os1 rfl rfl rfl rfl ?_
     refine Ops.pv (pv_pick_false rfl rfl) rfl ?_
     refine Om1 rfl rfl ?_
     refine Os1 rfl rfl rfl rfl ?_
     refine Os1 rfl rfl rfl rfl ?_
     refine Os1 rfl rfl rfl rfl ?_
     refine Os1 rfl rfl rfl rfl ?_
     refine Ops.pv (pv_pick_false rfl rfl) rfl ?_
     refine Oa1 rfl rfl ?_
     refine Ops.nil ?_
     refine Ends.block_normal ?_
     refine Ends.seq ?_
     refine Wp.region ?_
     refine Om1 rfl rfl ?_
     refine Ops.pv (pv_add rfl rfl (w64n (k := i + 1) (by omega) (by omega))) rfl ?_
     refine Oa1 rfl rfl ?_
     refine Ops.nil ?_
     refine Ends.goes ?_
     refine Goes.back (hK (i + 1, false) ⟨by dsimp only; omega, by first | exact leaf0 he hz2 (by assumption) | exact leaf1 he hz2 (by assumption) (by rw [hae]; simp only [fsP, okE, Fld.ok, and_true, true_and, decide_eq_true_eq, Bool.false_eq_true, false_iff]; omega)⟩ (by dsimp only; omega)) ⟨rfl, rfl, rfl, trivial⟩
    refine Os1 rfl rfl rfl rfl ?_
    refine Os1 rfl rfl rfl rfl ?_
    refine Os1 rfl rfl rfl rfl ?_
    refine Os1 rfl rfl rfl rfl ?_
    refine Ops.pv (pv_pick_false rfl rfl) rfl ?_
    refine Om1 rfl rfl ?_
    refine Os1 rfl rfl rfl rfl ?_
    refine Os1 rfl rfl rfl rfl ?_
    refine Os1 rfl rfl rfl rfl ?_
    refine Os1 rfl rfl rfl rfl ?_
    refine Ops.pv (pv_pick_false rfl rfl) rfl ?_
    refine Om1 rfl rfl ?_
    refine Os1 rfl rfl rfl rfl ?_
    refine Os1 rfl rfl rfl rfl ?_
    refine Os1 rfl rfl rfl rfl ?_
    refine Os1 rfl rfl rfl rfl ?_
    refine Ops.pv (pv_pick_false rfl rfl) rfl ?_
    refine Om1 rfl rfl ?_
    refine Os1 rfl rfl rfl rfl ?_
    refine Os1 rfl rfl rfl rfl ?_
    refine Os1 rfl rfl rfl rfl ?_
    refine Os1 rfl rfl rfl rfl ?_
    refine Ops.pv (pv_pick_false rfl rfl) rfl ?_
    refine Om1 rfl rfl ?_
    refine Os1 rfl rfl rfl rfl ?_
    refine Os1 rfl rfl rfl rfl ?_
    refine Os1 rfl rfl rfl rfl ?_
    refine Os1 rfl rfl rfl rfl ?_
    refine Ops.pv (pv_pick_false rfl rfl) rfl ?_
    refine Om1 rfl rfl ?_
    refine Os1 rfl rfl rfl rfl ?_
    refine Os1 rfl rfl rfl rfl ?_
    refine Os1 rfl rfl rfl rfl ?_
    refine Os1 rfl rfl rfl rfl ?_
    refine Ops.pv (pv_pick_false rfl rfl) rfl ?_
    refine Oa1 rfl rfl ?_
    refine Ops.nil ?_
    refine Ends.block_normal ?_
    refine Ends.seq ?_
    refine Wp.region ?_
    refine Om1 rfl rfl ?_
    refine Ops.pv (pv_add rfl rfl (w64n (k := i + 1) (by omega) (by omega))) rfl ?_
    refine Oa1 rfl rfl ?_
    refine Ops.nil ?_
    refine Ends.goes ?_
    refine Goes.back (hK (i + 1, false) ⟨by dsimp only; omega, by first | exact leaf0 he hz2 (by assumption) | exact leaf1 he hz2 (by assumption) (by rw [hae]; simp only [fsP, okE, Fld.ok, and_true, true_and, decide_eq_true_eq, Bool.false_eq_true, false_iff]; omega)⟩ (by dsimp only; omega)) ⟨rfl, rfl, rfl, trivial⟩
   refine Os1 rfl rfl rfl rfl ?_
   refine Os1 rfl rfl rfl rfl ?_
   refine Os1 rfl rfl rfl rfl ?_
   refine Os1 rfl rfl rfl rfl ?_
   refine Ops.pv (pv_pick_false rfl rfl) rfl ?_
   refine Om1 rfl rfl ?_
   refine Os1 rfl rfl rfl rfl ?_
   refine Os1 rfl rfl rfl rfl ?_
   refine Os1 rfl rfl rfl rfl ?_
   refine Os1 rfl rfl rfl rfl ?_
   refine Ops.pv (pv_pick_false rfl rfl) rfl ?_
   refine Om1 rfl rfl ?_
   refine Os1 rfl rfl rfl rfl ?_
   refine Os1 rfl rfl rfl rfl ?_
   refine Os1 rfl rfl rfl rfl ?_
   refine Os1 rfl rfl rfl rfl ?_
   refine Ops.pv (pv_pick_false rfl rfl) rfl ?_
   refine Om1 rfl rfl ?_
   refine Os1 rfl rfl rfl rfl ?_
   refine Os1 rfl rfl rfl rfl ?_
   refine Os1 rfl rfl rfl rfl ?_
   refine Os1 rfl rfl rfl rfl ?_
   refine Ops.pv (pv_pick_false rfl rfl) rfl ?_
   refine Om1 rfl rfl ?_
   refine Os1 rfl rfl rfl rfl ?_
   refine Os1 rfl rfl rfl rfl ?_
   refine Os1 rfl rfl rfl rfl ?_
   refine Os1 rfl rfl rfl rfl ?_
   refine Ops.pv (pv_pick_false rfl rfl) rfl ?_
   refine Om1 rfl rfl ?_
   refine Os1 rfl rfl rfl rfl ?_
   refine Os1 rfl rfl rfl rfl ?_
   refine Os1 rfl rfl rfl rfl ?_
   refine Os1 rfl rfl rfl rfl ?_
   refine Ops.pv (pv_pick_false rfl rfl) rfl ?_
   refine Om1 rfl rfl ?_
   refine Os1 rfl rfl rfl rfl ?_
   refine Os1 rfl rfl rfl rfl ?_
   refine Os1 rfl rfl rfl rfl ?_
   refine Os1 rfl rfl rfl rfl ?_
   refine Ops.pv (pv_pick_false rfl rfl) rfl ?_
   refine Oa1 rfl rfl ?_
   refine Ops.nil ?_
   refine Ends.block_normal ?_
   refine Ends.seq ?_
   refine Wp.region ?_
   refine Om1 rfl rfl ?_
   refine Ops.pv (pv_add rfl rfl (w64n (k := i + 1) (by omega) (by omega))) rfl ?_
   refine Oa1 rfl rfl ?_
   refine Ops.nil ?_
   refine Ends.goes ?_
   refine Goes.back (hK (i + 1, false) ⟨by dsimp only; omega, by first | exact leaf0 he hz2 (by assumption) | exact leaf1 he hz2 (by assumption) (by rw [hae]; simp only [fsP, okE, Fld.ok, and_true, true_and, decide_eq_true_eq, Bool.false_eq_true, false_iff]; omega)⟩ (by dsimp only; omega)) ⟨rfl, rfl, rfl, trivial⟩
  refine Os1 rfl rfl rfl rfl ?_
  refine Os1 rfl rfl rfl rfl ?_
  refine Os1 rfl rfl rfl rfl ?_
  refine Os1 rfl rfl rfl rfl ?_
  refine Ops.pv (pv_pick_false rfl rfl) rfl ?_
  refine Om1 rfl rfl ?_
  refine Os1 rfl rfl rfl rfl ?_
  refine Os1 rfl rfl rfl rfl ?_
  refine Os1 rfl rfl rfl rfl ?_
  refine Os1 rfl rfl rfl rfl ?_
  refine Ops.pv (pv_pick_false rfl rfl) rfl ?_
  refine Om1 rfl rfl ?_
  refine Os1 rfl rfl rfl rfl ?_
  refine Os1 rfl rfl rfl rfl ?_
  refine Os1 rfl rfl rfl rfl ?_
  refine Os1 rfl rfl rfl rfl ?_
  refine Ops.pv (pv_pick_false rfl rfl) rfl ?_
  refine Om1 rfl rfl ?_
  refine Os1 rfl rfl rfl rfl ?_
  refine Os1 rfl rfl rfl rfl ?_
  refine Os1 rfl rfl rfl rfl ?_
  refine Os1 rfl rfl rfl rfl ?_
  refine Ops.pv (pv_pick_false rfl rfl) rfl ?_
  refine Om1 rfl rfl ?_
  refine Os1 rfl rfl rfl rfl ?_
  refine Os1 rfl rfl rfl rfl ?_
  refine Os1 rfl rfl rfl rfl ?_
  refine Os1 rfl rfl rfl rfl ?_
  refine Ops.pv (pv_pick_false rfl rfl) rfl ?_
  refine Om1 rfl rfl ?_
  refine Os1 rfl rfl rfl rfl ?_
  refine Os1 rfl rfl rfl rfl ?_
  refine Os1 rfl rfl rfl rfl ?_
  refine Os1 rfl rfl rfl rfl ?_
  refine Ops.pv (pv_pick_false rfl rfl) rfl ?_
  refine Om1 rfl rfl ?_
  refine Os1 rfl rfl rfl rfl ?_
  refine Os1 rfl rfl rfl rfl ?_
  refine Os1 rfl rfl rfl rfl ?_
  refine Os1 rfl rfl rfl rfl ?_
  refine Ops.pv (pv_pick_false rfl rfl) rfl ?_
  refine Om1 rfl rfl ?_
  refine Os1 rfl rfl rfl rfl ?_
  refine Os1 rfl rfl rfl rfl ?_
  refine Os1 rfl rfl rfl rfl ?_
  refine Os1 rfl rfl rfl rfl ?_
  refine Ops.pv (pv_pick_false rfl rfl) rfl ?_
  refine Oa1 rfl rfl ?_
  refine Ops.nil ?_
  refine Ends.block_normal ?_
  refine Ends.seq ?_
  refine Wp.region ?_
  refine Om1 rfl rfl ?_
  refine Ops.pv (pv_add rfl rfl (w64n (k := i + 1) (by omega) (by omega))) rfl ?_
  refine Oa1 rfl rfl ?_
  refine Ops.nil ?_
  refine Ends.goes ?_
  refine Goes.back (hK (i + 1, false) ⟨by dsimp only; omega, by first | exact leaf0 he hz2 (by assumption) | exact leaf1 he hz2 (by assumption) (by rw [hae]; simp only [fsP, okE, Fld.ok, and_true, true_and, decide_eq_true_eq, Bool.false_eq_true, false_iff]; omega)⟩ (by dsimp only; omega)) ⟨rfl, rfl, rfl, trivial⟩
 obtain rfl : i = D.p.length := by omega
 rw [List.take_length] at hz2
 refine Wp.exit ?_
 refine Ends.then_exit ?_
 refine Ends.then_exit ?_
 refine Ends.block_hit ?_
 refine Ends.seq ?_
 refine Wp.seq ?_
 refine Wr ?_
 refine Oa1 rfl rfl ?_
 refine On ?_
 refine Wp.block ?_
 refine Wp.loopK (σ := Nat × Bool) [(1, _)] (fun s => [(3, .bool s.2), (8, .int .i64 s.1)]) (fun s => (b1, .cells [.slice s1 D.o.length c1, .slice s2 D.p.length c2, .slice s3 D.m.length c3, .slice s4 D.f.length c4, .slice s5 D.t.length c5, .slice s6 D.w.length c6, .slice s7 D.s.length c7].toArray 30) :: (G ++ F)) (fun s => s.1 ≤ D.m.length ∧ (s.2 = true ↔ (((True) ∧ allOk fsO D.o) ∧ allOk fsP D.p) ∧ allOk fsM (D.m.take s.1))) (fun s => D.m.length - s.1) (0, z2) ⟨Nat.zero_le _, by rw [hz2]; simp [allOk_nil]⟩ ⟨rfl, trivial⟩ ⟨rfl, rfl, trivial⟩ (by intro w ho; (try dsimp only [List.nil_append, List.cons_append]); exact Drop.own ho) ?_
 rintro ⟨i, z3⟩ KK ⟨hi, hz3⟩ hK
 dsimp only [List.cons_append, List.nil_append] at hK ⊢
 dsimp only at hi hz3 ⊢
 refine Wp.seq ?_
 refine Wr ?_
 refine Om1 rfl rfl ?_
 refine Of1 rfl rfl rfl ?_
 refine Ol1 rfl rfl rfl rfl ?_
 refine Ops.pv (pv_len_slice (T := 24) rfl rfl) rfl ?_
 refine Ops.pv (pv_lss rfl rfl) rfl ?_
 refine On ?_
 refine Wp.cond_dect rfl (fun h14 => ?_) (fun h14 => ?_)
 ·
  obtain ⟨e, he⟩ : ∃ e, D.m[i]? = some e := ⟨_, List.getElem?_eq_getElem (by omega)⟩
  obtain ⟨eb, eo, cc, TT, fz, cap, hva, hbm, hx⟩ := da_el hs.m he
  cases hva
  have hbg : Blk G eb (.cells cc.toArray TT fz) := ⟨hbm⟩
  obtain ⟨a0, a1, a2, a3, hae⟩ := El.four rfl e
  rw [cE, hae] at hx
  refine Wp.skip ?_
  refine Ends.seq ?_
  refine Wp.seq ?_
  refine Wp.block ?_
  refine Wr ?_
  refine Of1 rfl rfl rfl ?_
  refine Ol1 rfl rfl rfl rfl ?_
  refine Om1 rfl rfl ?_
  refine Ops.pv (pv_indexAddr (i := i) rfl rfl rfl (by omega)) rfl ?_
  refine Ops.pv (pv_loadK [.int .i64 a0, .int .i64 a1, .int .i64 a2, .bool (decide (a3 = 1))] rfl rfl rfl hx.reads) rfl ?_
  refine Ops.ef rfl (ef_allocK tyZ64 rfl) ?_
  rintro _ _ ⟨b4, rfl, rfl⟩
  refine Ops.ef rfl (ef_storeK rfl rfl rfl rfl) ?_
  rintro _ _ ⟨rfl, rfl⟩
  refine On ?_
  refine Wp.region ?_
  refine Om1 rfl rfl ?_
  refine Om1 rfl rfl ?_
  refine Ops.splitb (t := 163) rfl (fun h15 => ?_) (fun h15 => ?_)
  ·
   refine Ops.pvg ⟨_, _, rfl, rfl, rfl⟩ (pv_fieldAddr0 rfl rfl) rfl ?_
   refine Ops.pvg ⟨_, _, rfl, rfl, rfl⟩ (pv_load rfl rfl rfl) rfl ?_
   refine Ops.efg ⟨_, _, rfl, rfl, rfl⟩ (ef_callr (tr_in _) rfl rfl) ?_
   rintro _ _ ⟨rfl, rfl⟩
   refine Ops.pv (pv_pick_true rfl rfl) rfl ?_
   refine Om1 rfl rfl ?_
   refine Ops.split (t := 168) rfl (fun h16 => ?_) (fun h16 => ?_)
   ·
    refine Ops.pvg ⟨_, _, rfl, rfl, rfl⟩ (pv_fieldAddr0 rfl rfl) rfl ?_
    refine Ops.pvg ⟨_, _, rfl, rfl, rfl⟩ (pv_load rfl rfl rfl) rfl ?_
    refine Ops.efg ⟨_, _, rfl, rfl, rfl⟩ (ef_callr (tr_in _) rfl rfl) ?_
    rintro _ _ ⟨rfl, rfl⟩
    refine Ops.pv (pv_pick_true rfl rfl) rfl ?_
    refine Om1 rfl rfl ?_
    refine Ops.split (t := 173) rfl (fun h17 => ?_) (fun h17 => ?_)
    ·
     refine Ops.pvg ⟨_, _, rfl, rfl, rfl⟩ (pv_fieldAddr0 rfl rfl) rfl ?_
     refine Ops.pvg ⟨_, _, rfl, rfl, rfl⟩ (pv_load rfl rfl rfl) rfl ?_
     refine Ops.efg ⟨_, _, rfl, rfl, rfl⟩ (ef_callr (tr_in _) rfl rfl) ?_
     rintro _ _ ⟨rfl, rfl⟩
     refine Ops.pv (pv_pick_true rfl rfl) rfl ?_
     refine Oa1 rfl rfl ?_
     refine Ops.nil ?_
     refine Ends.block_normal ?_
     refine Ends.seq ?_
     refine Wp.region ?_
     refine Om1 rfl rfl ?_
     refine Ops.pv (pv_add rfl rfl (w64n (k := i + 1) (by omega) (by omega))) rfl ?_
     refine Oa1 rfl rfl ?_
     refine Ops.nil ?_
     refine Ends.goes ?_
     refine Goes.back (hK (i + 1, decide (a2 ≥ 0 ∧ a2 ≤ 65535)) ⟨by dsimp only; omega, by first | exact leaf0 he hz3 (by assumption) | exact leaf1 he hz3 (by assumption) (by rw [hae]; simp only [fsM, okE, Fld.ok, and_true, true_and, decide_eq_true_eq, Bool.false_eq_true, false_iff]; omega)⟩ (by dsimp only; omega)) ⟨rfl, rfl, rfl, trivial⟩
    refine Os1 rfl rfl rfl rfl ?_
    refine Os1 rfl rfl rfl rfl ?_
    refine Os1 rfl rfl rfl rfl ?_
    refine Ops.pv (pv_pick_false rfl rfl) rfl ?_
    refine Oa1 rfl rfl ?_
    refine Ops.nil ?_
    refine Ends.block_normal ?_
    refine Ends.seq ?_
    refine Wp.region ?_
    refine Om1 rfl rfl ?_
    refine Ops.pv (pv_add rfl rfl (w64n (k := i + 1) (by omega) (by omega))) rfl ?_
    refine Oa1 rfl rfl ?_
    refine Ops.nil ?_
    refine Ends.goes ?_
    refine Goes.back (hK (i + 1, false) ⟨by dsimp only; omega, by first | exact leaf0 he hz3 (by assumption) | exact leaf1 he hz3 (by assumption) (by rw [hae]; simp only [fsM, okE, Fld.ok, and_true, true_and, decide_eq_true_eq, Bool.false_eq_true, false_iff]; omega)⟩ (by dsimp only; omega)) ⟨rfl, rfl, rfl, trivial⟩
   refine Os1 rfl rfl rfl rfl ?_
   refine Os1 rfl rfl rfl rfl ?_
   refine Os1 rfl rfl rfl rfl ?_
   refine Ops.pv (pv_pick_false rfl rfl) rfl ?_
   refine Om1 rfl rfl ?_
   refine Os1 rfl rfl rfl rfl ?_
   refine Os1 rfl rfl rfl rfl ?_
   refine Os1 rfl rfl rfl rfl ?_
   refine Ops.pv (pv_pick_false rfl rfl) rfl ?_
   refine Oa1 rfl rfl ?_
   refine Ops.nil ?_
   refine Ends.block_normal ?_
   refine Ends.seq ?_
   refine Wp.region ?_
   refine Om1 rfl rfl ?_
   refine Ops.pv (pv_add rfl rfl (w64n (k := i + 1) (by omega) (by omega))) rfl ?_
   refine Oa1 rfl rfl ?_
   refine Ops.nil ?_
   refine Ends.goes ?_
   refine Goes.back (hK (i + 1, false) ⟨by dsimp only; omega, by first | exact leaf0 he hz3 (by assumption) | exact leaf1 he hz3 (by assumption) (by rw [hae]; simp only [fsM, okE, Fld.ok, and_true, true_and, decide_eq_true_eq, Bool.false_eq_true, false_iff]; omega)⟩ (by dsimp only; omega)) ⟨rfl, rfl, rfl, trivial⟩
  refine Os1 rfl rfl rfl rfl ?_
  refine Os1 rfl rfl rfl rfl ?_
  refine Os1 rfl rfl rfl rfl ?_
  refine Ops.pv (pv_pick_false rfl rfl) rfl ?_
  refine Om1 rfl rfl ?_
  refine Os1 rfl rfl rfl rfl ?_
  refine Os1 rfl rfl rfl rfl ?_
  refine Os1 rfl rfl rfl rfl ?_
  refine Ops.pv (pv_pick_false rfl rfl) rfl ?_
  refine Om1 rfl rfl ?_
  refine Os1 rfl rfl rfl rfl ?_
  refine Os1 rfl rfl rfl rfl ?_
  refine Os1 rfl rfl rfl rfl ?_
  refine Ops.pv (pv_pick_false rfl rfl) rfl ?_
  refine Oa1 rfl rfl ?_
  refine Ops.nil ?_
  refine Ends.block_normal ?_
  refine Ends.seq ?_
  refine Wp.region ?_
  refine Om1 rfl rfl ?_
  refine Ops.pv (pv_add rfl rfl (w64n (k := i + 1) (by omega) (by omega))) rfl ?_
  refine Oa1 rfl rfl ?_
  refine Ops.nil ?_
  refine Ends.goes ?_
  refine Goes.back (hK (i + 1, false) ⟨by dsimp only; omega, by first | exact leaf0 he hz3 (by assumption) | exact leaf1 he hz3 (by assumption) (by rw [hae]; simp only [fsM, okE, Fld.ok, and_true, true_and, decide_eq_true_eq, Bool.false_eq_true, false_iff]; omega)⟩ (by dsimp only; omega)) ⟨rfl, rfl, rfl, trivial⟩
 obtain rfl : i = D.m.length := by omega
 rw [List.take_length] at hz3
 refine Wp.exit ?_
 refine Ends.then_exit ?_
 refine Ends.then_exit ?_
 refine Ends.block_hit ?_
 refine Ends.seq ?_
 refine Wp.seq ?_
 refine Wr ?_
 refine Oa1 rfl rfl ?_
 refine On ?_
 refine Wp.block ?_
 refine Wp.loopK (σ := Nat × Bool) [(1, _)] (fun s => [(3, .bool s.2), (10, .int .i64 s.1)]) (fun s => (b1, .cells [.slice s1 D.o.length c1, .slice s2 D.p.length c2, .slice s3 D.m.length c3, .slice s4 D.f.length c4, .slice s5 D.t.length c5, .slice s6 D.w.length c6, .slice s7 D.s.length c7].toArray 30) :: (G ++ F)) (fun s => s.1 ≤ D.f.length ∧ (s.2 = true ↔ ((((True) ∧ allOk fsO D.o) ∧ allOk fsP D.p) ∧ allOk fsM D.m) ∧ allOk fsF (D.f.take s.1))) (fun s => D.f.length - s.1) (0, z3) ⟨Nat.zero_le _, by rw [hz3]; simp [allOk_nil]⟩ ⟨rfl, trivial⟩ ⟨rfl, rfl, trivial⟩ (by intro w ho; (try dsimp only [List.nil_append, List.cons_append]); exact Drop.own ho) ?_
 rintro ⟨i, z4⟩ KK ⟨hi, hz4⟩ hK
 dsimp only [List.cons_append, List.nil_append] at hK ⊢
 dsimp only at hi hz4 ⊢
 refine Wp.seq ?_
 refine Wr ?_
 refine Om1 rfl rfl ?_
 refine Of1 rfl rfl rfl ?_
 refine Ol1 rfl rfl rfl rfl ?_
 refine Ops.pv (pv_len_slice (T := 25) rfl rfl) rfl ?_
 refine Ops.pv (pv_lss rfl rfl) rfl ?_
 refine On ?_
 refine Wp.cond_dect rfl (fun h18 => ?_) (fun h18 => ?_)
 ·
  obtain ⟨e, he⟩ : ∃ e, D.f[i]? = some e := ⟨_, List.getElem?_eq_getElem (by omega)⟩
  obtain ⟨eb, eo, cc, TT, fz, cap, hva, hbm, hx⟩ := da_el hs.f he
  cases hva
  have hbg : Blk G eb (.cells cc.toArray TT fz) := ⟨hbm⟩
  obtain ⟨a0, a1, a2, hae⟩ := El.three rfl e
  rw [cE, hae] at hx
  refine Wp.skip ?_
  refine Ends.seq ?_
  refine Wp.seq ?_
  refine Wp.block ?_
  refine Wp.region ?_
  refine Om1 rfl rfl ?_
  refine Om1 rfl rfl ?_
  refine Ops.splitb (t := 186) rfl (fun h19 => ?_) (fun h19 => ?_)
  ·
   refine Ops.pvg ⟨_, _, rfl, rfl, rfl⟩ (pv_fieldAddr0 rfl rfl) rfl ?_
   refine Ops.pvg ⟨_, _, rfl, rfl, rfl⟩ (pv_load rfl rfl rfl) rfl ?_
   refine Ops.pvg ⟨_, _, rfl, rfl, rfl⟩ (pv_move rfl) rfl ?_
   refine Ops.pvg ⟨_, _, rfl, rfl, rfl⟩ (pv_indexAddr (i := i) rfl rfl rfl (by omega)) rfl ?_
   refine Ops.pvg ⟨_, _, rfl, rfl, rfl⟩ (pv_fieldAddr rfl rfl) rfl ?_
   refine Ops.pvg ⟨_, _, rfl, rfl, rfl⟩ (pv_load rfl rfl (hx.at_ (v := .int .i64 a0) 0 rfl)) rfl ?_
   refine Ops.efg ⟨_, _, rfl, rfl, rfl⟩ (ef_callr (tr_in _) rfl rfl) ?_
   rintro _ _ ⟨rfl, rfl⟩
   refine Ops.pv (pv_pick_true rfl rfl) rfl ?_
   refine Om1 rfl rfl ?_
   refine Ops.split (t := 195) rfl (fun h20 => ?_) (fun h20 => ?_)
   ·
    refine Ops.pvg ⟨_, _, rfl, rfl, rfl⟩ (pv_fieldAddr0 rfl rfl) rfl ?_
    refine Ops.pvg ⟨_, _, rfl, rfl, rfl⟩ (pv_load rfl rfl rfl) rfl ?_
    refine Ops.pvg ⟨_, _, rfl, rfl, rfl⟩ (pv_move rfl) rfl ?_
    refine Ops.pvg ⟨_, _, rfl, rfl, rfl⟩ (pv_indexAddr (i := i) rfl rfl rfl (by omega)) rfl ?_
    refine Ops.pvg ⟨_, _, rfl, rfl, rfl⟩ (pv_fieldAddr rfl rfl) rfl ?_
    refine Ops.pvg ⟨_, _, rfl, rfl, rfl⟩ (pv_load rfl rfl (hx.at_ (v := .int .i64 a1) 1 rfl)) rfl ?_
    refine Ops.efg ⟨_, _, rfl, rfl, rfl⟩ (ef_callr (tr_in _) rfl rfl) ?_
    rintro _ _ ⟨rfl, rfl⟩
    refine Ops.pv (pv_pick_true rfl rfl) rfl ?_
    refine Oa1 rfl rfl ?_
    refine Ops.nil ?_
    refine Ends.block_normal ?_
    refine Ends.seq ?_
    refine Wp.region ?_
    refine Om1 rfl rfl ?_
    refine Ops.pv (pv_add rfl rfl (w64n (k := i + 1) (by omega) (by omega))) rfl ?_
    refine Oa1 rfl rfl ?_
    refine Ops.nil ?_
    refine Ends.goes ?_
    refine Goes.back (hK (i + 1, decide (a1 ≥ 0 ∧ a1 ≤ 65535)) ⟨by dsimp only; omega, by first | exact leaf0 he hz4 (by assumption) | exact leaf1 he hz4 (by assumption) (by rw [hae]; simp only [fsF, okE, Fld.ok, and_true, true_and, decide_eq_true_eq, Bool.false_eq_true, false_iff]; omega)⟩ (by dsimp only; omega)) ⟨rfl, rfl, rfl, trivial⟩
   refine Os1 rfl rfl rfl rfl ?_
   refine Os1 rfl rfl rfl rfl ?_
   refine Os1 rfl rfl rfl rfl ?_
   refine Os1 rfl rfl rfl rfl ?_
   refine Os1 rfl rfl rfl rfl ?_
   refine Os1 rfl rfl rfl rfl ?_
   refine Os1 rfl rfl rfl rfl ?_
   refine Ops.pv (pv_pick_false rfl rfl) rfl ?_
   refine Oa1 rfl rfl ?_
   refine Ops.nil ?_
   refine Ends.block_normal ?_
   refine Ends.seq ?_
   refine Wp.region ?_
   refine Om1 rfl rfl ?_
   refine Ops.pv (pv_add rfl rfl (w64n (k := i + 1) (by omega) (by omega))) rfl ?_
   refine Oa1 rfl rfl ?_
   refine Ops.nil ?_
   refine Ends.goes ?_
   refine Goes.back (hK (i + 1, false) ⟨by dsimp only; omega, by first | exact leaf0 he hz4 (by assumption) | exact leaf1 he hz4 (by assumption) (by rw [hae]; simp only [fsF, okE, Fld.ok, and_true, true_and, decide_eq_true_eq, Bool.false_eq_true, false_iff]; omega)⟩ (by dsimp only; omega)) ⟨rfl, rfl, rfl, trivial⟩
  refine Os1 rfl rfl rfl rfl ?_
  refine Os1 rfl rfl rfl rfl ?_
  refine Os1 rfl rfl rfl rfl ?_
  refine Os1 rfl rfl rfl rfl ?_
  refine Os1 rfl rfl rfl rfl ?_
  refine Os1 rfl rfl rfl rfl ?_
  refine Os1 rfl rfl rfl rfl ?_
  refine Ops.pv (pv_pick_false rfl rfl) rfl ?_
  refine Om1 rfl rfl ?_
  refine Os1 rfl rfl rfl rfl ?_
  refine Os1 rfl rfl rfl rfl ?_
  refine Os1 rfl rfl rfl rfl ?_
  refine Os1 rfl rfl rfl rfl ?_
  refine Os1 rfl rfl rfl rfl ?_
  refine Os1 rfl rfl rfl rfl ?_
  refine Os1 rfl rfl rfl rfl ?_
  refine Ops.pv (pv_pick_false rfl rfl) rfl ?_
  refine Oa1 rfl rfl ?_
  refine Ops.nil ?_
  refine Ends.block_normal ?_
  refine Ends.seq ?_
  refine Wp.region ?_
  refine Om1 rfl rfl ?_
  refine Ops.pv (pv_add rfl rfl (w64n (k := i + 1) (by omega) (by omega))) rfl ?_
  refine Oa1 rfl rfl ?_
  refine Ops.nil ?_
  refine Ends.goes ?_
  refine Goes.back (hK (i + 1, false) ⟨by dsimp only; omega, by first | exact leaf0 he hz4 (by assumption) | exact leaf1 he hz4 (by assumption) (by rw [hae]; simp only [fsF, okE, Fld.ok, and_true, true_and, decide_eq_true_eq, Bool.false_eq_true, false_iff]; omega)⟩ (by dsimp only; omega)) ⟨rfl, rfl, rfl, trivial⟩
 obtain rfl : i = D.f.length := by omega
 rw [List.take_length] at hz4
 refine Wp.exit ?_
 refine Ends.then_exit ?_
 refine Ends.then_exit ?_
 refine Ends.block_hit ?_
 refine Ends.seq ?_
 refine Wp.seq ?_
 refine Wr ?_
 refine Oa1 rfl rfl ?_
 refine On ?_
 refine Wp.block ?_
 refine Wp.loopK (σ := Nat × Bool) [(1, _)] (fun s => [(3, .bool s.2), (11, .int .i64 s.1)]) (fun s => (b1, .cells [.slice s1 D.o.length c1, .slice s2 D.p.length c2, .slice s3 D.m.length c3, .slice s4 D.f.length c4, .slice s5 D.t.length c5, .slice s6 D.w.length c6, .slice s7 D.s.length c7].toArray 30) :: (G ++ F)) (fun s => s.1 ≤ D.t.length ∧ (s.2 = true ↔ (((((True) ∧ allOk fsO D.o) ∧ allOk fsP D.p) ∧ allOk fsM D.m) ∧ allOk fsF D.f) ∧ allOk fsT (D.t.take s.1))) (fun s => D.t.length - s.1) (0, z4) ⟨Nat.zero_le _, by rw [hz4]; simp [allOk_nil]⟩ ⟨rfl, trivial⟩ ⟨rfl, rfl, trivial⟩ (by intro w ho; (try dsimp only [List.nil_append, List.cons_append]); exact Drop.own ho) ?_
 rintro ⟨i, z5⟩ KK ⟨hi, hz5⟩ hK
 dsimp only [List.cons_append, List.nil_append] at hK ⊢
 dsimp only at hi hz5 ⊢
 refine Wp.seq ?_
 refine Wr ?_
 refine Om1 rfl rfl ?_
 refine Of1 rfl rfl rfl ?_
 refine Ol1 rfl rfl rfl rfl ?_
 refine Ops.pv (pv_len_slice (T := 26) rfl rfl) rfl ?_
 refine Ops.pv (pv_lss rfl rfl) rfl ?_
 refine On ?_
 refine Wp.cond_dect rfl (fun h21 => ?_) (fun h21 => ?_)
 ·
  obtain ⟨e, he⟩ : ∃ e, D.t[i]? = some e := ⟨_, List.getElem?_eq_getElem (by omega)⟩
  obtain ⟨eb, eo, cc, TT, fz, cap, hva, hbm, hx⟩ := da_el hs.t he
  cases hva
  have hbg : Blk G eb (.cells cc.toArray TT fz) := ⟨hbm⟩
  obtain ⟨a0, a1, a2, a3, a4, a5, a6, a7, hae⟩ := El.eight rfl e
  rw [cE, hae] at hx
  refine Wp.skip ?_
  refine Ends.seq ?_
  refine Wp.seq ?_
  refine Wp.block ?_
  refine Wr ?_
  refine Of1 rfl rfl rfl ?_
  refine Ol1 rfl rfl rfl rfl ?_
  refine Om1 rfl rfl ?_
  refine Ops.pv (pv_indexAddr (i := i) rfl rfl rfl (by omega)) rfl ?_
  refine Ops.pv (pv_loadK [.int .i64 a0, .int .i64 a1, .int .i64 a2, .int .i64 a3, .int .i64 a4, .int .u64 a5, .int .i64 a6, .int .i64 a7] rfl rfl rfl hx.reads) rfl ?_
  refine Ops.ef rfl (ef_allocK tyZ70 rfl) ?_
  rintro _ _ ⟨b5, rfl, rfl⟩
  refine Ops.ef rfl (ef_storeK rfl rfl rfl rfl) ?_
  rintro _ _ ⟨rfl, rfl⟩
  refine On ?_
  refine Wp.region ?_
  refine Om1 rfl rfl ?_
  refine Om1 rfl rfl ?_
  refine Ops.splitb (t := 217) rfl (fun h22 => ?_) (fun h22 => ?_)
  ·
   refine Ops.pvg ⟨_, _, rfl, rfl, rfl⟩ (pv_fieldAddr0 rfl rfl) rfl ?_
   refine Ops.pvg ⟨_, _, rfl, rfl, rfl⟩ (pv_load rfl rfl rfl) rfl ?_
   refine Ops.efg ⟨_, _, rfl, rfl, rfl⟩ (ef_callr (tr_in _) rfl rfl) ?_
   rintro _ _ ⟨rfl, rfl⟩
   refine Ops.pv (pv_pick_true rfl rfl) rfl ?_
   refine Om1 rfl rfl ?_
   refine Ops.split (t := 222) rfl (fun h23 => ?_) (fun h23 => ?_)
   ·
    refine Ops.pvg ⟨_, _, rfl, rfl, rfl⟩ (pv_fieldAddr0 rfl rfl) rfl ?_
    refine Ops.pvg ⟨_, _, rfl, rfl, rfl⟩ (pv_load rfl rfl rfl) rfl ?_
    refine Ops.efg ⟨_, _, rfl, rfl, rfl⟩ (ef_callr (tr_in _) rfl rfl) ?_
    rintro _ _ ⟨rfl, rfl⟩
    refine Ops.pv (pv_pick_true rfl rfl) rfl ?_
    refine Om1 rfl rfl ?_
    refine Ops.split (t := 227) rfl (fun h24 => ?_) (fun h24 => ?_)
    ·
     refine Ops.pvg ⟨_, _, rfl, rfl, rfl⟩ (pv_fieldAddr0 rfl rfl) rfl ?_
     refine Ops.pvg ⟨_, _, rfl, rfl, rfl⟩ (pv_load rfl rfl rfl) rfl ?_
     refine Ops.efg ⟨_, _, rfl, rfl, rfl⟩ (ef_callr (tr_in _) rfl rfl) ?_
     rintro _ _ ⟨rfl, rfl⟩
     refine Ops.pv (pv_pick_true rfl rfl) rfl ?_
     refine Om1 rfl rfl ?_
     refine Ops.split (t := 232) rfl (fun h25 => ?_) (fun h25 => ?_)
     ·
      refine Ops.pvg ⟨_, _, rfl, rfl, rfl⟩ (pv_fieldAddr0 rfl rfl) rfl ?_
      refine Ops.pvg ⟨_, _, rfl, rfl, rfl⟩ (pv_load rfl rfl rfl) rfl ?_
      refine Ops.efg ⟨_, _, rfl, rfl, rfl⟩ (ef_callr (tr_in _) rfl rfl) ?_
      rintro _ _ ⟨rfl, rfl⟩
      refine Ops.pv (pv_pick_true rfl rfl) rfl ?_
      refine Om1 rfl rfl ?_
      refine Ops.split (t := 237) rfl (fun h26 => ?_) (fun h26 => ?_)
      ·
       refine Ops.pvg ⟨_, _, rfl, rfl, rfl⟩ (pv_fieldAddr0 rfl rfl) rfl ?_
       refine Ops.pvg ⟨_, _, rfl, rfl, rfl⟩ (pv_load rfl rfl rfl) rfl ?_
       refine Ops.efg ⟨_, _, rfl, rfl, rfl⟩ (ef_callr (tr_in _) rfl rfl) ?_
       rintro _ _ ⟨rfl, rfl⟩
       refine Ops.pv (pv_pick_true rfl rfl) rfl ?_
       refine Om1 rfl rfl ?_
       refine Ops.split (t := 242) rfl (fun h27 => ?_) (fun h27 => ?_)
       ·
        refine Ops.pvg ⟨_, _, rfl, rfl, rfl⟩ (pv_fieldAddr0 rfl rfl) rfl ?_
        refine Ops.pvg ⟨_, _, rfl, rfl, rfl⟩ (pv_load rfl rfl rfl) rfl ?_
        refine Ops.pvg ⟨_, _, rfl, rfl, rfl⟩ (pv_lss rfl rfl) rfl ?_
        refine Ops.pv (pv_pick_true rfl rfl) rfl ?_
        refine Om1 rfl rfl ?_
        refine Ops.split (t := 247) rfl (fun h28 => ?_) (fun h28 => ?_)
        ·
         refine Ops.pvg ⟨_, _, rfl, rfl, rfl⟩ (pv_fieldAddr0 rfl rfl) rfl ?_
         refine Ops.pvg ⟨_, _, rfl, rfl, rfl⟩ (pv_load rfl rfl rfl) rfl ?_
         refine Ops.efg ⟨_, _, rfl, rfl, rfl⟩ (ef_callr (tr_in _) rfl rfl) ?_
         rintro _ _ ⟨rfl, rfl⟩
         refine Ops.pv (pv_pick_true rfl rfl) rfl ?_
         refine Om1 rfl rfl ?_
         refine Ops.split (t := 252) rfl (fun h29 => ?_) (fun h29 => ?_)
         ·
          refine Ops.pvg ⟨_, _, rfl, rfl, rfl⟩ (pv_fieldAddr0 rfl rfl) rfl ?_
          refine Ops.pvg ⟨_, _, rfl, rfl, rfl⟩ (pv_load rfl rfl rfl) rfl ?_
          refine Ops.pvg ⟨_, _, rfl, rfl, rfl⟩ (pv_geq rfl rfl) rfl ?_
          refine Ops.pv (pv_pick_true rfl rfl) rfl ?_
          refine Om1 rfl rfl ?_
          refine Ops.pvc rfl rfl (fun hg => pv_fieldAddr0 rfl rfl) rfl ?_
          refine Ops.pvc rfl rfl (fun hg => Pv.setE (t := 258) rfl (cv_pos hg) (pv_load rfl rfl rfl)) rfl ?_
          refine Ops.pvc rfl rfl (fun hg => Pv.setE (t := 258) rfl (cv_pos hg) (Pv.setE (t := 259) rfl (cv_pos hg) (pv_leq rfl rfl))) rfl ?_
          refine Ops.pv (pv_pick_and rfl rfl) rfl ?_
          refine Oa1 rfl rfl ?_
          refine Ops.nil ?_
          refine Ends.block_normal ?_
          refine Ends.seq ?_
          refine Wp.region ?_
          refine Om1 rfl rfl ?_
          refine Ops.pv (pv_add rfl rfl (w64n (k := i + 1) (by omega) (by omega))) rfl ?_
          refine Oa1 rfl rfl ?_
          refine Ops.nil ?_
          refine Ends.goes ?_
          refine Goes.back (hK (i + 1, decide (a7 ≥ -1 ∧ a7 ≤ 65534)) ⟨by dsimp only; omega, by first | exact leaf0 he hz5 (by assumption) | exact leaf1 he hz5 (by assumption) (by rw [hae]; simp only [fsT, okE, Fld.ok, and_true, true_and, decide_eq_true_eq, Bool.false_eq_true, false_iff]; omega)⟩ (by dsimp only; omega)) ⟨rfl, rfl, rfl, trivial⟩
         refine Os1 rfl rfl rfl rfl ?_
         refine Os1 rfl rfl rfl rfl ?_
         refine Os1 rfl rfl rfl rfl ?_
         refine Ops.pv (pv_pick_false rfl rfl) rfl ?_
         refine Om1 rfl rfl ?_
         refine Os1 rfl rfl rfl rfl ?_
         refine Os1 rfl rfl rfl rfl ?_
         refine Os1 rfl rfl rfl rfl ?_
         refine Ops.pv (pv_pick_false rfl rfl) rfl ?_
         refine Oa1 rfl rfl ?_
         refine Ops.nil ?_
         refine Ends.block_normal ?_
         refine Ends.seq ?_
         refine Wp.region ?_
         refine Om1 rfl rfl ?_
         refine Ops.pv (pv_add rfl rfl (w64n (k := i + 1) (by omega) (by omega))) rfl ?_
         refine Oa1 rfl rfl ?_
         refine Ops.nil ?_
         refine Ends.goes ?_
         refine Goes.back (hK (i + 1, false) ⟨by dsimp only; omega, by first | exact leaf0 he hz5 (by assumption) | exact leaf1 he hz5 (by assumption) (by rw [hae]; simp only [fsT, okE, Fld.ok, and_true, true_and, decide_eq_true_eq, Bool.false_eq_true, false_iff]; omega)⟩ (by dsimp only; omega)) ⟨rfl, rfl, rfl, trivial⟩
        refine Os1 rfl rfl rfl rfl ?_
        refine Os1 rfl rfl rfl rfl ?_
        refine Os1 rfl rfl rfl rfl ?_
        refine Ops.pv (pv_pick_false rfl rfl) rfl ?_
        refine Om1 rfl rfl ?_
        refine Os1 rfl rfl rfl rfl ?_
        refine Os1 rfl rfl rfl rfl ?_
        refine Os1 rfl rfl rfl rfl ?_
        refine Ops.pv (pv_pick_false rfl rfl) rfl ?_
        refine Om1 rfl rfl ?_
        refine Os1 rfl rfl rfl rfl ?_
        refine Os1 rfl rfl rfl rfl ?_
        refine Os1 rfl rfl rfl rfl ?_
        refine Ops.pv (pv_pick_false rfl rfl) rfl ?_
        refine Oa1 rfl rfl ?_
        refine Ops.nil ?_
        refine Ends.block_normal ?_
        refine Ends.seq ?_
        refine Wp.region ?_
        refine Om1 rfl rfl ?_
        refine Ops.pv (pv_add rfl rfl (w64n (k := i + 1) (by omega) (by omega))) rfl ?_
        refine Oa1 rfl rfl ?_
        refine Ops.nil ?_
        refine Ends.goes ?_
        refine Goes.back (hK (i + 1, false) ⟨by dsimp only; omega, by first | exact leaf0 he hz5 (by assumption) | exact leaf1 he hz5 (by assumption) (by rw [hae]; simp only [fsT, okE, Fld.ok, and_true, true_and, decide_eq_true_eq, Bool.false_eq_true, false_iff]; omega)⟩ (by dsimp only; omega)) ⟨rfl, rfl, rfl, trivial⟩
       refine Os1 rfl rfl rfl rfl ?_
       refine Os1 rfl rfl rfl rfl ?_
       refine Os1 rfl rfl rfl rfl ?_
       refine Ops.pv (pv_pick_false rfl rfl) rfl ?_
       refine Om1 rfl rfl ?_
       refine Os1 rfl rfl rfl rfl ?_
       refine Os1 rfl rfl rfl rfl ?_
       refine Os1 rfl rfl rfl rfl ?_
       refine Ops.pv (pv_pick_false rfl rfl) rfl ?_
       refine Om1 rfl rfl ?_
       refine Os1 rfl rfl rfl rfl ?_
       refine Os1 rfl rfl rfl rfl ?_
       refine Os1 rfl rfl rfl rfl ?_
       refine Ops.pv (pv_pick_false rfl rfl) rfl ?_
       refine Om1 rfl rfl ?_
       refine Os1 rfl rfl rfl rfl ?_
       refine Os1 rfl rfl rfl rfl ?_
       refine Os1 rfl rfl rfl rfl ?_
       refine Ops.pv (pv_pick_false rfl rfl) rfl ?_
       refine Oa1 rfl rfl ?_
       refine Ops.nil ?_
       refine Ends.block_normal ?_
       refine Ends.seq ?_
       refine Wp.region ?_
       refine Om1 rfl rfl ?_
       refine Ops.pv (pv_add rfl rfl (w64n (k := i + 1) (by omega) (by omega))) rfl ?_
       refine Oa1 rfl rfl ?_
       refine Ops.nil ?_
       refine Ends.goes ?_
       refine Goes.back (hK (i + 1, false) ⟨by dsimp only; omega, by first | exact leaf0 he hz5 (by assumption) | exact leaf1 he hz5 (by assumption) (by rw [hae]; simp only [fsT, okE, Fld.ok, and_true, true_and, decide_eq_true_eq, Bool.false_eq_true, false_iff]; omega)⟩ (by dsimp only; omega)) ⟨rfl, rfl, rfl, trivial⟩
      refine Os1 rfl rfl rfl rfl ?_
      refine Os1 rfl rfl rfl rfl ?_
      refine Os1 rfl rfl rfl rfl ?_
      refine Ops.pv (pv_pick_false rfl rfl) rfl ?_
      refine Om1 rfl rfl ?_
      refine Os1 rfl rfl rfl rfl ?_
      refine Os1 rfl rfl rfl rfl ?_
      refine Os1 rfl rfl rfl rfl ?_
      refine Ops.pv (pv_pick_false rfl rfl) rfl ?_
      refine Om1 rfl rfl ?_
      refine Os1 rfl rfl rfl rfl ?_
      refine Os1 rfl rfl rfl rfl ?_
      refine Os1 rfl rfl rfl rfl ?_
      refine Ops.pv (pv_pick_false rfl rfl) rfl ?_
      refine Om1 rfl rfl ?_
      refine Os1 rfl rfl rfl rfl ?_
      refine Os1 rfl rfl rfl rfl ?_
      refine Os1 rfl rfl rfl rfl ?_
      refine Ops.pv (pv_pick_false rfl rfl) rfl ?_
      refine Om1 rfl rfl ?_
      refine Os1 rfl rfl rfl rfl ?_
      refine Os1 rfl rfl rfl rfl ?_
      refine Os1 rfl rfl rfl rfl ?_
      refine Ops.pv (pv_pick_false rfl rfl) rfl ?_
      refine Oa1 rfl rfl ?_
      refine Ops.nil ?_
      refine Ends.block_normal ?_
      refine Ends.seq ?_
      refine Wp.region ?_
      refine Om1 rfl rfl ?_
      refine Ops.pv (pv_add rfl rfl (w64n (k := i + 1) (by omega) (by omega))) rfl ?_
      refine Oa1 rfl rfl ?_
      refine Ops.nil ?_
      refine Ends.goes ?_
      refine Goes.back (hK (i + 1, false) ⟨by dsimp only; omega, by first | exact leaf0 he hz5 (by assumption) | exact leaf1 he hz5 (by assumption) (by rw [hae]; simp only [fsT, okE, Fld.ok, and_true, true_and, decide_eq_true_eq, Bool.false_eq_true, false_iff]; omega)⟩ (by dsimp only; omega)) ⟨rfl, rfl, rfl, trivial⟩
     refine Os1 rfl rfl rfl rfl ?_
     refine Os1 rfl rfl rfl rfl ?_
     refine Os1 rfl rfl rfl rfl ?_
     refine Ops.pv (pv_pick_false rfl rfl) rfl ?_
     refine Om1 rfl rfl ?_
     refine Os1 rfl rfl rfl rfl ?_
     refine Os1 rfl rfl rfl rfl ?_
     refine Os1 rfl rfl rfl rfl ?_
     refine Ops.pv (pv_pick_false rfl rfl) rfl ?_
     refine Om1 rfl rfl ?_
     refine Os1 rfl rfl rfl rfl ?_
     refine Os1 rfl rfl rfl rfl ?_
     refine Os1 rfl rfl rfl rfl ?_
     refine Ops.pv (pv_pick_false rfl rfl) rfl ?_
     refine Om1 rfl rfl ?_
     refine Os1 rfl rfl rfl rfl ?_
     refine Os1 rfl rfl rfl rfl ?_
     refine Os1 rfl rfl rfl rfl ?_
     refine Ops.pv (pv_pick_false rfl rfl) rfl ?_
     refine Om1 rfl rfl ?_
     refine Os1 rfl rfl rfl rfl ?_
     refine Os1 rfl rfl rfl rfl ?_
     refine Os1 rfl rfl rfl rfl ?_
     refine Ops.pv (pv_pick_false rfl rfl) rfl ?_
     refine Om1 rfl rfl ?_
     refine Os1 rfl rfl rfl rfl ?_
     refine Os1 rfl rfl rfl rfl ?_
     refine Os1 rfl rfl rfl rfl ?_
     refine Ops.pv (pv_pick_false rfl rfl) rfl ?_
     refine Oa1 rfl rfl ?_
     refine Ops.nil ?_
     refine Ends.block_normal ?_
     refine Ends.seq ?_
     refine Wp.region ?_
     refine Om1 rfl rfl ?_
     refine Ops.pv (pv_add rfl rfl (w64n (k := i + 1) (by omega) (by omega))) rfl ?_
     refine Oa1 rfl rfl ?_
     refine Ops.nil ?_
     refine Ends.goes ?_
     refine Goes.back (hK (i + 1, false) ⟨by dsimp only; omega, by first | exact leaf0 he hz5 (by assumption) | exact leaf1 he hz5 (by assumption) (by rw [hae]; simp only [fsT, okE, Fld.ok, and_true, true_and, decide_eq_true_eq, Bool.false_eq_true, false_iff]; omega)⟩ (by dsimp only; omega)) ⟨rfl, rfl, rfl, trivial⟩
    refine Os1 rfl rfl rfl rfl ?_
    refine Os1 rfl rfl rfl rfl ?_
    refine Os1 rfl rfl rfl rfl ?_
    refine Ops.pv (pv_pick_false rfl rfl) rfl ?_
    refine Om1 rfl rfl ?_
    refine Os1 rfl rfl rfl rfl ?_
    refine Os1 rfl rfl rfl rfl ?_
    refine Os1 rfl rfl rfl rfl ?_
    refine Ops.pv (pv_pick_false rfl rfl) rfl ?_
    refine Om1 rfl rfl ?_
    refine Os1 rfl rfl rfl rfl ?_
    refine Os1 rfl rfl rfl rfl ?_
    refine Os1 rfl rfl rfl rfl ?_
    refine Ops.pv (pv_pick_false rfl rfl) rfl ?_
    refine Om1 rfl rfl ?_
    refine Os1 rfl rfl rfl rfl ?_
    refine Os1 rfl rfl rfl rfl ?_
    refine Os1 rfl rfl rfl rfl ?_
    refine Ops.pv (pv_pick_false rfl rfl) rfl ?_
    refine Om1 rfl rfl ?_
    refine Os1 rfl rfl rfl rfl ?_
    refine Os1 rfl rfl rfl rfl ?_
    refine Os1 rfl rfl rfl rfl ?_
    refine Ops.pv (pv_pick_false rfl rfl) rfl ?_
    refine Om1 rfl rfl ?_
    refine Os1 rfl rfl rfl rfl ?_
    refine Os1 rfl rfl rfl rfl ?_
    refine Os1 rfl rfl rfl rfl ?_
    refine Ops.pv (pv_pick_false rfl rfl) rfl ?_
    refine Om1 rfl rfl ?_
    refine Os1 rfl rfl rfl rfl ?_
    refine Os1 rfl rfl rfl rfl ?_
    refine Os1 rfl rfl rfl rfl ?_
    refine Ops.pv (pv_pick_false rfl rfl) rfl ?_
    refine Oa1 rfl rfl ?_
    refine Ops.nil ?_
    refine Ends.block_normal ?_
    refine Ends.seq ?_
    refine Wp.region ?_
    refine Om1 rfl rfl ?_
    refine Ops.pv (pv_add rfl rfl (w64n (k := i + 1) (by omega) (by omega))) rfl ?_
    refine Oa1 rfl rfl ?_
    refine Ops.nil ?_
    refine Ends.goes ?_
    refine Goes.back (hK (i + 1, false) ⟨by dsimp only; omega, by first | exact leaf0 he hz5 (by assumption) | exact leaf1 he hz5 (by assumption) (by rw [hae]; simp only [fsT, okE, Fld.ok, and_true, true_and, decide_eq_true_eq, Bool.false_eq_true, false_iff]; omega)⟩ (by dsimp only; omega)) ⟨rfl, rfl, rfl, trivial⟩
   refine Os1 rfl rfl rfl rfl ?_
   refine Os1 rfl rfl rfl rfl ?_
   refine Os1 rfl rfl rfl rfl ?_
   refine Ops.pv (pv_pick_false rfl rfl) rfl ?_
   refine Om1 rfl rfl ?_
   refine Os1 rfl rfl rfl rfl ?_
   refine Os1 rfl rfl rfl rfl ?_
   refine Os1 rfl rfl rfl rfl ?_
   refine Ops.pv (pv_pick_false rfl rfl) rfl ?_
   refine Om1 rfl rfl ?_
   refine Os1 rfl rfl rfl rfl ?_
   refine Os1 rfl rfl rfl rfl ?_
   refine Os1 rfl rfl rfl rfl ?_
   refine Ops.pv (pv_pick_false rfl rfl) rfl ?_
   refine Om1 rfl rfl ?_
   refine Os1 rfl rfl rfl rfl ?_
   refine Os1 rfl rfl rfl rfl ?_
   refine Os1 rfl rfl rfl rfl ?_
   refine Ops.pv (pv_pick_false rfl rfl) rfl ?_
   refine Om1 rfl rfl ?_
   refine Os1 rfl rfl rfl rfl ?_
   refine Os1 rfl rfl rfl rfl ?_
   refine Os1 rfl rfl rfl rfl ?_
   refine Ops.pv (pv_pick_false rfl rfl) rfl ?_
   refine Om1 rfl rfl ?_
   refine Os1 rfl rfl rfl rfl ?_
   refine Os1 rfl rfl rfl rfl ?_
   refine Os1 rfl rfl rfl rfl ?_
   refine Ops.pv (pv_pick_false rfl rfl) rfl ?_
   refine Om1 rfl rfl ?_
   refine Os1 rfl rfl rfl rfl ?_
   refine Os1 rfl rfl rfl rfl ?_
   refine Os1 rfl rfl rfl rfl ?_
   refine Ops.pv (pv_pick_false rfl rfl) rfl ?_
   refine Om1 rfl rfl ?_
   refine Os1 rfl rfl rfl rfl ?_
   refine Os1 rfl rfl rfl rfl ?_
   refine Os1 rfl rfl rfl rfl ?_
   refine Ops.pv (pv_pick_false rfl rfl) rfl ?_
   refine Oa1 rfl rfl ?_
   refine Ops.nil ?_
   refine Ends.block_normal ?_
   refine Ends.seq ?_
   refine Wp.region ?_
   refine Om1 rfl rfl ?_
   refine Ops.pv (pv_add rfl rfl (w64n (k := i + 1) (by omega) (by omega))) rfl ?_
   refine Oa1 rfl rfl ?_
   refine Ops.nil ?_
   refine Ends.goes ?_
   refine Goes.back (hK (i + 1, false) ⟨by dsimp only; omega, by first | exact leaf0 he hz5 (by assumption) | exact leaf1 he hz5 (by assumption) (by rw [hae]; simp only [fsT, okE, Fld.ok, and_true, true_and, decide_eq_true_eq, Bool.false_eq_true, false_iff]; omega)⟩ (by dsimp only; omega)) ⟨rfl, rfl, rfl, trivial⟩
  refine Os1 rfl rfl rfl rfl ?_
  refine Os1 rfl rfl rfl rfl ?_
  refine Os1 rfl rfl rfl rfl ?_
  refine Ops.pv (pv_pick_false rfl rfl) rfl ?_
  refine Om1 rfl rfl ?_
  refine Os1 rfl rfl rfl rfl ?_
  refine Os1 rfl rfl rfl rfl ?_
  refine Os1 rfl rfl rfl rfl ?_
  refine Ops.pv (pv_pick_false rfl rfl) rfl ?_
  refine Om1 rfl rfl ?_
  refine Os1 rfl rfl rfl rfl ?_
  refine Os1 rfl rfl rfl rfl ?_
  refine Os1 rfl rfl rfl rfl ?_
  refine Ops.pv (pv_pick_false rfl rfl) rfl ?_
  refine Om1 rfl rfl ?_
  refine Os1 rfl rfl rfl rfl ?_
  refine Os1 rfl rfl rfl rfl ?_
  refine Os1 rfl rfl rfl rfl ?_
  refine Ops.pv (pv_pick_false rfl rfl) rfl ?_
  refine Om1 rfl rfl ?_
  refine Os1 rfl rfl rfl rfl ?_
  refine Os1 rfl rfl rfl rfl ?_
  refine Os1 rfl rfl rfl rfl ?_
  refine Ops.pv (pv_pick_false rfl rfl) rfl ?_
  refine Om1 rfl rfl ?_
  refine Os1 rfl rfl rfl rfl ?_
  refine Os1 rfl rfl rfl rfl ?_
  refine Os1 rfl rfl rfl rfl ?_
  refine Ops.pv (pv_pick_false rfl rfl) rfl ?_
  refine Om1 rfl rfl ?_
  refine Os1 rfl rfl rfl rfl ?_
  refine Os1 rfl rfl rfl rfl ?_
  refine Os1 rfl rfl rfl rfl ?_
  refine Ops.pv (pv_pick_false rfl rfl) rfl ?_
  refine Om1 rfl rfl ?_
  refine Os1 rfl rfl rfl rfl ?_
  refine Os1 rfl rfl rfl rfl ?_
  refine Os1 rfl rfl rfl rfl ?_
  refine Ops.pv (pv_pick_false rfl rfl) rfl ?_
  refine Om1 rfl rfl ?_
  refine Os1 rfl rfl rfl rfl ?_
  refine Os1 rfl rfl rfl rfl ?_
  refine Os1 rfl rfl rfl rfl ?_
  refine Ops.pv (pv_pick_false rfl rfl) rfl ?_
  refine Oa1 rfl rfl ?_
  refine Ops.nil ?_
  refine Ends.block_normal ?_
  refine Ends.seq ?_
  refine Wp.region ?_
  refine Om1 rfl rfl ?_
  refine Ops.pv (pv_add rfl rfl (w64n (k := i + 1) (by omega) (by omega))) rfl ?_
  refine Oa1 rfl rfl ?_
  refine Ops.nil ?_
  refine Ends.goes ?_
  refine Goes.back (hK (i + 1, false) ⟨by dsimp only; omega, by first | exact leaf0 he hz5 (by assumption) | exact leaf1 he hz5 (by assumption) (by rw [hae]; simp only [fsT, okE, Fld.ok, and_true, true_and, decide_eq_true_eq, Bool.false_eq_true, false_iff]; omega)⟩ (by dsimp only; omega)) ⟨rfl, rfl, rfl, trivial⟩
 obtain rfl : i = D.t.length := by omega
 rw [List.take_length] at hz5
 refine Wp.exit ?_
 refine Ends.then_exit ?_
 refine Ends.then_exit ?_
 refine Ends.block_hit ?_
 refine Ends.seq ?_
 refine Wp.seq ?_
 refine Wr ?_
 refine Oa1 rfl rfl ?_
 refine On ?_
 refine Wp.block ?_
 refine Wp.loopK (σ := Nat × Bool) [(1, _)] (fun s => [(3, .bool s.2), (13, .int .i64 s.1)]) (fun s => (b1, .cells [.slice s1 D.o.length c1, .slice s2 D.p.length c2, .slice s3 D.m.length c3, .slice s4 D.f.length c4, .slice s5 D.t.length c5, .slice s6 D.w.length c6, .slice s7 D.s.length c7].toArray 30) :: (G ++ F)) (fun s => s.1 ≤ D.w.length ∧ (s.2 = true ↔ ((((((True) ∧ allOk fsO D.o) ∧ allOk fsP D.p) ∧ allOk fsM D.m) ∧ allOk fsF D.f) ∧ allOk fsT D.t) ∧ allOk fsW (D.w.take s.1))) (fun s => D.w.length - s.1) (0, z5) ⟨Nat.zero_le _, by rw [hz5]; simp [allOk_nil]⟩ ⟨rfl, trivial⟩ ⟨rfl, rfl, trivial⟩ (by intro w ho; (try dsimp only [List.nil_append, List.cons_append]); exact Drop.own ho) ?_
 rintro ⟨i, z6⟩ KK ⟨hi, hz6⟩ hK
 dsimp only [List.cons_append, List.nil_append] at hK ⊢
 dsimp only at hi hz6 ⊢
 refine Wp.seq ?_
 refine Wr ?_
 refine Om1 rfl rfl ?_
 refine Of1 rfl rfl rfl ?_
 refine Ol1 rfl rfl rfl rfl ?_
 refine Ops.pv (pv_len_slice (T := 27) rfl rfl) rfl ?_
 refine Ops.pv (pv_lss rfl rfl) rfl ?_
 refine On ?_
 refine Wp.cond_dect rfl (fun h30 => ?_) (fun h30 => ?_)
 ·
  obtain ⟨e, he⟩ : ∃ e, D.w[i]? = some e := ⟨_, List.getElem?_eq_getElem (by omega)⟩
  obtain ⟨eb, eo, cc, TT, fz, cap, hva, hbm, hx⟩ := da_el hs.w he
  cases hva
  have hbg : Blk G eb (.cells cc.toArray TT fz) := ⟨hbm⟩
  obtain ⟨a0, a1, a2, a3, hae⟩ := El.four rfl e
  rw [cE, hae] at hx
  refine Wp.skip ?_
  refine Ends.seq ?_
  refine Wp.seq ?_
  refine Wp.block ?_
  refine Wr ?_
  refine Of1 rfl rfl rfl ?_
  refine Ol1 rfl rfl rfl rfl ?_
  refine Om1 rfl rfl ?_
  refine Ops.pv (pv_indexAddr (i := i) rfl rfl rfl (by omega)) rfl ?_
  refine Ops.pv (pv_loadK [.int .i64 a0, .int .i64 a1, .int .i64 a2, .int .u64 a3] rfl rfl rfl hx.reads) rfl ?_
  refine Ops.ef rfl (ef_allocK tyZ73 rfl) ?_
  rintro _ _ ⟨b6, rfl, rfl⟩
  refine Ops.ef rfl (ef_storeK rfl rfl rfl rfl) ?_
  rintro _ _ ⟨rfl, rfl⟩
  refine On ?_
  refine Wp.region ?_
  refine Om1 rfl rfl ?_
  refine Om1 rfl rfl ?_
  refine Ops.splitb (t := 275) rfl (fun h31 => ?_) (fun h31 => ?_)
  ·
   refine Ops.pvg ⟨_, _, rfl, rfl, rfl⟩ (pv_fieldAddr0 rfl rfl) rfl ?_
   refine Ops.pvg ⟨_, _, rfl, rfl, rfl⟩ (pv_load rfl rfl rfl) rfl ?_
   refine Ops.efg ⟨_, _, rfl, rfl, rfl⟩ (ef_callr (tr_in _) rfl rfl) ?_
   rintro _ _ ⟨rfl, rfl⟩
   refine Ops.pv (pv_pick_true rfl rfl) rfl ?_
   refine Om1 rfl rfl ?_
   refine Ops.split (t := 280) rfl (fun h32 => ?_) (fun h32 => ?_)
   ·
    refine Ops.pvg ⟨_, _, rfl, rfl, rfl⟩ (pv_fieldAddr0 rfl rfl) rfl ?_
    refine Ops.pvg ⟨_, _, rfl, rfl, rfl⟩ (pv_load rfl rfl rfl) rfl ?_
    refine Ops.efg ⟨_, _, rfl, rfl, rfl⟩ (ef_callr (tr_in _) rfl rfl) ?_
    rintro _ _ ⟨rfl, rfl⟩
    refine Ops.pv (pv_pick_true rfl rfl) rfl ?_
    refine Om1 rfl rfl ?_
    refine Ops.split (t := 285) rfl (fun h33 => ?_) (fun h33 => ?_)
    ·
     refine Ops.pvg ⟨_, _, rfl, rfl, rfl⟩ (pv_fieldAddr0 rfl rfl) rfl ?_
     refine Ops.pvg ⟨_, _, rfl, rfl, rfl⟩ (pv_load rfl rfl rfl) rfl ?_
     refine Ops.efg ⟨_, _, rfl, rfl, rfl⟩ (ef_callr (tr_in _) rfl rfl) ?_
     rintro _ _ ⟨rfl, rfl⟩
     refine Ops.pv (pv_pick_true rfl rfl) rfl ?_
     refine Om1 rfl rfl ?_
     refine Ops.split (t := 290) rfl (fun h34 => ?_) (fun h34 => ?_)
     ·
      refine Ops.pvg ⟨_, _, rfl, rfl, rfl⟩ (pv_fieldAddr0 rfl rfl) rfl ?_
      refine Ops.pvg ⟨_, _, rfl, rfl, rfl⟩ (pv_load rfl rfl rfl) rfl ?_
      refine Ops.pvg ⟨_, _, rfl, rfl, rfl⟩ (pv_lss rfl rfl) rfl ?_
      refine Ops.pv (pv_pick_true rfl rfl) rfl ?_
      refine Oa1 rfl rfl ?_
      refine Ops.nil ?_
      refine Ends.block_normal ?_
      refine Ends.seq ?_
      refine Wp.region ?_
      refine Om1 rfl rfl ?_
      refine Ops.pv (pv_add rfl rfl (w64n (k := i + 1) (by omega) (by omega))) rfl ?_
      refine Oa1 rfl rfl ?_
      refine Ops.nil ?_
      refine Ends.goes ?_
      refine Goes.back (hK (i + 1, decide (a3 < 4294967296)) ⟨by dsimp only; omega, by first | exact leaf0 he hz6 (by assumption) | exact leaf1 he hz6 (by assumption) (by rw [hae]; simp only [fsW, okE, Fld.ok, and_true, true_and, decide_eq_true_eq, Bool.false_eq_true, false_iff]; omega)⟩ (by dsimp only; omega)) ⟨rfl, rfl, rfl, trivial⟩
     refine Os1 rfl rfl rfl rfl ?_
     refine Os1 rfl rfl rfl rfl ?_
     refine Os1 rfl rfl rfl rfl ?_
     refine Ops.pv (pv_pick_false rfl rfl) rfl ?_
     refine Oa1 rfl rfl ?_
     refine Ops.nil ?_
     refine Ends.block_normal ?_
     refine Ends.seq ?_
     refine Wp.region ?_
     refine Om1 rfl rfl ?_
     refine Ops.pv (pv_add rfl rfl (w64n (k := i + 1) (by omega) (by omega))) rfl ?_
     refine Oa1 rfl rfl ?_
     refine Ops.nil ?_
     refine Ends.goes ?_
     refine Goes.back (hK (i + 1, false) ⟨by dsimp only; omega, by first | exact leaf0 he hz6 (by assumption) | exact leaf1 he hz6 (by assumption) (by rw [hae]; simp only [fsW, okE, Fld.ok, and_true, true_and, decide_eq_true_eq, Bool.false_eq_true, false_iff]; omega)⟩ (by dsimp only; omega)) ⟨rfl, rfl, rfl, trivial⟩
    refine Os1 rfl rfl rfl rfl ?_
    refine Os1 rfl rfl rfl rfl ?_
    refine Os1 rfl rfl rfl rfl ?_
    refine Ops.pv (pv_pick_false rfl rfl) rfl ?_
    refine Om1 rfl rfl ?_
    refine Os1 rfl rfl rfl rfl ?_
    refine Os1 rfl rfl rfl rfl ?_
    refine Os1 rfl rfl rfl rfl ?_
    refine Ops.pv (pv_pick_false rfl rfl) rfl ?_
    refine Oa1 rfl rfl ?_
    refine Ops.nil ?_
    refine Ends.block_normal ?_
    refine Ends.seq ?_
    refine Wp.region ?_
    refine Om1 rfl rfl ?_
    refine Ops.pv (pv_add rfl rfl (w64n (k := i + 1) (by omega) (by omega))) rfl ?_
    refine Oa1 rfl rfl ?_
    refine Ops.nil ?_
    refine Ends.goes ?_
    refine Goes.back (hK (i + 1, false) ⟨by dsimp only; omega, by first | exact leaf0 he hz6 (by assumption) | exact leaf1 he hz6 (by assumption) (by rw [hae]; simp only [fsW, okE, Fld.ok, and_true, true_and, decide_eq_true_eq, Bool.false_eq_true, false_iff]; omega)⟩ (by dsimp only; omega)) ⟨rfl, rfl, rfl, trivial⟩
   refine Os1 rfl rfl rfl rfl ?_
   refine Os1 rfl rfl rfl rfl ?_
   refine Os1 rfl rfl rfl rfl ?_
   refine Ops.pv (pv_pick_false rfl rfl) rfl ?_
   refine Om1 rfl rfl ?_
   refine Os1 rfl rfl rfl rfl ?_
   refine Os1 rfl rfl rfl rfl ?_
   refine Os1 rfl rfl rfl rfl ?_
   refine Ops.pv (pv_pick_false rfl rfl) rfl ?_
   refine Om1 rfl rfl ?_
   refine Os1 rfl rfl rfl rfl ?_
   refine Os1 rfl rfl rfl rfl ?_
   refine Os1 rfl rfl rfl rfl ?_
   refine Ops.pv (pv_pick_false rfl rfl) rfl ?_
   refine Oa1 rfl rfl ?_
   refine Ops.nil ?_
   refine Ends.block_normal ?_
   refine Ends.seq ?_
   refine Wp.region ?_
   refine Om1 rfl rfl ?_
   refine Ops.pv (pv_add rfl rfl (w64n (k := i + 1) (by omega) (by omega))) rfl ?_
   refine Oa1 rfl rfl ?_
   refine Ops.nil ?_
   refine Ends.goes ?_
   refine Goes.back (hK (i + 1, false) ⟨by dsimp only; omega, by first | exact leaf0 he hz6 (by assumption) | exact leaf1 he hz6 (by assumption) (by rw [hae]; simp only [fsW, okE, Fld.ok, and_true, true_and, decide_eq_true_eq, Bool.false_eq_true, false_iff]; omega)⟩ (by dsimp only; omega)) ⟨rfl, rfl, rfl, trivial⟩
  refine Os1 rfl rfl rfl rfl ?_
  refine Os1 rfl rfl rfl rfl ?_
  refine Os1 rfl rfl rfl rfl ?_
  refine Ops.pv (pv_pick_false rfl rfl) rfl ?_
  refine Om1 rfl rfl ?_
  refine Os1 rfl rfl rfl rfl ?_
  refine Os1 rfl rfl rfl rfl ?_
  refine Os1 rfl rfl rfl rfl ?_
  refine Ops.pv (pv_pick_false rfl rfl) rfl ?_
  refine Om1 rfl rfl ?_
  refine Os1 rfl rfl rfl rfl ?_
  refine Os1 rfl rfl rfl rfl ?_
  refine Os1 rfl rfl rfl rfl ?_
  refine Ops.pv (pv_pick_false rfl rfl) rfl ?_
  refine Om1 rfl rfl ?_
  refine Os1 rfl rfl rfl rfl ?_
  refine Os1 rfl rfl rfl rfl ?_
  refine Os1 rfl rfl rfl rfl ?_
  refine Ops.pv (pv_pick_false rfl rfl) rfl ?_
  refine Oa1 rfl rfl ?_
  refine Ops.nil ?_
  refine Ends.block_normal ?_
  refine Ends.seq ?_
  refine Wp.region ?_
  refine Om1 rfl rfl ?_
  refine Ops.pv (pv_add rfl rfl (w64n (k := i + 1) (by omega) (by omega))) rfl ?_
  refine Oa1 rfl rfl ?_
  refine Ops.nil ?_
  refine Ends.goes ?_
  refine Goes.back (hK (i + 1, false) ⟨by dsimp only; omega, by first | exact leaf0 he hz6 (by assumption) | exact leaf1 he hz6 (by assumption) (by rw [hae]; simp only [fsW, okE, Fld.ok, and_true, true_and, decide_eq_true_eq, Bool.false_eq_true, false_iff]; omega)⟩ (by dsimp only; omega)) ⟨rfl, rfl, rfl, trivial⟩
 obtain rfl : i = D.w.length := by omega
 rw [List.take_length] at hz6
 refine Wp.exit ?_
 refine Ends.then_exit ?_
 refine Ends.then_exit ?_
 refine Ends.block_hit ?_
 refine Ends.seq ?_
 refine Wp.seq ?_
 refine Wr ?_
 refine Oa1 rfl rfl ?_
 refine On ?_
 refine Wp.block ?_
 refine Wp.loopK (σ := Nat × Bool) [(1, _)] (fun s => [(3, .bool s.2), (15, .int .i64 s.1)]) (fun s => (b1, .cells [.slice s1 D.o.length c1, .slice s2 D.p.length c2, .slice s3 D.m.length c3, .slice s4 D.f.length c4, .slice s5 D.t.length c5, .slice s6 D.w.length c6, .slice s7 D.s.length c7].toArray 30) :: (G ++ F)) (fun s => s.1 ≤ D.s.length ∧ (s.2 = true ↔ (((((((True) ∧ allOk fsO D.o) ∧ allOk fsP D.p) ∧ allOk fsM D.m) ∧ allOk fsF D.f) ∧ allOk fsT D.t) ∧ allOk fsW D.w) ∧ allOk fsS (D.s.take s.1))) (fun s => D.s.length - s.1) (0, z6) ⟨Nat.zero_le _, by rw [hz6]; simp [allOk_nil]⟩ ⟨rfl, trivial⟩ ⟨rfl, rfl, trivial⟩ (by intro w ho; (try dsimp only [List.nil_append, List.cons_append]); exact Drop.own ho) ?_
 rintro ⟨i, z7⟩ KK ⟨hi, hz7⟩ hK
 dsimp only [List.cons_append, List.nil_append] at hK ⊢
 dsimp only at hi hz7 ⊢
 refine Wp.seq ?_
 refine Wr ?_
 refine Om1 rfl rfl ?_
 refine Of1 rfl rfl rfl ?_
 refine Ol1 rfl rfl rfl rfl ?_
 refine Ops.pv (pv_len_slice (T := 28) rfl rfl) rfl ?_
 refine Ops.pv (pv_lss rfl rfl) rfl ?_
 refine On ?_
 refine Wp.cond_dect rfl (fun h35 => ?_) (fun h35 => ?_)
 ·
  obtain ⟨e, he⟩ : ∃ e, D.s[i]? = some e := ⟨_, List.getElem?_eq_getElem (by omega)⟩
  obtain ⟨eb, eo, cc, TT, fz, cap, hva, hbm, hx⟩ := da_el hs.s he
  cases hva
  have hbg : Blk G eb (.cells cc.toArray TT fz) := ⟨hbm⟩
  obtain ⟨a0, a1, hae⟩ := El.two rfl e
  rw [cE, hae] at hx
  refine Wp.skip ?_
  refine Ends.seq ?_
  refine Wp.seq ?_
  refine Wp.block ?_
  refine Wp.region ?_
  refine Om1 rfl rfl ?_
  refine Om1 rfl rfl ?_
  refine Ops.splitb (t := 303) rfl (fun h36 => ?_) (fun h36 => ?_)
  ·
   refine Ops.pvg ⟨_, _, rfl, rfl, rfl⟩ (pv_fieldAddr0 rfl rfl) rfl ?_
   refine Ops.pvg ⟨_, _, rfl, rfl, rfl⟩ (pv_load rfl rfl rfl) rfl ?_
   refine Ops.pvg ⟨_, _, rfl, rfl, rfl⟩ (pv_move rfl) rfl ?_
   refine Ops.pvg ⟨_, _, rfl, rfl, rfl⟩ (pv_indexAddr (i := i) rfl rfl rfl (by omega)) rfl ?_
   refine Ops.pvg ⟨_, _, rfl, rfl, rfl⟩ (pv_fieldAddr rfl rfl) rfl ?_
   refine Ops.pvg ⟨_, _, rfl, rfl, rfl⟩ (pv_load rfl rfl (hx.at_ (v := .int .i64 a0) 0 rfl)) rfl ?_
   refine Ops.efg ⟨_, _, rfl, rfl, rfl⟩ (ef_callr (tr_in _) rfl rfl) ?_
   rintro _ _ ⟨rfl, rfl⟩
   refine Ops.pv (pv_pick_true rfl rfl) rfl ?_
   refine Om1 rfl rfl ?_
   refine Ops.split (t := 312) rfl (fun h37 => ?_) (fun h37 => ?_)
   ·
    refine Ops.pvg ⟨_, _, rfl, rfl, rfl⟩ (pv_fieldAddr0 rfl rfl) rfl ?_
    refine Ops.pvg ⟨_, _, rfl, rfl, rfl⟩ (pv_load rfl rfl rfl) rfl ?_
    refine Ops.pvg ⟨_, _, rfl, rfl, rfl⟩ (pv_move rfl) rfl ?_
    refine Ops.pvg ⟨_, _, rfl, rfl, rfl⟩ (pv_indexAddr (i := i) rfl rfl rfl (by omega)) rfl ?_
    refine Ops.pvg ⟨_, _, rfl, rfl, rfl⟩ (pv_fieldAddr rfl rfl) rfl ?_
    refine Ops.pvg ⟨_, _, rfl, rfl, rfl⟩ (pv_load rfl rfl (hx.at_ (v := .int .i64 a1) 1 rfl)) rfl ?_
    refine Ops.efg ⟨_, _, rfl, rfl, rfl⟩ (ef_callr (tr_in _) rfl rfl) ?_
    rintro _ _ ⟨rfl, rfl⟩
    refine Ops.pv (pv_pick_true rfl rfl) rfl ?_
    refine Oa1 rfl rfl ?_
    refine Ops.nil ?_
    refine Ends.block_normal ?_
    refine Ends.seq ?_
    refine Wp.region ?_
    refine Om1 rfl rfl ?_
    refine Ops.pv (pv_add rfl rfl (w64n (k := i + 1) (by omega) (by omega))) rfl ?_
    refine Oa1 rfl rfl ?_
    refine Ops.nil ?_
    refine Ends.goes ?_
    refine Goes.back (hK (i + 1, decide (a1 ≥ 0 ∧ a1 ≤ 65535)) ⟨by dsimp only; omega, by first | exact leaf0 he hz7 (by assumption) | exact leaf1 he hz7 (by assumption) (by rw [hae]; simp only [fsS, okE, Fld.ok, and_true, true_and, decide_eq_true_eq, Bool.false_eq_true, false_iff]; omega)⟩ (by dsimp only; omega)) ⟨rfl, rfl, rfl, trivial⟩
   refine Os1 rfl rfl rfl rfl ?_
   refine Os1 rfl rfl rfl rfl ?_
   refine Os1 rfl rfl rfl rfl ?_
   refine Os1 rfl rfl rfl rfl ?_
   refine Os1 rfl rfl rfl rfl ?_
   refine Os1 rfl rfl rfl rfl ?_
   refine Os1 rfl rfl rfl rfl ?_
   refine Ops.pv (pv_pick_false rfl rfl) rfl ?_
   refine Oa1 rfl rfl ?_
   refine Ops.nil ?_
   refine Ends.block_normal ?_
   refine Ends.seq ?_
   refine Wp.region ?_
   refine Om1 rfl rfl ?_
   refine Ops.pv (pv_add rfl rfl (w64n (k := i + 1) (by omega) (by omega))) rfl ?_
   refine Oa1 rfl rfl ?_
   refine Ops.nil ?_
   refine Ends.goes ?_
   refine Goes.back (hK (i + 1, false) ⟨by dsimp only; omega, by first | exact leaf0 he hz7 (by assumption) | exact leaf1 he hz7 (by assumption) (by rw [hae]; simp only [fsS, okE, Fld.ok, and_true, true_and, decide_eq_true_eq, Bool.false_eq_true, false_iff]; omega)⟩ (by dsimp only; omega)) ⟨rfl, rfl, rfl, trivial⟩
  refine Os1 rfl rfl rfl rfl ?_
  refine Os1 rfl rfl rfl rfl ?_
  refine Os1 rfl rfl rfl rfl ?_
  refine Os1 rfl rfl rfl rfl ?_
  refine Os1 rfl rfl rfl rfl ?_
  refine Os1 rfl rfl rfl rfl ?_
  refine Os1 rfl rfl rfl rfl ?_
  refine Ops.pv (pv_pick_false rfl rfl) rfl ?_
  refine Om1 rfl rfl ?_
  refine Os1 rfl rfl rfl rfl ?_
  refine Os1 rfl rfl rfl rfl ?_
  refine Os1 rfl rfl rfl rfl ?_
  refine Os1 rfl rfl rfl rfl ?_
  refine Os1 rfl rfl rfl rfl ?_
  refine Os1 rfl rfl rfl rfl ?_
  refine Os1 rfl rfl rfl rfl ?_
  refine Ops.pv (pv_pick_false rfl rfl) rfl ?_
  refine Oa1 rfl rfl ?_
  refine Ops.nil ?_
  refine Ends.block_normal ?_
  refine Ends.seq ?_
  refine Wp.region ?_
  refine Om1 rfl rfl ?_
  refine Ops.pv (pv_add rfl rfl (w64n (k := i + 1) (by omega) (by omega))) rfl ?_
  refine Oa1 rfl rfl ?_
  refine Ops.nil ?_
  refine Ends.goes ?_
  refine Goes.back (hK (i + 1, false) ⟨by dsimp only; omega, by first | exact leaf0 he hz7 (by assumption) | exact leaf1 he hz7 (by assumption) (by rw [hae]; simp only [fsS, okE, Fld.ok, and_true, true_and, decide_eq_true_eq, Bool.false_eq_true, false_iff]; omega)⟩ (by dsimp only; omega)) ⟨rfl, rfl, rfl, trivial⟩
 obtain rfl : i = D.s.length := by omega
 rw [List.take_length] at hz7
 refine Wp.exit ?_
 refine Ends.then_exit ?_
 refine Ends.then_exit ?_
 refine Ends.block_hit ?_
 refine Ends.seq ?_
 refine Wr ?_
 refine Om1 rfl rfl ?_
 refine Oa1 rfl rfl ?_
 refine On ?_
 refine Wp.ret ?_
 have hd : decide (okD D) = z7 := by
  rw [Bool.eq_iff_iff, decide_eq_true_eq, hz7]
  unfold okD okL
  constructor
  ·
   rintro ⟨⟨_, q1⟩, ⟨_, q2⟩, ⟨_, q3⟩, ⟨_, q4⟩, ⟨_, q5⟩, ⟨_, q6⟩, _, q7⟩
   exact ⟨⟨⟨⟨⟨⟨⟨trivial, q1⟩, q2⟩, q3⟩, q4⟩, q5⟩, q6⟩, q7⟩
  ·
   rintro ⟨⟨⟨⟨⟨⟨⟨_, q1⟩, q2⟩, q3⟩, q4⟩, q5⟩, q6⟩, q7⟩
   exact ⟨⟨by omega, q1⟩, ⟨by omega, q2⟩, ⟨by omega, q3⟩, ⟨by omega, q4⟩, ⟨by omega, q5⟩, ⟨by omega, q6⟩, by omega, q7⟩
 rw [hd]
 exact Ends.ret (res1 rfl rfl) ⟨rfl, rfl⟩
end Go.Proofs.Ytkldjadpoknejaa
end
section
set_option linter.unusedVariables false
set_option linter.unusedSimpArgs false
set_option linter.unusedSectionVars false
namespace Go.Proofs.Ytkldjadpoknejaa
open Go.SL
set_option maxHeartbeats 16000000 in
theorem tr_rencode (G : Hp) (D : Dd) (v1 v2 v3 v4 v5 v6 v7 : Value) (hs : DA G D v1 v2 v3 v4 v5 v6 v7) (hlo : D.o.length ≤ 2 ^ 20) (hlp : D.p.length ≤ 2 ^ 20) (hlm : D.m.length ≤ 2 ^ 20) (hlf : D.f.length ≤ 2 ^ 20) (hlt : D.t.length ≤ 2 ^ 20) (hlw : D.w.length ≤ 2 ^ 20) (hls : D.s.length ≤ 2 ^ 20) : TrR Try.prog 7 [.agg #[v1, v2, v3, v4, v5, v6, v7]] (G) (.tuple #[sV (encV D).1, .int .i64 (encV D).2]) := by
 obtain ⟨s1, c1, rfl⟩ := hs.o.form
 obtain ⟨s2, c2, rfl⟩ := hs.p.form
 obtain ⟨s3, c3, rfl⟩ := hs.m.form
 obtain ⟨s4, c4, rfl⟩ := hs.f.form
 obtain ⟨s5, c5, rfl⟩ := hs.t.form
 obtain ⟨s6, c6, rfl⟩ := hs.w.form
 obtain ⟨s7, c7, rfl⟩ := hs.s.form
 refine Tr.enter Try.func7 rfl Try.ntmps7 rfl (fun W F => ?_)
 refine Wp.app ?_
 refine Wr ?_
 refine Ops.ef rfl (ef_boxK rfl rfl) ?_
 rintro _ _ ⟨b1, rfl, rfl⟩
 refine Oa1 rfl rfl ?_
 refine Oa1 rfl rfl ?_
 refine On ?_
 refine Wp.seq ?_
 refine Wr ?_
 refine Ops.pv (pv_loadK [_, _, _, _, _, _, _] rfl rfl rfl ⟨rfl, rfl, rfl, rfl, rfl, rfl, rfl, trivial⟩) rfl ?_
 refine Ops.ef rfl (ef_callr (tr_right G D _ _ _ _ _ _ _ hs hlo hlp hlm hlf hlt hlw hls) rfl rfl) ?_
 rintro _ _ ⟨rfl, rfl⟩
 refine Ops.pv (pv_not rfl) rfl ?_
 refine On ?_
 refine Wp.cond_t rfl (fun h1 => ?_) (fun h1 => ?_)
 ·
  have hno : ¬ okD D := by simpa using h1
  refine Wr ?_
  refine Oa1 rfl rfl ?_
  refine Oa1 rfl rfl ?_
  refine On ?_
  refine Wp.ret ?_
  refine Ends.then_ret ?_
  rw [encV, if_neg hno]
  exact Ends.ret (res2 rfl rfl rfl) ⟨rfl, rfl⟩
 have hok : okD D := by simpa using h1
 obtain ⟨⟨m1, _⟩, ⟨m2, _⟩, ⟨m3, _⟩, ⟨m4, _⟩, ⟨m5, _⟩, ⟨m6, _⟩, m7, _⟩ := id hok
 refine Wp.skip ?_
 refine Ends.seq ?_
 refine Wr ?_
 refine Of1 rfl rfl rfl ?_
 refine Ol1 rfl rfl rfl rfl ?_
 refine Ops.pv (pv_len_slice (T := 22) rfl rfl) rfl ?_
 refine Ops.ef rfl (ef_callr (tr_two _) rfl rfl) ?_
 rintro _ _ ⟨rfl, rfl⟩
 refine Ops.pv (pv_str_add rfl rfl (by simp only [List.length_append, leB_len, List.length_cons, List.length_nil]; omega)) rfl ?_
 refine Oa1 rfl rfl ?_
 refine On ?_
 refine Wp.seq ?_
 refine Wr ?_
 refine Oa1 rfl rfl ?_
 refine On ?_
 refine Wp.block ?_
 refine Wp.loopK (σ := Nat × List UInt8) [(1, _)] (fun s => [(4, sV s.2), (5, .int .i64 s.1)]) (fun s => (b1, .cells [.slice s1 D.o.length c1, .slice s2 D.p.length c2, .slice s3 D.m.length c3, .slice s4 D.f.length c4, .slice s5 D.t.length c5, .slice s6 D.w.length c6, .slice s7 D.s.length c7].toArray 30) :: (G ++ F)) (fun s => s.1 ≤ D.o.length ∧ s.2 = ([67, 68] ++ leB 2 (uI (D.o.length : Int))) ++ encI fsO (D.o.take s.1) ∧ s.2.length = 4 + s.1 * 6) (fun s => D.o.length - s.1) (0, ([67, 68] ++ leB 2 (uI (D.o.length : Int)))) ⟨Nat.zero_le _, by simp [encI], by simp only [List.length_append, leB_len, List.length_cons, List.length_nil]; (try omega)⟩ ⟨rfl, trivial⟩ ⟨rfl, rfl, trivial⟩ (by intro w ho; (try dsimp only [List.nil_append, List.cons_append]); exact Drop.own ho) ?_
 rintro ⟨i, y1⟩ KK ⟨hi, hy1, hl1⟩ hK
 dsimp only [List.cons_append, List.nil_append] at hK ⊢
 dsimp only at hi hy1 hl1 ⊢
 refine Wp.seq ?_
 refine Wr ?_
 refine Om1 rfl rfl ?_
 refine Of1 rfl rfl rfl ?_
 refine Ol1 rfl rfl rfl rfl ?_
 refine Ops.pv (pv_len_slice (T := 22) rfl rfl) rfl ?_
 refine Ops.pv (pv_lss rfl rfl) rfl ?_
 refine On ?_
 refine Wp.cond_dect rfl (fun h2 => ?_) (fun h2 => ?_)
 ·
  obtain ⟨e, he⟩ : ∃ e, D.o[i]? = some e := ⟨_, List.getElem?_eq_getElem (by omega)⟩
  obtain ⟨eb, eo, cc, TT, fz, cap, hva, hbm, hx⟩ := da_el hs.o he
  cases hva
  have hbg : Blk G eb (.cells cc.toArray TT fz) := ⟨hbm⟩
  obtain ⟨a0, a1, a2, hae⟩ := El.three rfl e
  rw [cE, hae] at hx
  refine Wp.skip ?_
  refine Ends.seq ?_
  refine Wp.seq ?_
  refine Wp.block ?_
  refine Wr ?_
  refine Of1 rfl rfl rfl ?_
  refine Ol1 rfl rfl rfl rfl ?_
  refine Om1 rfl rfl ?_
  refine Ops.pv (pv_indexAddr (i := i) rfl rfl rfl (by omega)) rfl ?_
  refine Ops.pv (pv_loadK [.int .i64 a0, .int .i64 a1, .int .i64 a2] rfl rfl rfl hx.reads) rfl ?_
  refine Ops.ef rfl (ef_allocK tyZ53 rfl) ?_
  rintro _ _ ⟨b2, rfl, rfl⟩
  refine Ops.ef rfl (ef_storeK rfl rfl rfl rfl) ?_
  rintro _ _ ⟨rfl, rfl⟩
  refine On ?_
  refine AnyH.start ([(b2, .cells [.int .i64 a0, .int .i64 a1, .int .i64 a2].toArray 53)] : Hp) 14 rfl ?_
  refine Tk 0 rfl rfl (pv_move rfl) rfl ?_
  refine Tk 1 rfl rfl (pv_fieldAddr0 rfl rfl) rfl ?_
  refine Tk 2 rfl rfl (pv_load rfl rfl rfl) rfl ?_
  refine Tk 5 rfl rfl (pv_fieldAddr0 rfl rfl) rfl ?_
  refine Tk 6 rfl rfl (pv_load rfl rfl rfl) rfl ?_
  refine Tk 9 rfl rfl (pv_fieldAddr0 rfl rfl) rfl ?_
  refine Tk 10 rfl rfl (pv_load rfl rfl rfl) rfl ?_
  refine AnyH.one 3 (by kernel_rfl) ?_
  refine Turn.ef rfl rfl (ef_callr (tr_two _) rfl rfl) ?_ ?_
  ·
   rintro _ _ ⟨rfl, rfl⟩; infer_instance
  rintro _ _ ⟨rfl, rfl⟩
  refine Tk 4 rfl rfl (pv_str_add rfl rfl (by simp only [List.length_append, leB_len, List.length_cons, List.length_nil]; omega)) rfl ?_
  refine AnyH.one 7 (by kernel_rfl) ?_
  refine Turn.ef rfl rfl (ef_callr (tr_two _) rfl rfl) ?_ ?_
  ·
   rintro _ _ ⟨rfl, rfl⟩; infer_instance
  rintro _ _ ⟨rfl, rfl⟩
  refine Tk 8 rfl rfl (pv_str_add rfl rfl (by simp only [List.length_append, leB_len, List.length_cons, List.length_nil]; omega)) rfl ?_
  refine AnyH.one 11 (by kernel_rfl) ?_
  refine Turn.ef rfl rfl (ef_callr (tr_two _) rfl rfl) ?_ ?_
  ·
   rintro _ _ ⟨rfl, rfl⟩; infer_instance
  rintro _ _ ⟨rfl, rfl⟩
  refine Tk 12 rfl rfl (pv_str_add rfl rfl (by simp only [List.length_append, leB_len, List.length_cons, List.length_nil]; omega)) rfl ?_
  refine Tk 13 rfl rfl (pv_assign rfl) rfl ?_
  refine AnyH.done (by kernel_rfl) ?_
  refine Ends.block_normal ?_
  refine Ends.seq ?_
  refine Wp.region ?_
  refine Om1 rfl rfl ?_
  refine Ops.pv (pv_add rfl rfl (w64n (k := i + 1) (by omega) (by omega))) rfl ?_
  refine Oa1 rfl rfl ?_
  refine Ops.nil ?_
  refine Ends.goes ?_
  refine Goes.back (hK (i + 1, (((y1 ++ leB 2 (uI a0)) ++ leB 2 (uI a1)) ++ leB 2 (uI a2))) ⟨by dsimp only; omega, by dsimp only; rw [encI_take he, hy1, hae, show encE fsO _ = leB 2 (uI a0) ++ (leB 2 (uI a1) ++ (leB 2 (uI a2) ++ ([]))) from rfl]; simp only [List.append_assoc, List.append_nil, List.cons_append, List.nil_append], by dsimp only; simp only [List.length_append, leB_len, hl1]; omega⟩ (by dsimp only; omega)) ⟨rfl, rfl, rfl, trivial⟩
 obtain rfl : i = D.o.length := by omega
 rw [List.take_length] at hy1
 refine Wp.exit ?_
 refine Ends.then_exit ?_
 refine Ends.then_exit ?_
 refine Ends.block_hit ?_
 refine Ends.seq ?_
 refine Wr ?_
 refine Om1 rfl rfl ?_
 refine Of1 rfl rfl rfl ?_
 refine Ol1 rfl rfl rfl rfl ?_
 refine Ops.pv (pv_len_slice (T := 23) rfl rfl) rfl ?_
 refine Ops.ef rfl (ef_callr (tr_two _) rfl rfl) ?_
 rintro _ _ ⟨rfl, rfl⟩
 refine Ops.pv (pv_str_add rfl rfl (by simp only [List.length_append, leB_len, List.length_cons, List.length_nil]; omega)) rfl ?_
 refine Oa1 rfl rfl ?_
 refine On ?_
 refine Wp.seq ?_
 refine Wr ?_
 refine Oa1 rfl rfl ?_
 refine On ?_
 refine Wp.block ?_
 refine Wp.loopK (σ := Nat × List UInt8) [(1, _)] (fun s => [(4, sV s.2), (7, .int .i64 s.1)]) (fun s => (b1, .cells [.slice s1 D.o.length c1, .slice s2 D.p.length c2, .slice s3 D.m.length c3, .slice s4 D.f.length c4, .slice s5 D.t.length c5, .slice s6 D.w.length c6, .slice s7 D.s.length c7].toArray 30) :: (G ++ F)) (fun s => s.1 ≤ D.p.length ∧ s.2 = (y1 ++ leB 2 (uI (D.p.length : Int))) ++ encI fsP (D.p.take s.1) ∧ s.2.length = 4 + D.o.length * 6 + 2 + s.1 * 20) (fun s => D.p.length - s.1) (0, (y1 ++ leB 2 (uI (D.p.length : Int)))) ⟨Nat.zero_le _, by simp [encI], by simp only [List.length_append, leB_len, List.length_cons, List.length_nil]; (try omega)⟩ ⟨rfl, trivial⟩ ⟨rfl, rfl, trivial⟩ (by intro w ho; (try dsimp only [List.nil_append, List.cons_append]); exact Drop.own ho) ?_
 rintro ⟨i, y2⟩ KK ⟨hi, hy2, hl2⟩ hK
 dsimp only [List.cons_append, List.nil_append] at hK ⊢
 dsimp only at hi hy2 hl2 ⊢
 refine Wp.seq ?_
 refine Wr ?_
 refine Om1 rfl rfl ?_
 refine Of1 rfl rfl rfl ?_
 refine Ol1 rfl rfl rfl rfl ?_
 refine Ops.pv (pv_len_slice (T := 23) rfl rfl) rfl ?_
 refine Ops.pv (pv_lss rfl rfl) rfl ?_
 refine On ?_
 refine Wp.cond_dect rfl (fun h3 => ?_) (fun h3 => ?_)
 ·
  obtain ⟨e, he⟩ : ∃ e, D.p[i]? = some e := ⟨_, List.getElem?_eq_getElem (by omega)⟩
  obtain ⟨eb, eo, cc, TT, fz, cap, hva, hbm, hx⟩ := da_el hs.p he
  cases hva
  have hbg : Blk G eb (.cells cc.toArray TT fz) := ⟨hbm⟩
  obtain ⟨a0, a1, a2, a3, a4, a5, a6, a7, hae⟩ := El.eight rfl e
  rw [cE, hae] at hx
  have hrg := e.rg
  rw [hae] at hrg
  simp only [fsP, rgE, Fld.rg, RgI] at hrg
  obtain ⟨n5, rfl⟩ : ∃ q : Nat, a5 = (q : Int) := ⟨a5.toNat, by omega⟩
  obtain ⟨n6, rfl⟩ : ∃ q : Nat, a6 = (q : Int) := ⟨a6.toNat, by omega⟩
  refine Wp.skip ?_
  refine Ends.seq ?_
  refine Wp.seq ?_
  refine Wp.block ?_
  refine Wr ?_
  refine Of1 rfl rfl rfl ?_
  refine Ol1 rfl rfl rfl rfl ?_
  refine Om1 rfl rfl ?_
  refine Ops.pv (pv_indexAddr (i := i) rfl rfl rfl (by omega)) rfl ?_
  refine Ops.pv (pv_loadK [.int .i64 a0, .int .i64 a1, .int .i64 a2, .int .i64 a3, .int .i64 a4, .int .u64 (n5 : Int), .int .u64 (n6 : Int), .int .i64 a7] rfl rfl rfl hx.reads) rfl ?_
  refine Ops.ef rfl (ef_allocK tyZ61 rfl) ?_
  rintro _ _ ⟨b3, rfl, rfl⟩
  refine Ops.ef rfl (ef_storeK rfl rfl rfl rfl) ?_
  rintro _ _ ⟨rfl, rfl⟩
  refine On ?_
  refine AnyH.start ([(b3, .cells [.int .i64 a0, .int .i64 a1, .int .i64 a2, .int .i64 a3, .int .i64 a4, .int .u64 (n5 : Int), .int .u64 (n6 : Int), .int .i64 a7].toArray 61)] : Hp) 42 rfl ?_
  refine Tk 0 rfl rfl (pv_move rfl) rfl ?_
  refine Tk 1 rfl rfl (pv_fieldAddr0 rfl rfl) rfl ?_
  refine Tk 2 rfl rfl (pv_fieldAddr0 rfl rfl) rfl ?_
  refine Tk 3 rfl rfl (pv_load rfl rfl rfl) rfl ?_
  refine Tk 6 rfl rfl (pv_fieldAddr0 rfl rfl) rfl ?_
  refine Tk 7 rfl rfl (pv_fieldAddr0 rfl rfl) rfl ?_
  refine Tk 8 rfl rfl (pv_load rfl rfl rfl) rfl ?_
  refine Tk 11 rfl rfl (pv_fieldAddr0 rfl rfl) rfl ?_
  refine Tk 12 rfl rfl (pv_fieldAddr rfl rfl) rfl ?_
  refine Tk 13 rfl rfl (pv_load rfl rfl rfl) rfl ?_
  refine Tk 16 rfl rfl (pv_fieldAddr0 rfl rfl) rfl ?_
  refine Tk 17 rfl rfl (pv_fieldAddr rfl rfl) rfl ?_
  refine Tk 18 rfl rfl (pv_load rfl rfl rfl) rfl ?_
  refine Tk 21 rfl rfl (pv_fieldAddr0 rfl rfl) rfl ?_
  refine Tk 22 rfl rfl (pv_fieldAddr rfl rfl) rfl ?_
  refine Tk 23 rfl rfl (pv_load rfl rfl rfl) rfl ?_
  refine Tk 26 rfl rfl (pv_fieldAddr0 rfl rfl) rfl ?_
  refine Tk 27 rfl rfl (pv_fieldAddr rfl rfl) rfl ?_
  refine Tk 28 rfl rfl (pv_load rfl rfl rfl) rfl ?_
  refine Tk 31 rfl rfl (pv_fieldAddr0 rfl rfl) rfl ?_
  refine Tk 32 rfl rfl (pv_fieldAddr rfl rfl) rfl ?_
  refine Tk 33 rfl rfl (pv_load rfl rfl rfl) rfl ?_
  refine Tk 36 rfl rfl (pv_fieldAddr0 rfl rfl) rfl ?_
  refine Tk 37 rfl rfl (pv_fieldAddr rfl rfl) rfl ?_
  refine Tk 38 rfl rfl (pv_load rfl rfl rfl) rfl ?_
  refine AnyH.one 4 (by kernel_rfl) ?_
  refine Turn.ef rfl rfl (ef_callr (tr_two _) rfl rfl) ?_ ?_
  ·
   rintro _ _ ⟨rfl, rfl⟩; infer_instance
  rintro _ _ ⟨rfl, rfl⟩
  refine Tk 5 rfl rfl (pv_str_add rfl rfl (by simp only [List.length_append, leB_len, List.length_cons, List.length_nil]; omega)) rfl ?_
  refine AnyH.one 9 (by kernel_rfl) ?_
  refine Turn.ef rfl rfl (ef_callr (tr_two _) rfl rfl) ?_ ?_
  ·
   rintro _ _ ⟨rfl, rfl⟩; infer_instance
  rintro _ _ ⟨rfl, rfl⟩
  refine Tk 10 rfl rfl (pv_str_add rfl rfl (by simp only [List.length_append, leB_len, List.length_cons, List.length_nil]; omega)) rfl ?_
  refine AnyH.one 14 (by kernel_rfl) ?_
  refine Turn.ef rfl rfl (ef_callr (tr_two _) rfl rfl) ?_ ?_
  ·
   rintro _ _ ⟨rfl, rfl⟩; infer_instance
  rintro _ _ ⟨rfl, rfl⟩
  refine Tk 15 rfl rfl (pv_str_add rfl rfl (by simp only [List.length_append, leB_len, List.length_cons, List.length_nil]; omega)) rfl ?_
  refine AnyH.one 19 (by kernel_rfl) ?_
  refine Turn.ef rfl rfl (ef_callr (tr_two _) rfl rfl) ?_ ?_
  ·
   rintro _ _ ⟨rfl, rfl⟩; infer_instance
  rintro _ _ ⟨rfl, rfl⟩
  refine Tk 20 rfl rfl (pv_str_add rfl rfl (by simp only [List.length_append, leB_len, List.length_cons, List.length_nil]; omega)) rfl ?_
  refine AnyH.one 24 (by kernel_rfl) ?_
  refine Turn.ef rfl rfl (ef_callr (tr_two _) rfl rfl) ?_ ?_
  ·
   rintro _ _ ⟨rfl, rfl⟩; infer_instance
  rintro _ _ ⟨rfl, rfl⟩
  refine Tk 25 rfl rfl (pv_str_add rfl rfl (by simp only [List.length_append, leB_len, List.length_cons, List.length_nil]; omega)) rfl ?_
  refine AnyH.one 29 (by kernel_rfl) ?_
  refine Turn.ef rfl rfl (ef_callr (tr_low n5 4 (by decide)) rfl rfl) ?_ ?_
  ·
   rintro _ _ ⟨rfl, rfl⟩; infer_instance
  rintro _ _ ⟨rfl, rfl⟩
  refine Tk 30 rfl rfl (pv_str_add rfl rfl (by simp only [List.length_append, leB_len, List.length_cons, List.length_nil]; omega)) rfl ?_
  refine AnyH.one 34 (by kernel_rfl) ?_
  refine Turn.ef rfl rfl (ef_callr (tr_low n6 4 (by decide)) rfl rfl) ?_ ?_
  ·
   rintro _ _ ⟨rfl, rfl⟩; infer_instance
  rintro _ _ ⟨rfl, rfl⟩
  refine Tk 35 rfl rfl (pv_str_add rfl rfl (by simp only [List.length_append, leB_len, List.length_cons, List.length_nil]; omega)) rfl ?_
  refine AnyH.one 39 (by kernel_rfl) ?_
  refine Turn.ef rfl rfl (ef_callr (tr_two _) rfl rfl) ?_ ?_
  ·
   rintro _ _ ⟨rfl, rfl⟩; infer_instance
  rintro _ _ ⟨rfl, rfl⟩
  refine Tk 40 rfl rfl (pv_str_add rfl rfl (by simp only [List.length_append, leB_len, List.length_cons, List.length_nil]; omega)) rfl ?_
  refine Tk 41 rfl rfl (pv_assign rfl) rfl ?_
  refine AnyH.done (by kernel_rfl) ?_
  refine Ends.block_normal ?_
  refine Ends.seq ?_
  refine Wp.region ?_
  refine Om1 rfl rfl ?_
  refine Ops.pv (pv_add rfl rfl (w64n (k := i + 1) (by omega) (by omega))) rfl ?_
  refine Oa1 rfl rfl ?_
  refine Ops.nil ?_
  refine Ends.goes ?_
  refine Goes.back (hK (i + 1, ((((((((y2 ++ leB 2 (uI a0)) ++ leB 2 (uI a1)) ++ leB 2 (uI a2)) ++ leB 2 (uI a3)) ++ leB 2 (uI a4)) ++ leB 4 n5) ++ leB 4 n6) ++ leB 2 (uI a7))) ⟨by dsimp only; omega, by dsimp only; rw [encI_take he, hy2, hae, show encE fsP _ = leB 2 (uI a0) ++ (leB 2 (uI a1) ++ (leB 2 (uI a2) ++ (leB 2 (uI a3) ++ (leB 2 (uI a4) ++ (leB 4 n5 ++ (leB 4 n6 ++ (leB 2 (uI a7) ++ ([])))))))) from rfl]; simp only [List.append_assoc, List.append_nil, List.cons_append, List.nil_append], by dsimp only; simp only [List.length_append, leB_len, hl2]; omega⟩ (by dsimp only; omega)) ⟨rfl, rfl, rfl, trivial⟩
 obtain rfl : i = D.p.length := by omega
 rw [List.take_length] at hy2
 refine Wp.exit ?_
 refine Ends.then_exit ?_
 refine Ends.then_exit ?_
 refine Ends.block_hit ?_
 refine Ends.seq ?_
 refine Wr ?_
 refine Om1 rfl rfl ?_
 refine Of1 rfl rfl rfl ?_
 refine Ol1 rfl rfl rfl rfl ?_
 refine Ops.pv (pv_len_slice (T := 24) rfl rfl) rfl ?_
 refine Ops.ef rfl (ef_callr (tr_two _) rfl rfl) ?_
 rintro _ _ ⟨rfl, rfl⟩
 refine Ops.pv (pv_str_add rfl rfl (by simp only [List.length_append, leB_len, List.length_cons, List.length_nil]; omega)) rfl ?_
 refine Oa1 rfl rfl ?_
 refine On ?_
 refine Wp.seq ?_
 refine Wr ?_
 refine Oa1 rfl rfl ?_
 refine On ?_
 refine Wp.block ?_
 refine Wp.loopK (σ := Nat × List UInt8) [(1, _)] (fun s => [(4, sV s.2), (9, .int .i64 s.1)]) (fun s => (b1, .cells [.slice s1 D.o.length c1, .slice s2 D.p.length c2, .slice s3 D.m.length c3, .slice s4 D.f.length c4, .slice s5 D.t.length c5, .slice s6 D.w.length c6, .slice s7 D.s.length c7].toArray 30) :: (G ++ F)) (fun s => s.1 ≤ D.m.length ∧ s.2 = (y2 ++ leB 2 (uI (D.m.length : Int))) ++ encI fsM (D.m.take s.1) ∧ s.2.length = 4 + D.o.length * 6 + 2 + D.p.length * 20 + 2 + s.1 * 7) (fun s => D.m.length - s.1) (0, (y2 ++ leB 2 (uI (D.m.length : Int)))) ⟨Nat.zero_le _, by simp [encI], by simp only [List.length_append, leB_len, List.length_cons, List.length_nil]; (try omega)⟩ ⟨rfl, trivial⟩ ⟨rfl, rfl, trivial⟩ (by intro w ho; (try dsimp only [List.nil_append, List.cons_append]); exact Drop.own ho) ?_
 rintro ⟨i, y3⟩ KK ⟨hi, hy3, hl3⟩ hK
 dsimp only [List.cons_append, List.nil_append] at hK ⊢
 dsimp only at hi hy3 hl3 ⊢
 refine Wp.seq ?_
 refine Wr ?_
 refine Om1 rfl rfl ?_
 refine Of1 rfl rfl rfl ?_
 refine Ol1 rfl rfl rfl rfl ?_
 refine Ops.pv (pv_len_slice (T := 24) rfl rfl) rfl ?_
 refine Ops.pv (pv_lss rfl rfl) rfl ?_
 refine On ?_
 refine Wp.cond_dect rfl (fun h4 => ?_) (fun h4 => ?_)
 ·
  obtain ⟨e, he⟩ : ∃ e, D.m[i]? = some e := ⟨_, List.getElem?_eq_getElem (by omega)⟩
  obtain ⟨eb, eo, cc, TT, fz, cap, hva, hbm, hx⟩ := da_el hs.m he
  cases hva
  have hbg : Blk G eb (.cells cc.toArray TT fz) := ⟨hbm⟩
  obtain ⟨a0, a1, a2, a3, hae⟩ := El.four rfl e
  rw [cE, hae] at hx
  have hrg := e.rg
  rw [hae] at hrg
  simp only [fsM, rgE, Fld.rg, RgI] at hrg
  refine Wp.skip ?_
  refine Ends.seq ?_
  refine Wp.seq ?_
  refine Wp.block ?_
  refine Wr ?_
  refine Of1 rfl rfl rfl ?_
  refine Ol1 rfl rfl rfl rfl ?_
  refine Om1 rfl rfl ?_
  refine Ops.pv (pv_indexAddr (i := i) rfl rfl rfl (by omega)) rfl ?_
  refine Ops.pv (pv_loadK [.int .i64 a0, .int .i64 a1, .int .i64 a2, .bool (decide (a3 = 1))] rfl rfl rfl hx.reads) rfl ?_
  refine Ops.ef rfl (ef_allocK tyZ64 rfl) ?_
  rintro _ _ ⟨b4, rfl, rfl⟩
  refine Ops.ef rfl (ef_storeK rfl rfl rfl rfl) ?_
  rintro _ _ ⟨rfl, rfl⟩
  refine On ?_
  refine Wr ?_
  refine Oa1 rfl rfl ?_
  refine On ?_
  refine Wp.seq ?_
  refine Wr ?_
  refine Of1 rfl rfl rfl ?_
  refine Ol1 rfl rfl rfl rfl ?_
  refine On ?_
  refine Wp.cond_dect rfl (fun h5 => ?_) (fun h5 => ?_)
  ·
   obtain rfl : a3 = 1 := by first | assumption | omega
   refine Wp.region ?_
   refine Oa1 rfl rfl ?_
   refine On ?_
   refine AnyH.start ([(b4, .cells [.int .i64 a0, .int .i64 a1, .int .i64 a2, .bool (decide ((1 : Int) = 1))].toArray 64)] : Hp) 17 rfl ?_
   refine Tk 0 rfl rfl (pv_move rfl) rfl ?_
   refine Tk 1 rfl rfl (pv_fieldAddr0 rfl rfl) rfl ?_
   refine Tk 2 rfl rfl (pv_load rfl rfl rfl) rfl ?_
   refine Tk 5 rfl rfl (pv_fieldAddr0 rfl rfl) rfl ?_
   refine Tk 6 rfl rfl (pv_load rfl rfl rfl) rfl ?_
   refine Tk 9 rfl rfl (pv_fieldAddr0 rfl rfl) rfl ?_
   refine Tk 10 rfl rfl (pv_load rfl rfl rfl) rfl ?_
   refine Tk 13 rfl rfl (pv_move rfl) rfl ?_
   refine AnyH.one 3 (by kernel_rfl) ?_
   refine Turn.ef rfl rfl (ef_callr (tr_two _) rfl rfl) ?_ ?_
   ·
    rintro _ _ ⟨rfl, rfl⟩; infer_instance
   rintro _ _ ⟨rfl, rfl⟩
   refine Tk 4 rfl rfl (pv_str_add rfl rfl (by simp only [List.length_append, leB_len, List.length_cons, List.length_nil]; omega)) rfl ?_
   refine AnyH.one 7 (by kernel_rfl) ?_
   refine Turn.ef rfl rfl (ef_callr (tr_two _) rfl rfl) ?_ ?_
   ·
    rintro _ _ ⟨rfl, rfl⟩; infer_instance
   rintro _ _ ⟨rfl, rfl⟩
   refine Tk 8 rfl rfl (pv_str_add rfl rfl (by simp only [List.length_append, leB_len, List.length_cons, List.length_nil]; omega)) rfl ?_
   refine AnyH.one 11 (by kernel_rfl) ?_
   refine Turn.ef rfl rfl (ef_callr (tr_two _) rfl rfl) ?_ ?_
   ·
    rintro _ _ ⟨rfl, rfl⟩; infer_instance
   rintro _ _ ⟨rfl, rfl⟩
   refine Tk 12 rfl rfl (pv_str_add rfl rfl (by simp only [List.length_append, leB_len, List.length_cons, List.length_nil]; omega)) rfl ?_
   refine AnyH.one 14 (by kernel_rfl) ?_
   refine Turn.ef rfl rfl (ef_callr (tr_low 1 1 (by decide)) rfl rfl) ?_ ?_
   ·
    rintro _ _ ⟨rfl, rfl⟩; infer_instance
   rintro _ _ ⟨rfl, rfl⟩
   refine Tk 15 rfl rfl (pv_str_add rfl rfl (by simp only [List.length_append, leB_len, List.length_cons, List.length_nil]; omega)) rfl ?_
   refine Tk 16 rfl rfl (pv_assign rfl) rfl ?_
   refine AnyH.done (by kernel_rfl) ?_
   refine Ends.block_normal ?_
   refine Ends.seq ?_
   refine Wp.region ?_
   refine Om1 rfl rfl ?_
   refine Ops.pv (pv_add rfl rfl (w64n (k := i + 1) (by omega) (by omega))) rfl ?_
   refine Oa1 rfl rfl ?_
   refine Ops.nil ?_
   refine Ends.goes ?_
   refine Goes.back (hK (i + 1, ((((y3 ++ leB 2 (uI a0)) ++ leB 2 (uI a1)) ++ leB 2 (uI a2)) ++ leB 1 1)) ⟨by dsimp only; omega, by dsimp only; rw [encI_take he, hy3, hae, show encE fsM _ = leB 2 (uI a0) ++ (leB 2 (uI a1) ++ (leB 2 (uI a2) ++ (leB 1 1 ++ ([])))) from rfl]; simp only [List.append_assoc, List.append_nil, List.cons_append, List.nil_append], by dsimp only; simp only [List.length_append, leB_len, hl3]; omega⟩ (by dsimp only; omega)) ⟨rfl, rfl, rfl, trivial⟩
  obtain rfl : a3 = 0 := by omega
  refine Wp.skip ?_
  refine Ends.seq ?_
  refine AnyH.start ([(b4, .cells [.int .i64 a0, .int .i64 a1, .int .i64 a2, .bool (decide ((0 : Int) = 1))].toArray 64)] : Hp) 17 rfl ?_
  refine Tk 0 rfl rfl (pv_move rfl) rfl ?_
  refine Tk 1 rfl rfl (pv_fieldAddr0 rfl rfl) rfl ?_
  refine Tk 2 rfl rfl (pv_load rfl rfl rfl) rfl ?_
  refine Tk 5 rfl rfl (pv_fieldAddr0 rfl rfl) rfl ?_
  refine Tk 6 rfl rfl (pv_load rfl rfl rfl) rfl ?_
  refine Tk 9 rfl rfl (pv_fieldAddr0 rfl rfl) rfl ?_
  refine Tk 10 rfl rfl (pv_load rfl rfl rfl) rfl ?_
  refine Tk 13 rfl rfl (pv_move rfl) rfl ?_
  refine AnyH.one 3 (by kernel_rfl) ?_
  refine Turn.ef rfl rfl (ef_callr (tr_two _) rfl rfl) ?_ ?_
  ·
   rintro _ _ ⟨rfl, rfl⟩; infer_instance
  rintro _ _ ⟨rfl, rfl⟩
  refine Tk 4 rfl rfl (pv_str_add rfl rfl (by simp only [List.length_append, leB_len, List.length_cons, List.length_nil]; omega)) rfl ?_
  refine AnyH.one 7 (by kernel_rfl) ?_
  refine Turn.ef rfl rfl (ef_callr (tr_two _) rfl rfl) ?_ ?_
  ·
   rintro _ _ ⟨rfl, rfl⟩; infer_instance
  rintro _ _ ⟨rfl, rfl⟩
  refine Tk 8 rfl rfl (pv_str_add rfl rfl (by simp only [List.length_append, leB_len, List.length_cons, List.length_nil]; omega)) rfl ?_
  refine AnyH.one 11 (by kernel_rfl) ?_
  refine Turn.ef rfl rfl (ef_callr (tr_two _) rfl rfl) ?_ ?_
  ·
   rintro _ _ ⟨rfl, rfl⟩; infer_instance
  rintro _ _ ⟨rfl, rfl⟩
  refine Tk 12 rfl rfl (pv_str_add rfl rfl (by simp only [List.length_append, leB_len, List.length_cons, List.length_nil]; omega)) rfl ?_
  refine AnyH.one 14 (by kernel_rfl) ?_
  refine Turn.ef rfl rfl (ef_callr (tr_low 0 1 (by decide)) rfl rfl) ?_ ?_
  ·
   rintro _ _ ⟨rfl, rfl⟩; infer_instance
  rintro _ _ ⟨rfl, rfl⟩
  refine Tk 15 rfl rfl (pv_str_add rfl rfl (by simp only [List.length_append, leB_len, List.length_cons, List.length_nil]; omega)) rfl ?_
  refine Tk 16 rfl rfl (pv_assign rfl) rfl ?_
  refine AnyH.done (by kernel_rfl) ?_
  refine Ends.block_normal ?_
  refine Ends.seq ?_
  refine Wp.region ?_
  refine Om1 rfl rfl ?_
  refine Ops.pv (pv_add rfl rfl (w64n (k := i + 1) (by omega) (by omega))) rfl ?_
  refine Oa1 rfl rfl ?_
  refine Ops.nil ?_
  refine Ends.goes ?_
  refine Goes.back (hK (i + 1, ((((y3 ++ leB 2 (uI a0)) ++ leB 2 (uI a1)) ++ leB 2 (uI a2)) ++ leB 1 0)) ⟨by dsimp only; omega, by dsimp only; rw [encI_take he, hy3, hae, show encE fsM _ = leB 2 (uI a0) ++ (leB 2 (uI a1) ++ (leB 2 (uI a2) ++ (leB 1 0 ++ ([])))) from rfl]; simp only [List.append_assoc, List.append_nil, List.cons_append, List.nil_append], by dsimp only; simp only [List.length_append, leB_len, hl3]; omega⟩ (by dsimp only; omega)) ⟨rfl, rfl, rfl, trivial⟩
 obtain rfl : i = D.m.length := by omega
 rw [List.take_length] at hy3
 refine Wp.exit ?_
 refine Ends.then_exit ?_
 refine Ends.then_exit ?_
 refine Ends.block_hit ?_
 refine Ends.seq ?_
 refine Wr ?_
 refine Om1 rfl rfl ?_
 refine Of1 rfl rfl rfl ?_
 refine Ol1 rfl rfl rfl rfl ?_
 refine Ops.pv (pv_len_slice (T := 25) rfl rfl) rfl ?_
 refine Ops.ef rfl (ef_callr (tr_two _) rfl rfl) ?_
 rintro _ _ ⟨rfl, rfl⟩
 refine Ops.pv (pv_str_add rfl rfl (by simp only [List.length_append, leB_len, List.length_cons, List.length_nil]; omega)) rfl ?_
 refine Oa1 rfl rfl ?_
 refine On ?_
 refine Wp.seq ?_
 refine Wr ?_
 refine Oa1 rfl rfl ?_
 refine On ?_
 refine Wp.block ?_
 refine Wp.loopK (σ := Nat × List UInt8) [(1, _)] (fun s => [(4, sV s.2), (12, .int .i64 s.1)]) (fun s => (b1, .cells [.slice s1 D.o.length c1, .slice s2 D.p.length c2, .slice s3 D.m.length c3, .slice s4 D.f.length c4, .slice s5 D.t.length c5, .slice s6 D.w.length c6, .slice s7 D.s.length c7].toArray 30) :: (G ++ F)) (fun s => s.1 ≤ D.f.length ∧ s.2 = (y3 ++ leB 2 (uI (D.f.length : Int))) ++ encI fsF (D.f.take s.1) ∧ s.2.length = 4 + D.o.length * 6 + 2 + D.p.length * 20 + 2 + D.m.length * 7 + 2 + s.1 * 12) (fun s => D.f.length - s.1) (0, (y3 ++ leB 2 (uI (D.f.length : Int)))) ⟨Nat.zero_le _, by simp [encI], by simp only [List.length_append, leB_len, List.length_cons, List.length_nil]; (try omega)⟩ ⟨rfl, trivial⟩ ⟨rfl, rfl, trivial⟩ (by intro w ho; (try dsimp only [List.nil_append, List.cons_append]); exact Drop.own ho) ?_
 rintro ⟨i, y4⟩ KK ⟨hi, hy4, hl4⟩ hK
 dsimp only [List.cons_append, List.nil_append] at hK ⊢
 dsimp only at hi hy4 hl4 ⊢
 refine Wp.seq ?_
 refine Wr ?_
 refine Om1 rfl rfl ?_
 refine Of1 rfl rfl rfl ?_
 refine Ol1 rfl rfl rfl rfl ?_
 refine Ops.pv (pv_len_slice (T := 25) rfl rfl) rfl ?_
 refine Ops.pv (pv_lss rfl rfl) rfl ?_
 refine On ?_
 refine Wp.cond_dect rfl (fun h6 => ?_) (fun h6 => ?_)
 ·
  obtain ⟨e, he⟩ : ∃ e, D.f[i]? = some e := ⟨_, List.getElem?_eq_getElem (by omega)⟩
  obtain ⟨eb, eo, cc, TT, fz, cap, hva, hbm, hx⟩ := da_el hs.f he
  cases hva
  have hbg : Blk G eb (.cells cc.toArray TT fz) := ⟨hbm⟩
  obtain ⟨a0, a1, a2, hae⟩ := El.three rfl e
  rw [cE, hae] at hx
  have hrg := e.rg
  rw [hae] at hrg
  simp only [fsF, rgE, Fld.rg, RgI] at hrg
  obtain ⟨n2, rfl⟩ : ∃ q : Nat, a2 = (q : Int) := ⟨a2.toNat, by omega⟩
  refine Wp.skip ?_
  refine Ends.seq ?_
  refine Wp.seq ?_
  refine Wp.block ?_
  refine Wr ?_
  refine Of1 rfl rfl rfl ?_
  refine Ol1 rfl rfl rfl rfl ?_
  refine Om1 rfl rfl ?_
  refine Ops.pv (pv_indexAddr (i := i) rfl rfl rfl (by omega)) rfl ?_
  refine Ops.pv (pv_loadK [.int .i64 a0, .int .i64 a1, .int .u64 (n2 : Int)] rfl rfl rfl hx.reads) rfl ?_
  refine Ops.ef rfl (ef_allocK tyZ67 rfl) ?_
  rintro _ _ ⟨b5, rfl, rfl⟩
  refine Ops.ef rfl (ef_storeK rfl rfl rfl rfl) ?_
  rintro _ _ ⟨rfl, rfl⟩
  refine On ?_
  refine AnyH.start ([(b5, .cells [.int .i64 a0, .int .i64 a1, .int .u64 (n2 : Int)].toArray 67)] : Hp) 14 rfl ?_
  refine Tk 0 rfl rfl (pv_move rfl) rfl ?_
  refine Tk 1 rfl rfl (pv_fieldAddr0 rfl rfl) rfl ?_
  refine Tk 2 rfl rfl (pv_load rfl rfl rfl) rfl ?_
  refine Tk 5 rfl rfl (pv_fieldAddr0 rfl rfl) rfl ?_
  refine Tk 6 rfl rfl (pv_load rfl rfl rfl) rfl ?_
  refine Tk 9 rfl rfl (pv_fieldAddr0 rfl rfl) rfl ?_
  refine Tk 10 rfl rfl (pv_load rfl rfl rfl) rfl ?_
  refine AnyH.one 3 (by kernel_rfl) ?_
  refine Turn.ef rfl rfl (ef_callr (tr_two _) rfl rfl) ?_ ?_
  ·
   rintro _ _ ⟨rfl, rfl⟩; infer_instance
  rintro _ _ ⟨rfl, rfl⟩
  refine Tk 4 rfl rfl (pv_str_add rfl rfl (by simp only [List.length_append, leB_len, List.length_cons, List.length_nil]; omega)) rfl ?_
  refine AnyH.one 7 (by kernel_rfl) ?_
  refine Turn.ef rfl rfl (ef_callr (tr_two _) rfl rfl) ?_ ?_
  ·
   rintro _ _ ⟨rfl, rfl⟩; infer_instance
  rintro _ _ ⟨rfl, rfl⟩
  refine Tk 8 rfl rfl (pv_str_add rfl rfl (by simp only [List.length_append, leB_len, List.length_cons, List.length_nil]; omega)) rfl ?_
  refine AnyH.one 11 (by kernel_rfl) ?_
  refine Turn.ef rfl rfl (ef_callr (tr_low n2 8 (by decide)) rfl rfl) ?_ ?_
  ·
   rintro _ _ ⟨rfl, rfl⟩; infer_instance
  rintro _ _ ⟨rfl, rfl⟩
  refine Tk 12 rfl rfl (pv_str_add rfl rfl (by simp only [List.length_append, leB_len, List.length_cons, List.length_nil]; omega)) rfl ?_
  refine Tk 13 rfl rfl (pv_assign rfl) rfl ?_
  refine AnyH.done (by kernel_rfl) ?_
  refine Ends.block_normal ?_
  refine Ends.seq ?_
  refine Wp.region ?_
  refine Om1 rfl rfl ?_
  refine Ops.pv (pv_add rfl rfl (w64n (k := i + 1) (by omega) (by omega))) rfl ?_
  refine Oa1 rfl rfl ?_
  refine Ops.nil ?_
  refine Ends.goes ?_
  refine Goes.back (hK (i + 1, (((y4 ++ leB 2 (uI a0)) ++ leB 2 (uI a1)) ++ leB 8 n2)) ⟨by dsimp only; omega, by dsimp only; rw [encI_take he, hy4, hae, show encE fsF _ = leB 2 (uI a0) ++ (leB 2 (uI a1) ++ (leB 8 n2 ++ ([]))) from rfl]; simp only [List.append_assoc, List.append_nil, List.cons_append, List.nil_append], by dsimp only; simp only [List.length_append, leB_len, hl4]; omega⟩ (by dsimp only; omega)) ⟨rfl, rfl, rfl, trivial⟩
 obtain rfl : i = D.f.length := by omega
 rw [List.take_length] at hy4
 refine Wp.exit ?_
 refine Ends.then_exit ?_
 refine Ends.then_exit ?_
 refine Ends.block_hit ?_
 refine Ends.seq ?_
 refine Wr ?_
 refine Om1 rfl rfl ?_
 refine Of1 rfl rfl rfl ?_
 refine Ol1 rfl rfl rfl rfl ?_
 refine Ops.pv (pv_len_slice (T := 26) rfl rfl) rfl ?_
 refine Ops.ef rfl (ef_callr (tr_two _) rfl rfl) ?_
 rintro _ _ ⟨rfl, rfl⟩
 refine Ops.pv (pv_str_add rfl rfl (by simp only [List.length_append, leB_len, List.length_cons, List.length_nil]; omega)) rfl ?_
 refine Oa1 rfl rfl ?_
 refine On ?_
 refine Wp.seq ?_
 refine Wr ?_
 refine Oa1 rfl rfl ?_
 refine On ?_
 refine Wp.block ?_
 refine Wp.loopK (σ := Nat × List UInt8) [(1, _)] (fun s => [(4, sV s.2), (14, .int .i64 s.1)]) (fun s => (b1, .cells [.slice s1 D.o.length c1, .slice s2 D.p.length c2, .slice s3 D.m.length c3, .slice s4 D.f.length c4, .slice s5 D.t.length c5, .slice s6 D.w.length c6, .slice s7 D.s.length c7].toArray 30) :: (G ++ F)) (fun s => s.1 ≤ D.t.length ∧ s.2 = (y4 ++ leB 2 (uI (D.t.length : Int))) ++ encI fsT (D.t.take s.1) ∧ s.2.length = 4 + D.o.length * 6 + 2 + D.p.length * 20 + 2 + D.m.length * 7 + 2 + D.f.length * 12 + 2 + s.1 * 18) (fun s => D.t.length - s.1) (0, (y4 ++ leB 2 (uI (D.t.length : Int)))) ⟨Nat.zero_le _, by simp [encI], by simp only [List.length_append, leB_len, List.length_cons, List.length_nil]; (try omega)⟩ ⟨rfl, trivial⟩ ⟨rfl, rfl, trivial⟩ (by intro w ho; (try dsimp only [List.nil_append, List.cons_append]); exact Drop.own ho) ?_
 rintro ⟨i, y5⟩ KK ⟨hi, hy5, hl5⟩ hK
 dsimp only [List.cons_append, List.nil_append] at hK ⊢
 dsimp only at hi hy5 hl5 ⊢
 refine Wp.seq ?_
 refine Wr ?_
 refine Om1 rfl rfl ?_
 refine Of1 rfl rfl rfl ?_
 refine Ol1 rfl rfl rfl rfl ?_
 refine Ops.pv (pv_len_slice (T := 26) rfl rfl) rfl ?_
 refine Ops.pv (pv_lss rfl rfl) rfl ?_
 refine On ?_
 refine Wp.cond_dect rfl (fun h7 => ?_) (fun h7 => ?_)
 ·
  obtain ⟨e, he⟩ : ∃ e, D.t[i]? = some e := ⟨_, List.getElem?_eq_getElem (by omega)⟩
  obtain ⟨eb, eo, cc, TT, fz, cap, hva, hbm, hx⟩ := da_el hs.t he
  cases hva
  have hbg : Blk G eb (.cells cc.toArray TT fz) := ⟨hbm⟩
  obtain ⟨a0, a1, a2, a3, a4, a5, a6, a7, hae⟩ := El.eight rfl e
  rw [cE, hae] at hx
  have hrg := e.rg
  rw [hae] at hrg
  simp only [fsT, rgE, Fld.rg, RgI] at hrg
  obtain ⟨n5, rfl⟩ : ∃ q : Nat, a5 = (q : Int) := ⟨a5.toNat, by omega⟩
  have hoke := hok.2.2.2.2.1.2 e (List.mem_of_getElem? he)
  rw [hae] at hoke
  simp only [fsT, okE, Fld.ok] at hoke
  refine Wp.skip ?_
  refine Ends.seq ?_
  refine Wp.seq ?_
  refine Wp.block ?_
  refine Wr ?_
  refine Of1 rfl rfl rfl ?_
  refine Ol1 rfl rfl rfl rfl ?_
  refine Om1 rfl rfl ?_
  refine Ops.pv (pv_indexAddr (i := i) rfl rfl rfl (by omega)) rfl ?_
  refine Ops.pv (pv_loadK [.int .i64 a0, .int .i64 a1, .int .i64 a2, .int .i64 a3, .int .i64 a4, .int .u64 (n5 : Int), .int .i64 a6, .int .i64 a7] rfl rfl rfl hx.reads) rfl ?_
  refine Ops.ef rfl (ef_allocK tyZ70 rfl) ?_
  rintro _ _ ⟨b6, rfl, rfl⟩
  refine Ops.ef rfl (ef_storeK rfl rfl rfl rfl) ?_
  rintro _ _ ⟨rfl, rfl⟩
  refine On ?_
  refine AnyH.start ([(b6, .cells [.int .i64 a0, .int .i64 a1, .int .i64 a2, .int .i64 a3, .int .i64 a4, .int .u64 (n5 : Int), .int .i64 a6, .int .i64 a7].toArray 70)] : Hp) 35 rfl ?_
  refine Tk 0 rfl rfl (pv_move rfl) rfl ?_
  refine Tk 1 rfl rfl (pv_fieldAddr0 rfl rfl) rfl ?_
  refine Tk 2 rfl rfl (pv_load rfl rfl rfl) rfl ?_
  refine Tk 5 rfl rfl (pv_fieldAddr0 rfl rfl) rfl ?_
  refine Tk 6 rfl rfl (pv_load rfl rfl rfl) rfl ?_
  refine Tk 9 rfl rfl (pv_fieldAddr0 rfl rfl) rfl ?_
  refine Tk 10 rfl rfl (pv_load rfl rfl rfl) rfl ?_
  refine Tk 13 rfl rfl (pv_fieldAddr0 rfl rfl) rfl ?_
  refine Tk 14 rfl rfl (pv_load rfl rfl rfl) rfl ?_
  refine Tk 17 rfl rfl (pv_fieldAddr0 rfl rfl) rfl ?_
  refine Tk 18 rfl rfl (pv_load rfl rfl rfl) rfl ?_
  refine Tk 21 rfl rfl (pv_fieldAddr0 rfl rfl) rfl ?_
  refine Tk 22 rfl rfl (pv_load rfl rfl rfl) rfl ?_
  refine Tk 25 rfl rfl (pv_fieldAddr0 rfl rfl) rfl ?_
  refine Tk 26 rfl rfl (pv_load rfl rfl rfl) rfl ?_
  refine Tk 29 rfl rfl (pv_fieldAddr0 rfl rfl) rfl ?_
  refine Tk 30 rfl rfl (pv_load rfl rfl rfl) rfl ?_
  refine Tk 31 rfl rfl (pv_add rfl rfl (w64 (by omega) (by omega))) rfl ?_
  refine AnyH.one 3 (by kernel_rfl) ?_
  refine Turn.ef rfl rfl (ef_callr (tr_two _) rfl rfl) ?_ ?_
  ·
   rintro _ _ ⟨rfl, rfl⟩; infer_instance
  rintro _ _ ⟨rfl, rfl⟩
  refine Tk 4 rfl rfl (pv_str_add rfl rfl (by simp only [List.length_append, leB_len, List.length_cons, List.length_nil]; omega)) rfl ?_
  refine AnyH.one 7 (by kernel_rfl) ?_
  refine Turn.ef rfl rfl (ef_callr (tr_two _) rfl rfl) ?_ ?_
  ·
   rintro _ _ ⟨rfl, rfl⟩; infer_instance
  rintro _ _ ⟨rfl, rfl⟩
  refine Tk 8 rfl rfl (pv_str_add rfl rfl (by simp only [List.length_append, leB_len, List.length_cons, List.length_nil]; omega)) rfl ?_
  refine AnyH.one 11 (by kernel_rfl) ?_
  refine Turn.ef rfl rfl (ef_callr (tr_two _) rfl rfl) ?_ ?_
  ·
   rintro _ _ ⟨rfl, rfl⟩; infer_instance
  rintro _ _ ⟨rfl, rfl⟩
  refine Tk 12 rfl rfl (pv_str_add rfl rfl (by simp only [List.length_append, leB_len, List.length_cons, List.length_nil]; omega)) rfl ?_
  refine AnyH.one 15 (by kernel_rfl) ?_
  refine Turn.ef rfl rfl (ef_callr (tr_two _) rfl rfl) ?_ ?_
  ·
   rintro _ _ ⟨rfl, rfl⟩; infer_instance
  rintro _ _ ⟨rfl, rfl⟩
  refine Tk 16 rfl rfl (pv_str_add rfl rfl (by simp only [List.length_append, leB_len, List.length_cons, List.length_nil]; omega)) rfl ?_
  refine AnyH.one 19 (by kernel_rfl) ?_
  refine Turn.ef rfl rfl (ef_callr (tr_two _) rfl rfl) ?_ ?_
  ·
   rintro _ _ ⟨rfl, rfl⟩; infer_instance
  rintro _ _ ⟨rfl, rfl⟩
  refine Tk 20 rfl rfl (pv_str_add rfl rfl (by simp only [List.length_append, leB_len, List.length_cons, List.length_nil]; omega)) rfl ?_
  refine AnyH.one 23 (by kernel_rfl) ?_
  refine Turn.ef rfl rfl (ef_callr (tr_low n5 4 (by decide)) rfl rfl) ?_ ?_
  ·
   rintro _ _ ⟨rfl, rfl⟩; infer_instance
  rintro _ _ ⟨rfl, rfl⟩
  refine Tk 24 rfl rfl (pv_str_add rfl rfl (by simp only [List.length_append, leB_len, List.length_cons, List.length_nil]; omega)) rfl ?_
  refine AnyH.one 27 (by kernel_rfl) ?_
  refine Turn.ef rfl rfl (ef_callr (tr_two _) rfl rfl) ?_ ?_
  ·
   rintro _ _ ⟨rfl, rfl⟩; infer_instance
  rintro _ _ ⟨rfl, rfl⟩
  refine Tk 28 rfl rfl (pv_str_add rfl rfl (by simp only [List.length_append, leB_len, List.length_cons, List.length_nil]; omega)) rfl ?_
  refine AnyH.one 32 (by kernel_rfl) ?_
  refine Turn.ef rfl rfl (ef_callr (tr_two _) rfl rfl) ?_ ?_
  ·
   rintro _ _ ⟨rfl, rfl⟩; infer_instance
  rintro _ _ ⟨rfl, rfl⟩
  refine Tk 33 rfl rfl (pv_str_add rfl rfl (by simp only [List.length_append, leB_len, List.length_cons, List.length_nil]; omega)) rfl ?_
  refine Tk 34 rfl rfl (pv_assign rfl) rfl ?_
  refine AnyH.done (by kernel_rfl) ?_
  refine Ends.block_normal ?_
  refine Ends.seq ?_
  refine Wp.region ?_
  refine Om1 rfl rfl ?_
  refine Ops.pv (pv_add rfl rfl (w64n (k := i + 1) (by omega) (by omega))) rfl ?_
  refine Oa1 rfl rfl ?_
  refine Ops.nil ?_
  refine Ends.goes ?_
  refine Goes.back (hK (i + 1, ((((((((y5 ++ leB 2 (uI a0)) ++ leB 2 (uI a1)) ++ leB 2 (uI a2)) ++ leB 2 (uI a3)) ++ leB 2 (uI a4)) ++ leB 4 n5) ++ leB 2 (uI a6)) ++ leB 2 (uI (a7 + 1)))) ⟨by dsimp only; omega, by dsimp only; rw [encI_take he, hy5, hae, show encE fsT _ = leB 2 (uI a0) ++ (leB 2 (uI a1) ++ (leB 2 (uI a2) ++ (leB 2 (uI a3) ++ (leB 2 (uI a4) ++ (leB 4 n5 ++ (leB 2 (uI a6) ++ (leB 2 (uI (a7 + 1)) ++ ([])))))))) from rfl]; simp only [List.append_assoc, List.append_nil, List.cons_append, List.nil_append], by dsimp only; simp only [List.length_append, leB_len, hl5]; omega⟩ (by dsimp only; omega)) ⟨rfl, rfl, rfl, trivial⟩
 obtain rfl : i = D.t.length := by omega
 rw [List.take_length] at hy5
 refine Wp.exit ?_
 refine Ends.then_exit ?_
 refine Ends.then_exit ?_
 refine Ends.block_hit ?_
 refine Ends.seq ?_
 refine Wr ?_
 refine Om1 rfl rfl ?_
 refine Of1 rfl rfl rfl ?_
 refine Ol1 rfl rfl rfl rfl ?_
 refine Ops.pv (pv_len_slice (T := 27) rfl rfl) rfl ?_
 refine Ops.ef rfl (ef_callr (tr_two _) rfl rfl) ?_
 rintro _ _ ⟨rfl, rfl⟩
 refine Ops.pv (pv_str_add rfl rfl (by simp only [List.length_append, leB_len, List.length_cons, List.length_nil]; omega)) rfl ?_
 refine Oa1 rfl rfl ?_
 refine On ?_
 refine Wp.seq ?_
 refine Wr ?_
 refine Oa1 rfl rfl ?_
 refine On ?_
 refine Wp.block ?_
 refine Wp.loopK (σ := Nat × List UInt8) [(1, _)] (fun s => [(4, sV s.2), (16, .int .i64 s.1)]) (fun s => (b1, .cells [.slice s1 D.o.length c1, .slice s2 D.p.length c2, .slice s3 D.m.length c3, .slice s4 D.f.length c4, .slice s5 D.t.length c5, .slice s6 D.w.length c6, .slice s7 D.s.length c7].toArray 30) :: (G ++ F)) (fun s => s.1 ≤ D.w.length ∧ s.2 = (y5 ++ leB 2 (uI (D.w.length : Int))) ++ encI fsW (D.w.take s.1) ∧ s.2.length = 4 + D.o.length * 6 + 2 + D.p.length * 20 + 2 + D.m.length * 7 + 2 + D.f.length * 12 + 2 + D.t.length * 18 + 2 + s.1 * 10) (fun s => D.w.length - s.1) (0, (y5 ++ leB 2 (uI (D.w.length : Int)))) ⟨Nat.zero_le _, by simp [encI], by simp only [List.length_append, leB_len, List.length_cons, List.length_nil]; (try omega)⟩ ⟨rfl, trivial⟩ ⟨rfl, rfl, trivial⟩ (by intro w ho; (try dsimp only [List.nil_append, List.cons_append]); exact Drop.own ho) ?_
 rintro ⟨i, y6⟩ KK ⟨hi, hy6, hl6⟩ hK
 dsimp only [List.cons_append, List.nil_append] at hK ⊢
 dsimp only at hi hy6 hl6 ⊢
 refine Wp.seq ?_
 refine Wr ?_
 refine Om1 rfl rfl ?_
 refine Of1 rfl rfl rfl ?_
 refine Ol1 rfl rfl rfl rfl ?_
 refine Ops.pv (pv_len_slice (T := 27) rfl rfl) rfl ?_
 refine Ops.pv (pv_lss rfl rfl) rfl ?_
 refine On ?_
 refine Wp.cond_dect rfl (fun h8 => ?_) (fun h8 => ?_)
 ·
  obtain ⟨e, he⟩ : ∃ e, D.w[i]? = some e := ⟨_, List.getElem?_eq_getElem (by omega)⟩
  obtain ⟨eb, eo, cc, TT, fz, cap, hva, hbm, hx⟩ := da_el hs.w he
  cases hva
  have hbg : Blk G eb (.cells cc.toArray TT fz) := ⟨hbm⟩
  obtain ⟨a0, a1, a2, a3, hae⟩ := El.four rfl e
  rw [cE, hae] at hx
  have hrg := e.rg
  rw [hae] at hrg
  simp only [fsW, rgE, Fld.rg, RgI] at hrg
  obtain ⟨n3, rfl⟩ : ∃ q : Nat, a3 = (q : Int) := ⟨a3.toNat, by omega⟩
  refine Wp.skip ?_
  refine Ends.seq ?_
  refine Wp.seq ?_
  refine Wp.block ?_
  refine Wr ?_
  refine Of1 rfl rfl rfl ?_
  refine Ol1 rfl rfl rfl rfl ?_
  refine Om1 rfl rfl ?_
  refine Ops.pv (pv_indexAddr (i := i) rfl rfl rfl (by omega)) rfl ?_
  refine Ops.pv (pv_loadK [.int .i64 a0, .int .i64 a1, .int .i64 a2, .int .u64 (n3 : Int)] rfl rfl rfl hx.reads) rfl ?_
  refine Ops.ef rfl (ef_allocK tyZ73 rfl) ?_
  rintro _ _ ⟨b7, rfl, rfl⟩
  refine Ops.ef rfl (ef_storeK rfl rfl rfl rfl) ?_
  rintro _ _ ⟨rfl, rfl⟩
  refine On ?_
  refine AnyH.start ([(b7, .cells [.int .i64 a0, .int .i64 a1, .int .i64 a2, .int .u64 (n3 : Int)].toArray 73)] : Hp) 18 rfl ?_
  refine Tk 0 rfl rfl (pv_move rfl) rfl ?_
  refine Tk 1 rfl rfl (pv_fieldAddr0 rfl rfl) rfl ?_
  refine Tk 2 rfl rfl (pv_load rfl rfl rfl) rfl ?_
  refine Tk 5 rfl rfl (pv_fieldAddr0 rfl rfl) rfl ?_
  refine Tk 6 rfl rfl (pv_load rfl rfl rfl) rfl ?_
  refine Tk 9 rfl rfl (pv_fieldAddr0 rfl rfl) rfl ?_
  refine Tk 10 rfl rfl (pv_load rfl rfl rfl) rfl ?_
  refine Tk 13 rfl rfl (pv_fieldAddr0 rfl rfl) rfl ?_
  refine Tk 14 rfl rfl (pv_load rfl rfl rfl) rfl ?_
  refine AnyH.one 3 (by kernel_rfl) ?_
  refine Turn.ef rfl rfl (ef_callr (tr_two _) rfl rfl) ?_ ?_
  ·
   rintro _ _ ⟨rfl, rfl⟩; infer_instance
  rintro _ _ ⟨rfl, rfl⟩
  refine Tk 4 rfl rfl (pv_str_add rfl rfl (by simp only [List.length_append, leB_len, List.length_cons, List.length_nil]; omega)) rfl ?_
  refine AnyH.one 7 (by kernel_rfl) ?_
  refine Turn.ef rfl rfl (ef_callr (tr_two _) rfl rfl) ?_ ?_
  ·
   rintro _ _ ⟨rfl, rfl⟩; infer_instance
  rintro _ _ ⟨rfl, rfl⟩
  refine Tk 8 rfl rfl (pv_str_add rfl rfl (by simp only [List.length_append, leB_len, List.length_cons, List.length_nil]; omega)) rfl ?_
  refine AnyH.one 11 (by kernel_rfl) ?_
  refine Turn.ef rfl rfl (ef_callr (tr_two _) rfl rfl) ?_ ?_
  ·
   rintro _ _ ⟨rfl, rfl⟩; infer_instance
  rintro _ _ ⟨rfl, rfl⟩
  refine Tk 12 rfl rfl (pv_str_add rfl rfl (by simp only [List.length_append, leB_len, List.length_cons, List.length_nil]; omega)) rfl ?_
  refine AnyH.one 15 (by kernel_rfl) ?_
  refine Turn.ef rfl rfl (ef_callr (tr_low n3 4 (by decide)) rfl rfl) ?_ ?_
  ·
   rintro _ _ ⟨rfl, rfl⟩; infer_instance
  rintro _ _ ⟨rfl, rfl⟩
  refine Tk 16 rfl rfl (pv_str_add rfl rfl (by simp only [List.length_append, leB_len, List.length_cons, List.length_nil]; omega)) rfl ?_
  refine Tk 17 rfl rfl (pv_assign rfl) rfl ?_
  refine AnyH.done (by kernel_rfl) ?_
  refine Ends.block_normal ?_
  refine Ends.seq ?_
  refine Wp.region ?_
  refine Om1 rfl rfl ?_
  refine Ops.pv (pv_add rfl rfl (w64n (k := i + 1) (by omega) (by omega))) rfl ?_
  refine Oa1 rfl rfl ?_
  refine Ops.nil ?_
  refine Ends.goes ?_
  refine Goes.back (hK (i + 1, ((((y6 ++ leB 2 (uI a0)) ++ leB 2 (uI a1)) ++ leB 2 (uI a2)) ++ leB 4 n3)) ⟨by dsimp only; omega, by dsimp only; rw [encI_take he, hy6, hae, show encE fsW _ = leB 2 (uI a0) ++ (leB 2 (uI a1) ++ (leB 2 (uI a2) ++ (leB 4 n3 ++ ([])))) from rfl]; simp only [List.append_assoc, List.append_nil, List.cons_append, List.nil_append], by dsimp only; simp only [List.length_append, leB_len, hl6]; omega⟩ (by dsimp only; omega)) ⟨rfl, rfl, rfl, trivial⟩
 obtain rfl : i = D.w.length := by omega
 rw [List.take_length] at hy6
 refine Wp.exit ?_
 refine Ends.then_exit ?_
 refine Ends.then_exit ?_
 refine Ends.block_hit ?_
 refine Ends.seq ?_
 refine Wr ?_
 refine Om1 rfl rfl ?_
 refine Of1 rfl rfl rfl ?_
 refine Ol1 rfl rfl rfl rfl ?_
 refine Ops.pv (pv_len_slice (T := 28) rfl rfl) rfl ?_
 refine Ops.ef rfl (ef_callr (tr_two _) rfl rfl) ?_
 rintro _ _ ⟨rfl, rfl⟩
 refine Ops.pv (pv_str_add rfl rfl (by simp only [List.length_append, leB_len, List.length_cons, List.length_nil]; omega)) rfl ?_
 refine Oa1 rfl rfl ?_
 refine On ?_
 refine Wp.seq ?_
 refine Wr ?_
 refine Oa1 rfl rfl ?_
 refine On ?_
 refine Wp.block ?_
 refine Wp.loopK (σ := Nat × List UInt8) [(1, _)] (fun s => [(4, sV s.2), (18, .int .i64 s.1)]) (fun s => (b1, .cells [.slice s1 D.o.length c1, .slice s2 D.p.length c2, .slice s3 D.m.length c3, .slice s4 D.f.length c4, .slice s5 D.t.length c5, .slice s6 D.w.length c6, .slice s7 D.s.length c7].toArray 30) :: (G ++ F)) (fun s => s.1 ≤ D.s.length ∧ s.2 = (y6 ++ leB 2 (uI (D.s.length : Int))) ++ encI fsS (D.s.take s.1) ∧ s.2.length = 4 + D.o.length * 6 + 2 + D.p.length * 20 + 2 + D.m.length * 7 + 2 + D.f.length * 12 + 2 + D.t.length * 18 + 2 + D.w.length * 10 + 2 + s.1 * 4) (fun s => D.s.length - s.1) (0, (y6 ++ leB 2 (uI (D.s.length : Int)))) ⟨Nat.zero_le _, by simp [encI], by simp only [List.length_append, leB_len, List.length_cons, List.length_nil]; (try omega)⟩ ⟨rfl, trivial⟩ ⟨rfl, rfl, trivial⟩ (by intro w ho; (try dsimp only [List.nil_append, List.cons_append]); exact Drop.own ho) ?_
 rintro ⟨i, y7⟩ KK ⟨hi, hy7, hl7⟩ hK
 dsimp only [List.cons_append, List.nil_append] at hK ⊢
 dsimp only at hi hy7 hl7 ⊢
 refine Wp.seq ?_
 refine Wr ?_
 refine Om1 rfl rfl ?_
 refine Of1 rfl rfl rfl ?_
 refine Ol1 rfl rfl rfl rfl ?_
 refine Ops.pv (pv_len_slice (T := 28) rfl rfl) rfl ?_
 refine Ops.pv (pv_lss rfl rfl) rfl ?_
 refine On ?_
 refine Wp.cond_dect rfl (fun h9 => ?_) (fun h9 => ?_)
 ·
  obtain ⟨e, he⟩ : ∃ e, D.s[i]? = some e := ⟨_, List.getElem?_eq_getElem (by omega)⟩
  obtain ⟨eb, eo, cc, TT, fz, cap, hva, hbm, hx⟩ := da_el hs.s he
  cases hva
  have hbg : Blk G eb (.cells cc.toArray TT fz) := ⟨hbm⟩
  obtain ⟨a0, a1, hae⟩ := El.two rfl e
  rw [cE, hae] at hx
  refine Wp.skip ?_
  refine Ends.seq ?_
  refine Wp.seq ?_
  refine Wp.block ?_
  refine AnyH.start ((b1, .cells [.slice s1 D.o.length c1, .slice s2 D.p.length c2, .slice s3 D.m.length c3, .slice s4 D.f.length c4, .slice s5 D.t.length c5, .slice s6 D.w.length c6, .slice (some ⟨eb, eo, none⟩) D.s.length c7].toArray 30) :: G) 18 rfl ?_
  refine Tk 0 rfl rfl (pv_move rfl) rfl ?_
  refine Tk 1 rfl rfl (pv_fieldAddr0 rfl rfl) rfl ?_
  refine Tk 2 rfl rfl (pv_load rfl rfl rfl) rfl ?_
  refine Tk 3 rfl rfl (pv_move rfl) rfl ?_
  refine Tk 4 rfl rfl (pv_indexAddr (i := i) rfl rfl rfl (by omega)) rfl ?_
  refine Tk 5 rfl rfl (pv_fieldAddr rfl rfl) rfl ?_
  refine Tk 6 rfl rfl (pv_load rfl rfl (hx.at_ (v := .int .i64 a0) 0 rfl)) rfl ?_
  refine Tk 9 rfl rfl (pv_fieldAddr0 rfl rfl) rfl ?_
  refine Tk 10 rfl rfl (pv_load rfl rfl rfl) rfl ?_
  refine Tk 11 rfl rfl (pv_move rfl) rfl ?_
  refine Tk 12 rfl rfl (pv_indexAddr (i := i) rfl rfl rfl (by omega)) rfl ?_
  refine Tk 13 rfl rfl (pv_fieldAddr rfl rfl) rfl ?_
  refine Tk 14 rfl rfl (pv_load rfl rfl (hx.at_ (v := .int .i64 a1) 1 rfl)) rfl ?_
  refine AnyH.one 7 (by kernel_rfl) ?_
  refine Turn.ef rfl rfl (ef_callr (tr_two _) rfl rfl) ?_ ?_
  ·
   rintro _ _ ⟨rfl, rfl⟩; infer_instance
  rintro _ _ ⟨rfl, rfl⟩
  refine Tk 8 rfl rfl (pv_str_add rfl rfl (by simp only [List.length_append, leB_len, List.length_cons, List.length_nil]; omega)) rfl ?_
  refine AnyH.one 15 (by kernel_rfl) ?_
  refine Turn.ef rfl rfl (ef_callr (tr_two _) rfl rfl) ?_ ?_
  ·
   rintro _ _ ⟨rfl, rfl⟩; infer_instance
  rintro _ _ ⟨rfl, rfl⟩
  refine Tk 16 rfl rfl (pv_str_add rfl rfl (by simp only [List.length_append, leB_len, List.length_cons, List.length_nil]; omega)) rfl ?_
  refine Tk 17 rfl rfl (pv_assign rfl) rfl ?_
  refine AnyH.done (by kernel_rfl) ?_
  refine Ends.block_normal ?_
  refine Ends.seq ?_
  refine Wp.region ?_
  refine Om1 rfl rfl ?_
  refine Ops.pv (pv_add rfl rfl (w64n (k := i + 1) (by omega) (by omega))) rfl ?_
  refine Oa1 rfl rfl ?_
  refine Ops.nil ?_
  refine Ends.goes ?_
  refine Goes.back (hK (i + 1, ((y7 ++ leB 2 (uI a0)) ++ leB 2 (uI a1))) ⟨by dsimp only; omega, by dsimp only; rw [encI_take he, hy7, hae, show encE fsS _ = leB 2 (uI a0) ++ (leB 2 (uI a1) ++ ([])) from rfl]; simp only [List.append_assoc, List.append_nil, List.cons_append, List.nil_append], by dsimp only; simp only [List.length_append, leB_len, hl7]; omega⟩ (by dsimp only; omega)) ⟨rfl, rfl, rfl, trivial⟩
 obtain rfl : i = D.s.length := by omega
 rw [List.take_length] at hy7
 refine Wp.exit ?_
 refine Ends.then_exit ?_
 refine Ends.then_exit ?_
 refine Ends.block_hit ?_
 refine Ends.seq ?_
 refine Wr ?_
 refine Om1 rfl rfl ?_
 refine Oa1 rfl rfl ?_
 refine Oa1 rfl rfl ?_
 refine On ?_
 refine Wp.ret ?_
 have u1 : uI (D.o.length : Int) = D.o.length := by have := uI_nn (x := (D.o.length : Int)) (by omega) (by omega); omega
 have u2 : uI (D.p.length : Int) = D.p.length := by have := uI_nn (x := (D.p.length : Int)) (by omega) (by omega); omega
 have u3 : uI (D.m.length : Int) = D.m.length := by have := uI_nn (x := (D.m.length : Int)) (by omega) (by omega); omega
 have u4 : uI (D.f.length : Int) = D.f.length := by have := uI_nn (x := (D.f.length : Int)) (by omega) (by omega); omega
 have u5 : uI (D.t.length : Int) = D.t.length := by have := uI_nn (x := (D.t.length : Int)) (by omega) (by omega); omega
 have u6 : uI (D.w.length : Int) = D.w.length := by have := uI_nn (x := (D.w.length : Int)) (by omega) (by omega); omega
 have u7 : uI (D.s.length : Int) = D.s.length := by have := uI_nn (x := (D.s.length : Int)) (by omega) (by omega); omega
 have hfin : (encV D) = (y7, 0) := by
  rw [encV, if_pos hok, hy7, hy6, hy5, hy4, hy3, hy2, hy1, u1, u2, u3, u4, u5, u6, u7]
  simp only [encD, encL, List.append_assoc]
 rw [hfin]
 exact Ends.ret (res2 rfl rfl rfl) ⟨rfl, rfl⟩
end Go.Proofs.Ytkldjadpoknejaa
end
section
set_option linter.unusedVariables false
set_option linter.unusedSimpArgs false
set_option linter.unusedSectionVars false
namespace Go.Proofs.Ytkldjadpoknejaa
open Go.SL
theorem lwS_le {w : Nat} {st : St} {n : Nat} (h : st.2.length ≤ n) : (lwS w st).2.length ≤ n := Nat.le_trans (lwS_len w st) h
theorem nth_dec {c : List Value} {o : Nat} {b : Bool} (h : nth c o = some (.bool b)) : nth c o = some (.bool (decide (b = true))) := by rw [h]; cases b <;> rfl
def lnF (f : Fld) (st : St) : Int × St :=
  match f with
  | .two => ((lwV 2 st : Nat), lwS 2 st)
  | .lab => ((lwV 2 st : Nat), lwS 2 st)
  | .spc => (((lwV 2 st : Nat) : Int) - 1, lwS 2 st)
  | .w4 => ((lwV 4 st : Nat), lwS 4 st)
  | .w8 => ((lwV 8 st : Nat), lwS 8 st)
  | .flg => (if lwV 1 st = 1 then 1 else 0, (decide ((lwS 1 st).1 = true ∨ ((lwV 1 st : Nat) : Int) > 1), (lwS 1 st).2))
def lnE : List Fld → St → List Int × St
  | [], st => ([], st)
  | f :: fs, st => ((lnF f st).1 :: (lnE fs (lnF f st).2).1, (lnE fs (lnF f st).2).2)
theorem lnF_rg (f : Fld) (st : St) : f.rg (lnF f st).1 := by
 have h2 := lwV_lt 2 st
 have h4 := lwV_lt 4 st
 have h8 := lwV_lt 8 st
 cases f <;> simp only [lnF, Fld.rg, RgI]
 case flg => split <;> simp
 all_goals omega
theorem lnE_rg : ∀ (fs : List Fld) (st : St), rgE fs (lnE fs st).1
  | [], _ => trivial
  | f :: fs, st => ⟨lnF_rg f st, lnE_rg fs _⟩
theorem lnE_len : ∀ (fs : List Fld) (st : St), (lnE fs st).1.length = fs.length
  | [], _ => rfl
  | f :: fs, st => by rw [lnE, List.length_cons, lnE_len fs, List.length_cons]
def lnEl (fs : List Fld) (st : St) : El fs := ⟨(lnE fs st).1, lnE_len fs st, lnE_rg fs st⟩
def lnI (fs : List Fld) : Nat → St → List (El fs) → List (El fs) × St
  | 0, st, acc => (acc, st)
  | m + 1, st, acc => if st.1 = true then (acc, st) else lnI fs m (lnE fs st).2 (acc ++ [lnEl fs st])
theorem lnI_stop {fs : List Fld} {m : Nat} {st : St} {acc : List (El fs)} (h : m = 0 ∨ st.1 = true) : lnI fs m st acc = (acc, st) := by
 cases m with
 | zero => rfl
 | succ m => rw [lnI, if_pos (h.resolve_left (by omega))]
theorem lnI_step {fs : List Fld} {m : Nat} {st : St} {acc : List (El fs)} (h : ¬ st.1 = true) : lnI fs (m + 1) st acc = lnI fs m (lnE fs st).2 (acc ++ [lnEl fs st]) := by rw [lnI, if_neg h]
def lnL (fs : List Fld) (st : St) : List (El fs) × St := lnI fs (lwV 2 st) (lwS 2 st) []
def lnD (st : St) : Dd × St :=
  let a := lnL fsO st
  let b := lnL fsP a.2
  let c := lnL fsM b.2
  let d := lnL fsF c.2
  let e := lnL fsT d.2
  let f := lnL fsW e.2
  let g := lnL fsS f.2
  (⟨a.1, b.1, c.1, d.1, e.1, f.1, g.1⟩, g.2)
def DecR (s : List UInt8) (D : Dd) (e : Int) : Prop :=
  (s.take 2 = [67, 68] ∧ (lnD (false, s.drop 2)).2 = (false, []) ∧ okD (lnD (false, s.drop 2)).1 ∧ D = (lnD (false, s.drop 2)).1 ∧ e = 0) ∨
  (¬ (s.take 2 = [67, 68] ∧ (lnD (false, s.drop 2)).2 = (false, []) ∧ okD (lnD (false, s.drop 2)).1) ∧ D = noD ∧ e = 10)
end Go.Proofs.Ytkldjadpoknejaa
end
