/- BootSpans. Laid together by pack.py out of the texts in wip. -/
import Derived.Test.YtmoeokkelkgnhaaGreatPBootSpans2
set_option linter.unusedVariables false
set_option linter.unusedSimpArgs false
set_option linter.unusedSectionVars false
set_option maxHeartbeats 64000000
namespace Go.Proofs.YtmoeokkelkgnhaaGreat
open Go.SL
open Go.Proofs.Tryz
section
abbrev stP (sb:Nat):Value:=.pointer (some ⟨sb,0,none⟩)
theorem sf_new:Tr prog 147 [] [] (fun v L' => ∃sb,v=stP sb∧StF [] sb L') :=
  tr_slotsNew.mono fun v L' ⟨sb,S,hv,hl,hS⟩=>⟨sb,hv,S,rel_new hS,hl⟩
section
variable {l : List DN} {sb : Nat} {L : Hp} (hH : StF l sb L)
include hH
theorem sf_radix(x:Int):TrR prog 149 [stP sb,.int .i64 x] L (.int .i64 (dradix l x)):=by
 obtain ⟨S,hR,rfl⟩:=hH;exact (tr_radix sb S x).eq (by rw[rel_radix hR])
theorem sf_put(s:SlotM)(c:CapM):Tr prog 154 [stP sb,slotV s,c.v] L (fun u L' => u=.int .i64 (dput l s c).1∧StF (dput l s c).2 sb L'):=by
 obtain ⟨S,hR,rfl⟩:=hH;obtain ⟨e,h2⟩:=rel_put hR s c;exact (tr_put sb S s c hR.wf).mono fun v L' ⟨hv,hl⟩=>⟨by rw[hv,e],_,h2,hl⟩
theorem sf_add(id r:Int):Tr prog 188 [stP sb,.int .i64 id,.int .i64 r] L (fun u L' => u=.int .i64 (dadd l id r).1∧StF (dadd l id r).2 sb L'):=by
 obtain ⟨S,hR,rfl⟩:=hH;have e:=rel_addErr hR id r
 refine (tr_add sb S id r).mono fun v L' ⟨hv,hl⟩=>⟨by rw[hv,e];rfl,?_⟩
 rcases hl with ⟨h0,hl⟩ | ⟨h0,b,hl⟩
 ·
  exact ⟨S,by unfold dadd;rw[if_neg (by rw[←e];exact h0)];exact hR,hl⟩
 exact ⟨_,by unfold dadd;rw[if_pos (by rw[←e];exact h0)];exact rel_add hR h0 (insAt_place l) b 0,hl⟩
end
end
section
theorem tr_treeNew  : Tr prog 148 [] ([]) (fun v L' => ∃tb,v=.pointer (some ⟨tb,0,none⟩)∧TrH ⟨0,fun _=>(0,0),fun _=>none,fun _=>[],[]⟩ tb L'):=by
 refine YR func148 ntmps148 fun W F=>?_
 refine zq [3,4,1,2,5,3,4] ?_;refine Yq (ef_makeMap rfl rfl) fun b1=>?_
 refine zq [23] ?_;refine zB fun b2=>?_
 refine zq [1,2,5,10] ?_;exact zs (L' := [trBlk b2 b1,(b1,.map #[] 0)]) (h:=⟨b2,rfl,b1,0,fun _=>0,fun _=>.pointer none,fun _=>[],fun i hi=>absurd hi (Nat.not_lt_zero i),rfl⟩)
section
variable(tb:Nat)(L:Hp)(T:TreeM)(hH:TrH T tb L)
include tb L T hH
theorem tr_tHas(s:SlotM):TrR prog 233 [.pointer (some ⟨tb,0,none⟩),slotV s] (L) (.bool (tget s T.M).isSome):=by
 obtain ⟨mb,clk,blk,kv,kH,hk,rfl⟩:=hH;have hm:=tptr_hm blk T.M s
 refine YR func233 ntmps233 fun W F=>?_
 refine Wr ?_;refine zB fun b1=>?_
 refine zq [1,2,5,3] ?_;refine AnyH.start ((b1,.cells [.int .i64 s.1,.int .i64 s.2].toArray 61)::trBlk tb mb::mpBlk mb blk T.M clk::segs (knS blk T kv kH) T.n) 8 rfl ?_;refine zd [0,1,1,3,2,0,3,2,4,10] ?_;refine Yh 5 rfl (pv_lookup_s s rfl rfl hm) ?_;refine Yh 6 rfl (pv_neq_nil rfl rfl) ?_;refine zd [7,5] ?_;refine YD ?_;refine zq [5,10] ?_;exact zs (h:=⟨by rw[tptr_is],rfl⟩)
theorem tr_tadd_has(s:SlotM)(v0:Value)(i:Nat)(h:tget s T.M=some i):Tr prog 190 [.pointer (some ⟨tb,0,none⟩),slotV s,v0] (L) (fun u L' => u=.int .i64 4∧TrH T tb L'):=by
 obtain ⟨mb,clk,blk,kv,kH,hk,rfl⟩:=hH;refine YR func190 ntmps190 fun W F=>?_
 refine Wr ?_;refine zB fun b1=>?_
 refine zq [1,2,5,3,3,4,0,30] ?_;refine Yo (ef_callr ((tr_tHas tb _ T ⟨mb,clk,blk,kv,kH,hk,rfl⟩ s).eq (r' := .bool true) (by simp[h])) rfl rfl) ?_;refine zq [2,5,18,3,4,1,2,5,10,12] ?_;exact zr (L' := trBlk tb mb::mpBlk mb blk T.M clk::segs (knS blk T kv kH) T.n) ⟨rfl,mb,clk,blk,kv,kH,hk,rfl⟩
theorem tr_tadd_root(hx:T.Ix)(s:SlotM)(h:tget s T.M=none):Tr prog 190 [.pointer (some ⟨tb,0,none⟩),slotV s,.pointer none] (L) (fun u L' => u=.int .i64 0∧∃t,TrH (T.more s none t) tb L'):=by
 obtain ⟨mb,clk,blk,kv,kH,hk,rfl⟩:=hH;refine YR func190 ntmps190 fun W F=>?_
 refine Wr ?_;refine zB fun b1=>?_
 refine zq [1,2,5,3,3,4,0,30] ?_;refine Yo (ef_callr ((tr_tHas tb _ T ⟨mb,clk,blk,kv,kH,hk,rfl⟩ s).eq (r' := .bool false) (by simp[h])) rfl rfl) ?_;refine zq [2,5,17,11,5,3,4,30,0,23] ?_;refine zB fun b2=>?_
 refine zq [1,2,5,3] ?_;refine AnyH.start ((b1,.cells [.int .i64 s.1,.int .i64 s.2].toArray 61)::trBlk tb mb::[]) 7 rfl ?_;refine zd [0,1,1,3,2,0,3,2,4,10,5,1] ?_;refine YA 6 ?_;refine Yu rfl rfl (ef_mapUpdate_s _ rfl rfl rfl) ?_;refine YD ?_;refine zq [5,3,3,4,0,60,2,5,17,11,5,3,4,1,2,5,10] ?_;rw[tput_new h,tclk_new h];refine Ends.heap (L' := trBlk tb mb::(mb,mapO encS (kvT blk T.M++[(s,.pointer (some ⟨b2,0,none⟩),clk)]) (clk+1))::((segs (knS blk T kv kH) T.n++[(b2,.cells [.int .i64 s.1,.int .i64 s.2,.pointer none,.slice none 0 0].toArray 431)])++F)) (fun w ho=>?_) ?_
 ·
  have h2:Own W w (trBlk tb mb::(mb,mapO encS (kvT blk T.M++[(s,.pointer (some ⟨b2,0,none⟩),clk)]) (clk+1))::(segs (knS blk T kv kH) T.n++((b2,.cells [.int .i64 s.1,.int .i64 s.2,.pointer none,.slice none 0 0].toArray 431)::F))):=Drop.own ho
  rw[Y7];exact h2
 rw[←more_root hx (t:=clk),←more_kvT hx];exact zr (L' := trBlk tb mb::(mb,mapO encS (kvT (fset blk T.n b2) (T.M++[(s,T.n,clk)])) (clk+1))::segs (knS (fset blk T.n b2) (T.more s none clk) (fset kv T.n (.slice none 0 0)) (fset kH T.n [])) (T.n+1)) ⟨rfl,clk,mb,clk+1,fset blk T.n b2,_,_,more_root_ok hx hk,rfl⟩
theorem tr_taddR(hx:T.Ix)(s:SlotM):Tr prog 190 [.pointer (some ⟨tb,0,none⟩),slotV s,.pointer none] L (fun u L' => ∃e T', u=.int .i64 e∧TAdd T s none e T' ∧ TrH T' tb L'):=by
 cases h:tget s T.M with
 | none=>exact (tr_tadd_root tb L T hH hx s h).mono fun u L' ⟨hu,t,hl⟩=>⟨0,_,hu,.inr ⟨h,rfl,t,rfl⟩,hl⟩
 | some i=>exact (tr_tadd_has tb L T hH s (.pointer none) i h).mono fun u L' ⟨hu,hl⟩=>⟨4,T,hu,.inl ⟨i,h,rfl,rfl⟩,hl⟩
theorem tr_tRoot(hx:T.Ix)(s:SlotM):Tr prog 155 [.pointer (some ⟨tb,0,none⟩),slotV s] (L) (fun u L' => ∃e T', u=.int .i64 e∧TAdd T s none e T' ∧ TrH T' tb L'):=by
 refine YR func155 ntmps155 fun W F=>?_
 refine Wr ?_;refine zB fun b1=>?_
 refine zq [1,2,5,3,4,0,30] ?_;refine zD (tr_taddR tb L T hH hx s) ?_;rintro _ Q1 ⟨e1,T1,rfl,ha1,hH1⟩;refine Ops.app ?_
 skip
 refine zq [1,2,5,10] ?_;exact zs (L' := Q1) (h:=⟨e1,T1,rfl,ha1,hH1⟩)
end
end
section
abbrev trP (tb:Nat):Value:=.pointer (some ⟨tb,0,none⟩)
theorem tr_fNew:Tr prog 148 [] [] (fun v L' => ∃tb,v=trP tb∧TrF 0 .nil tb L') :=
  tr_treeNew.mono fun v L' ⟨tb,hv,h⟩=>⟨tb,hv,_,.nil,tok_new,h,Nat.le_refl _,rfl⟩
theorem TAdd.root{n tb:Nat}{L:Hp}{T T' : TreeM}{G:Fo Nat}(hT:TOk T G){s:SlotM}{e:Int}(h:TAdd T s none e T')(hL:TrH T' tb L)(hn:T.n≤n):e=(ftRoot (G.map T.sl) s).1∧TrF (n+1) (ftRoot (G.map T.sl) s).2 tb L:=by
 rcases h with ⟨i,h1,rfl,rfl⟩ | ⟨h1,rfl,t,rfl⟩
 ·
  have:=hT.in_all.2 ⟨i,h1⟩
  unfold ftRoot;rw[if_pos this]
  exact ⟨rfl,T', G,hT,hL,by omega,rfl⟩
 have:=hT.out_all.1 h1
 unfold ftRoot;rw[if_neg this]
 exact ⟨rfl,_,_,tok_root hT h1,hL,by show T.n+1≤_;omega,(more_rootS hT).symm⟩
section
variable {n : Nat} {F : FoS} {tb : Nat} {L : Hp} (hH : TrF n F tb L)
include hH
theorem TrF.more{m:Nat}(h:n≤m):TrF m F tb L:=by
 obtain ⟨T,G,hT,hL,hn,e⟩:=hH;exact ⟨T,G,hT,hL,Nat.le_trans hn h,e⟩
theorem tr_fRoot(s:SlotM):Tr prog 155 [trP tb,slotV s] L (fun u L' => u=.int .i64 (ftRoot F s).1∧TrF (n+1) (ftRoot F s).2 tb L'):=by
 obtain ⟨T,G,hT,hL,hn,rfl⟩:=hH;refine (tr_tRoot tb L T hL hT.ix s).mono ?_;rintro u L' ⟨e,T', rfl,ha,hl⟩;obtain ⟨h1,h2⟩:=TAdd.root hT ha hl hn;exact ⟨by rw[h1],h2⟩
end
end
section
abbrev cpP (cb:Nat):Value:=.pointer (some ⟨cb,0,none⟩)
theorem tr_mNew  : Tr prog 81 [] ([]) (fun v L' => ∃cb,v=cpP cb∧CapsH 0 PS.new cb L'):=by
 refine YR func81 ntmps81 fun W F=>?_
 refine zq [3,4,1,2,5,3,4] ?_;refine zD sf_new ?_;rintro _ Q1 ⟨sb1,rfl,hS1⟩;refine Ops.app ?_
 skip
 refine zq [23] ?_;refine zD tr_fNew ?_;rintro _ R1 ⟨tb1,rfl,hT1⟩;refine Ops.app ?_
 skip
 refine zq [23] ?_;refine zB fun b1=>?_
 refine zq [1,2,5,10] ?_;exact zs (L' := cBlk b1 sb1 tb1::(Q1++R1)) (h:=⟨b1,rfl,sb1,tb1,Q1,R1,hS1,hT1,rfl⟩)
theorem tr_smNode(l:List DN)(sb:Nat)(Ls:Hp)(hS:StF l sb Ls)(x r:Int):Tr prog 150 [.agg #[stP sb],.int .i64 x,.int .i64 r] (Ls) (fun u L' => u=.int .i64 (dadd l x r).1∧StF (dadd l x r).2 sb L'):=by
 refine YR func150 ntmps150 fun W F=>?_
 refine Wr ?_;refine zB fun b1=>?_
 refine zq [1,2,5,3,4,6,8,0,0] ?_;refine zD (sf_add hS x r) ?_;rintro _ Q1 ⟨rfl,hS1⟩;refine Ops.app ?_
 skip
 refine zq [1,2,5,10] ?_;exact zr (L' := Q1) ⟨rfl,hS1⟩
theorem tr_mPlant(n cb:Nat)(L:Hp)(p:PS)(hH:CapsH n p cb L)(so:SlotM)(c:CapM):Tr prog 90 [cpP cb,slotV so,c.v] (L) (fun u L' => u=.int .i64 (mPlant p so c).1∧CapsH (n+1) (mPlant p so c).2 cb L'):=by
 obtain ⟨sb,tb,Ls,Lt,hS,hT,rfl⟩:=hH;refine YR func90 ntmps90 fun W F=>?_
 refine Wr ?_;refine zB fun b1=>?_
 refine zB fun b2=>?_
 refine zq [1,2,5,3] ?_;refine AnyH.start ((b2,.cells c.cells.toArray 63)::(b1,.cells [.int .i64 so.1,.int .i64 so.2].toArray 61)::cBlk cb sb tb::[]) 9 rfl ?_;refine zd [0,1,1,3,2,0,3,0,4,2,5,10,6,11] ?_;refine YA 7 ?_;refine Turn.ef rfl rfl (ef_call (sf_put hS so c) rfl rfl) ?_ ?_ <;> rintro _ _ ⟨_,Q1,⟨rfl,hS2⟩,rfl,rfl⟩
 ·infer_instance
 refine AnyH.app ?_
 skip
 refine zd [8,5] ?_;refine YD ?_;refine zq [5,3,3,4,0,22,2,5] ?_;refine Yd rfl (fun h1=>?_) (fun h1=>?_)
 ·
  refine AnyH.start ((b1,.cells [.int .i64 so.1,.int .i64 so.2].toArray 61)::cBlk cb sb tb::[]) 6 rfl ?_;refine zd [0,1,1,3,2,0,3,2,4,10] ?_;refine YA 5 ?_;refine Turn.ef rfl rfl (ef_call (tr_fRoot hT so) rfl rfl) ?_ ?_ <;> rintro _ _ ⟨_,R1,⟨rfl,hT2⟩,rfl,rfl⟩
  ·infer_instance
  refine AnyH.app ?_
  skip
  refine YD ?_;refine zq [5,3,4,0,1,2,5,10] ?_;have he:mPlant p so c=((dput p.l so c).1,⟨(dput p.l so c).2,(ftRoot p.F so).2⟩):=by unfold mPlant;rw[if_pos (by assumption)]
  rw[he];exact zr (L' := cBlk cb sb tb::(Q1++R1)) ⟨rfl,sb,tb,Q1,R1,hS2,hT2,rfl⟩
 refine zq [11,5,3,4,0,1,2,5,10] ?_;have he:mPlant p so c=((dput p.l so c).1,⟨(dput p.l so c).2,p.F⟩):=by unfold mPlant;rw[if_neg (by assumption)]
 rw[he];exact zr (L' := cBlk cb sb tb::(Q1++Lt)) ⟨rfl,sb,tb,Q1,Lt,hS2,hT.more (by omega),rfl⟩
end
section
section
variable(G:Hp)(a:Option Addr)(c:Nat)(l:List Int)(x:Int)(hv:View G 1 (.slice a l.length c) l.length (intsC l))(hl:l.length≤2^40)
include G a c l x hv hl
theorem tr_index:TrR prog 230 [.slice a l.length c,.int .i64 x] (G) (.int .i64 (idxM l x)):=by
 refine YR func230 ntmps230 fun W F=>?_
 refine zq [3,4,1,2,5,3,3,4,0] ?_;refine Yp (pv_len_slice (T:=128) rfl rfl) ?_;refine zq [0,2,5,20] ?_;refine Wp.loop (σ:=Nat) (fun i=>[(0,.slice a l.length c),(1,.int .i64 x),(4,.int .i64 0),(7,.int .i64 l.length),(8,.int .i64 i)]) (fun _=>G++F) (fun i=>i≤l.length∧∀j,j<i→l[j]?≠some x) (fun i=>l.length-i) 0 ⟨Nat.zero_le _,fun j hj=>absurd hj (Nat.not_lt_zero j)⟩ (by exact ⟨rfl,rfl,rfl,rfl,rfl,trivial⟩) (by intro w ho;exact ho) ?_;rintro i K ⟨hi,hn⟩ hK;refine zq [3,4,42,2,5,3] ?_;refine Yd rfl (fun h1=>?_) (fun h1=>?_)
 ·
  obtain ⟨b,o,cap,cc,T,f,hv1,hbv,hr⟩:=hv.open (by omega);cases hv1;obtain ⟨y,hy⟩:∃y,l[i]?=some y:=Y9;have hny:=ints_nth hr hy
  refine zq [11,5,3,20,3,4,0,1,2,5,3,4,0,0,0] ?_;refine Yi rfl rfl (i) rfl ?_;refine Yp (pv_load rfl rfl hny) ?_;refine zq [22,2,5] ?_;refine Yd rfl (fun h2=>?_) (fun h2=>?_)
  ·
   refine zq [3,4,0,1,2,5,10,15,12,12,15,12] ?_;exact zs (h:=⟨by rw[idx_hit (i:=i) (by rw[hy];congr 1;omega) hn],rfl⟩)
  refine zq [11,19,5,4,52,0,2,49] ?_;refine Yy (hK (i+1) ⟨by omega,fun j hj=>?_⟩ (by omega))
  rcases Nat.lt_succ_iff_lt_or_eq.1 hj with hj | rfl
  ·
   exact hn j hj
  rw[hy];intro e;cases e;omega
 refine zq [41,16,16,40,5,3,4,1,2,5,10] ?_;exact zs (h:=⟨by rw[idx_miss (fun j hj=>hn j (by omega))],rfl⟩)
theorem tr_contains:TrR prog 238 [.slice a l.length c,.int .i64 x] (G) (.bool (decide (0≤idxM l x))):=by
 refine YR func238 ntmps238 fun W F=>?_
 refine zq [3,4,1,2,5,3,4,0,0] ?_;refine zC (tr_index G a c l x hv hl) ?_;refine zq [43,1,2,5,10] ?_;exact zr ⟨rfl,rfl⟩
end
theorem tr_clone(G:Hp)(a:Option Addr)(c:Nat)(l:List Int)(hv:View G 1 (.slice a l.length c) l.length (intsC l))(hl:l.length≤2^40):Tr prog 284 [.slice a l.length c] (G) (fun v L' => ∃H,Slc 3 1 v l.length (intsC l) H∧L' = H++G):=by
 refine YR func284 ntmps284 fun W F=>?_
 refine zq [3,4,1,2,5,3,3,4,0] ?_;refine Yp (pv_eql_slcnil rfl rfl) ?_;refine On ?_;refine Wp.cond_t rfl (fun h1=>?_) (fun h1=>?_)
 ·
  obtain rfl:=Option.isNone_iff_eq_none.1 h1;obtain ⟨e0,e1⟩:=view_nil hv;refine zq [3,4,1,2,5,10,12] ?_;exact zs (L' := G) (h:=⟨[],by rw[e0,e1];exact Slc.nil _ _,rfl⟩)
 refine zq [11,5,3,4] ?_;refine Yq (ef_buildSlice0 rfl) fun b1=>?_
 refine zq [0] ?_;refine Ops.ef rfl (ef_appendV (H:=[(b1,.cells ([]:List Value).toArray 3)]) rfl (slc_empty 3 b1) rfl (hv.mono (by intro p hp;simp[hp])) (intsC_one l) (by omega) (by omega) rfl rfl) ?_;rintro _ _ ⟨v1,H1,hs1,rfl,rfl⟩;refine Ops.app ?_
 skip
 refine zq [1,2,5,10] ?_;rw[Nat.zero_add,Y2]at hs1;exact zs (L' := H1++G) (h:=⟨H1,hs1,rfl⟩)
theorem tr_grow(n:Nat)(hn:n≤2^40):Tr prog 279 [.slice none 0 0,.int .i64 n] ([]) (fun v L' => Slc 3 1 v 0 [] L'):=by
 refine YR func279 ntmps279 fun W F=>?_
 refine zq [3,4,1,2,5,3,3,4,0] ?_;refine Yp ((pv_lss rfl rfl).fls (by omega)) ?_;refine zq [2,5,17,11,5,3,3,4,0,0] ?_;refine Yp (pv_cap_slice (T:=128) rfl rfl) ?_;refine zq [0] ?_;refine Yp (pv_len_slice (T:=128) rfl rfl) ?_;refine Yp (pv_sub rfl rfl (w64 (i:=(0:Int)-0) (by omega) (by omega))) ?_;refine Yb rfl rfl (n) ?_;refine zq [1,2,5,3,4,0,44,2,5] ?_;refine Yd rfl (fun h1=>?_) (fun h1=>?_)
 ·
  refine zq [4,0,0] ?_;refine Yp (pv_cap_slice (T:=128) rfl rfl) ?_;refine Yp (pv_sliceTo rfl ⟨_,rfl⟩ (Nat.le_refl 0)) ?_;refine zq [0] ?_;refine Ops.ef rfl (ef_appendZ (sz:=1) (k:=n) rfl rfl (by omega) (by omega) (by omega) rfl rfl (by decide)) ?_;rintro _ _ ⟨b1,c1,cs1,hc1,hk1,rfl,rfl⟩;refine zq [0] ?_;refine Yp (pv_len_slice (T:=128) rfl rfl) ?_;refine Yp (pv_sliceTo (j:=0) rfl ⟨_,rfl⟩ (Nat.zero_le _)) ?_;refine zq [1,2,5,3,4,0,1,2,5,10] ?_;exact zr (L' := [(b1,.cells (cs1:List Value).toArray 3)]) ⟨rfl,.inr ⟨b1,[],cs1,c1,rfl,Nat.zero_le _,by omega,by simp⟩⟩
 refine zq [11,5,3,4,0,1,2,5,10] ?_;exact Ends.ret (L' := []) (res1 rfl rfl) (Slc.nil _ _)
theorem tr_concat(G:Hp)(bx cx:Nat)(ss:List SV)(hv:∀s,s∈ss→View G 1 s.v s.l.length (intsC s.l))(hl:(catM ss).length≤2^40)(hs:ss.length≤2^40):Tr prog 231 [.slice (some ⟨bx,0,none⟩) ss.length cx] ((bx,.cells (ss.map SV.v).toArray 128)::G) (fun v L' => ∃H,Slc 3 1 v (catM ss).length (intsC (catM ss)) H∧L' = H++((bx,.cells (ss.map SV.v).toArray 128)::G)):=by
 refine YR func231 ntmps231 fun W F=>?_
 refine zq [3,4,1,2,5,3,4,1,2,5,3,3,4,0] ?_;refine Yp (pv_len_slice (T:=477) rfl rfl) ?_;refine zq [0,2,5,20] ?_;refine Wp.loop (σ:=Nat) (fun i=>[(0,.slice (some ⟨bx,0,none⟩) ss.length cx),(2,.slice none 0 0),(3,.int .i64 (catUpto ss i).length),(9,.slice (some ⟨bx,0,none⟩) ss.length cx),(10,.int .i64 ss.length),(11,.int .i64 i)]) (fun _=>(bx,.cells (ss.map SV.v).toArray 128)::(G++F)) (fun i=>i≤ss.length) (fun i=>ss.length-i) 0 (Nat.zero_le _) (by exact ⟨rfl,rfl,rfl,rfl,rfl,rfl,trivial⟩) (by intro w ho;exact ho) ?_;intro i K hi hK;refine zq [3,4,42,2,5,3] ?_;refine Yd rfl (fun h1=>?_) (fun h1=>?_)
 ·
  obtain ⟨s,hsi⟩:∃s,ss[i]?=some s:=Y9;have hcs:=catUpto_succ hsi
  have hcl:=catUpto_len ss (i+1)
  have hcl2:(catUpto ss (i+1)).length=(catUpto ss i).length+s.l.length:=by rw[hcs,Y3]
  refine zq [11,5,3,20,3,4] ?_;refine Yi rfl rfl (i) rfl ?_;refine Yp (pv_load rfl rfl (sv_nth hsi)) ?_;refine zq [1,2,5,3,4,0,0] ?_;refine Yp (pv_len_slice (T:=128) rfl rfl) ?_;refine Ya rfl rfl ((catUpto ss (i+1)).length) ?_;refine zq [1,2,5,3,4,0] ?_;refine Yp ((pv_lss rfl rfl).fls (by omega)) ?_;refine zq [2,5,17,11,19,5,4,52,0,2,49] ?_;refine Yy (hK (i+1) (by omega) (by omega))
 obtain rfl:i=ss.length:=by omega
 have hcall:=catUpto_all ss
 refine zq [41,16,16,40,5,3,4,0] ?_;rw[hcall];refine zD (tr_grow (catM ss).length hl) ?_;rintro _ _ hg1;refine Ops.app ?_
 skip
 refine zq [1,2,5,3,3,4,0] ?_;refine Yp (pv_len_slice (T:=477) rfl rfl) ?_;refine zq [0,2,5,20] ?_;refine Wp.loop (σ:=Nat×Value×Hp) (fun x=>[(2,.slice none 0 0),(6,x.2.1),(25,.slice (some ⟨bx,0,none⟩) ss.length cx),(26,.int .i64 ss.length),(27,.int .i64 x.1)]) (fun x=>x.2.2++((bx,.cells (ss.map SV.v).toArray 128)::(G++F))) (fun x=>x.1≤ss.length∧Slc 3 1 x.2.1 (catUpto ss x.1).length (intsC (catUpto ss x.1)) x.2.2) (fun x=>ss.length-x.1) (0,_,_) ⟨Nat.zero_le _,hg1⟩ (by exact ⟨rfl,rfl,rfl,rfl,rfl,trivial⟩) (by intro w ho;exact ho) ?_;rintro ⟨i,v,H⟩ K ⟨hi,hs2⟩ hK;dsimp only at hi hs2 hK ⊢;refine zq [3,4,42,2,5,3] ?_;refine Yd rfl (fun h2=>?_) (fun h2=>?_)
 ·
  obtain ⟨s,hsi⟩:∃s,ss[i]?=some s:=Y9;have hcs:=catUpto_succ hsi
  have hcl:=catUpto_len ss (i+1)
  have hcl2:(catUpto ss (i+1)).length=(catUpto ss i).length+s.l.length:=by rw[hcs,Y3]
  have hvs:=hv s (List.mem_of_getElem? hsi)
  refine zq [11,5,3,20,3,4] ?_;refine Yi rfl rfl (i) rfl ?_;refine Yp (pv_load rfl rfl (sv_nth hsi)) ?_;refine zq [1,2,5,4,0,0] ?_;refine Ops.ef rfl (ef_appendV (H:=H) rfl hs2 rfl (hvs.mono (by intro p hp;simp[hp])) (intsC_one s.l) (by omega) (by omega) rfl rfl) ?_;rintro _ _ ⟨v1,H1,hs1,rfl,rfl⟩;refine Ops.app ?_
  skip
  refine zq [1,2,19,5,4,52,0,2,49] ?_;refine Yy (hK (i+1,v1,H1) ⟨by dsimp only;omega,?_⟩ (by dsimp only;omega));dsimp only;rw[hcs,Y3,intsC_app];exact hs1
 obtain rfl:i=ss.length:=by omega
 refine zq [41,16,16,40,5,3,4,0,1,2,5,10] ?_;rw[catUpto_all]at hs2;exact zs (L' := H++((bx,.cells (ss.map SV.v).toArray 128)::G)) (h:=⟨H,hs2,rfl⟩)
theorem tr_concat2(G:Hp)(bx cx:Nat)(a1 a2:Option Addr)(c1 c2:Nat)(l1 l2:List Int)(hv1:View G 1 (.slice a1 l1.length c1) l1.length (intsC l1))(hv2:View G 1 (.slice a2 l2.length c2) l2.length (intsC l2))(hl:(l1++l2).length≤2^40) :
    Tr prog 231 [.slice (some ⟨bx,0,none⟩) 2 cx] ((bx,.cells [.slice a1 l1.length c1,.slice a2 l2.length c2].toArray 128)::G) (fun v L' => ∃H,Slc 3 1 v (l1++l2).length (intsC (l1++l2)) H∧L' = H++((bx,.cells [.slice a1 l1.length c1,.slice a2 l2.length c2].toArray 128)::G)):=by
  have e:catM [⟨a1,c1,l1⟩,⟨a2,c2,l2⟩]=l1++l2:=by simp[catM]
  have h:=tr_concat G bx cx [⟨a1,c1,l1⟩,⟨a2,c2,l2⟩] (forall_two (p:=fun s=>View G 1 s.v s.l.length (intsC s.l)) hv1 hv2) (by rw[e];exact hl) (by simp)
  rw[e]at h;exact h
end
section
def rightM (x:Int):Bool:=decide (0≤x) && decide (x<64)
def pushE (l:List Int) (x:Int):Int:=if rightM x=false then 1 else if 0≤idxM l x then 4 else 0
def pushL (l:List Int) (x:Int):List Int:=if pushE l x=0 then l++[x] else l
def remB (l:List Int) (x:Int):Bool:=decide (0≤idxM l x)
def remL (l:List Int) (x:Int):List Int:=if 0≤idxM l x then l.take (idxM l x).toNat++l.drop ((idxM l x).toNat+1) else l
section
variable{l:List Int}{x:Int}
include l x
theorem pushL_ok(h1:rightM x=true)(h2:¬0≤idxM l x):pushE l x=0∧pushL l x=l++[x]:=by
 have:pushE l x=0:=by unfold pushE;rw[if_neg (by simp[h1]),if_neg h2]
 exact ⟨this,by unfold pushL;rw[if_pos this]⟩
theorem pushL_range(h1:rightM x=false):pushE l x=1∧pushL l x=l:=by
 have:pushE l x=1:=by unfold pushE;rw[if_pos h1]
 exact ⟨this,by unfold pushL;rw[if_neg (by omega)]⟩
theorem pushL_twice(h1:rightM x=true)(h2:0≤idxM l x):pushE l x=4∧pushL l x=l:=by
 have:pushE l x=4:=by unfold pushE;rw[if_neg (by simp[h1]),if_pos h2]
 exact ⟨this,by unfold pushL;rw[if_neg (by omega)]⟩
end
end
section
def bitsN (p:Nat→Bool):Nat→Nat
  | 0=>0
  | n+1=>bitsN p n+if p n then 2^n else 0
theorem bitsN_lt(p:Nat→Bool):∀n,bitsN p n<2^n
  | 0=>by simp[bitsN]
  | n+1=>by
    have:=bitsN_lt p n
    simp only[bitsN,Nat.pow_succ]; split <;> omega
theorem bitsN_test(p:Nat→Bool):∀n k,(bitsN p n).testBit k=(decide (k<n) && p k)
  | 0,k=>by simp[bitsN]
  | n+1,k=>by
    have ih:=bitsN_test p n k
    have hl:=bitsN_lt p n
    simp only[bitsN]
    by_cases hp:p n
    · rw[if_pos hp,Nat.add_comm]
      by_cases e:k=n
      · subst e;rw[Nat.testBit_two_pow_add_eq,ih];simp[hp]
      · rcases Nat.lt_or_gt_of_ne e with h | h
        · rw[Nat.testBit_two_pow_add_gt h,ih];simp[h,Nat.lt_succ_of_lt h]
        · rw[Nat.testBit_lt_two_pow]
          · simp[show ¬k<n+1 by omega]
          · have h1:2^(n+1)≤2^k:=Nat.pow_le_pow_right (by omega) (by omega)
            rw[Nat.pow_succ]at h1;omega
    · rw[if_neg hp,Nat.add_zero,ih]
      by_cases e:k=n
      · subst e;simp[hp]
      · have:(k<n+1)↔k<n:=by omega
        simp[this]
theorem bitsN_congr{p q:Nat→Bool}:∀{n},(∀k,k<n→p k=q k)→bitsN p n=bitsN q n
  | 0,_=>rfl
  | n+1,h=>by simp only[bitsN];rw[bitsN_congr (fun k hk=>h k (by omega)),h n (by omega)]
theorem bitsN_or{p:Nat→Bool}{k:Nat}(hk:k<8):bitsI .or .u64 ((bitsN p 8:Nat):Int) ((2^k:Nat):Int)=((bitsN (fset p k true) 8:Nat):Int):=by
 have h1:=bitsN_lt p 8
 have h2:=bitsN_lt (fset p k true) 8
 have h3:2^k<2^8:=Nat.pow_lt_pow_right (by omega) hk
 have e:(BitVec.ofInt 64 ((bitsN p 8:Nat):Int) ||| BitVec.ofInt 64 ((2^k:Nat):Int)).toNat=bitsN (fset p k true) 8:=by
  rw[BitVec.ofInt_natCast,BitVec.ofInt_natCast,BitVec.toNat_or,BitVec.toNat_ofNat,BitVec.toNat_ofNat,Nat.mod_eq_of_lt (by omega),Nat.mod_eq_of_lt (by omega)];apply Nat.eq_of_testBit_eq;intro i;rw[Nat.testBit_or,bitsN_test,bitsN_test,Nat.testBit_two_pow];unfold fset
  by_cases e:i=k
  ·
   subst e;simp[hk]
  ·
   simp[e,Ne.symm e]
 show IntKind.u64.wrap ((BitVec.ofInt 64 ((bitsN p 8:Nat):Int) ||| BitVec.ofInt 64 ((2^k:Nat):Int)).toNat:Int)=_
 rw[e];exact u64n rfl (by omega)
theorem bitsN_andNot{p:Nat→Bool}{k:Nat}(hk:k<8):bitsI .andNot .u64 ((bitsN p 8:Nat):Int) ((2^k:Nat):Int)=((bitsN (fset p k false) 8:Nat):Int):=by
 have h1:=bitsN_lt p 8
 have h2:=bitsN_lt (fset p k false) 8
 have h3:2^k<2^8:=Nat.pow_lt_pow_right (by omega) hk
 have e:(BitVec.ofInt 64 ((bitsN p 8:Nat):Int) &&& ~~~ BitVec.ofInt 64 ((2^k:Nat):Int)).toNat=bitsN (fset p k false) 8:=by
  rw[BitVec.ofInt_natCast,BitVec.ofInt_natCast];apply Nat.eq_of_testBit_eq;intro i;rw[BitVec.testBit_toNat,BitVec.getLsbD_and,BitVec.getLsbD_not,BitVec.getLsbD_ofNat,BitVec.getLsbD_ofNat,bitsN_test,bitsN_test,Nat.testBit_two_pow];unfold fset
  by_cases e:i=k
  ·
   subst e;simp
  ·
   by_cases h:i<8
   ·
    simp[e,Ne.symm e,h,show i<64 by omega]
   ·
    simp[h]
 show IntKind.u64.wrap ((BitVec.ofInt 64 ((bitsN p 8:Nat):Int) &&& ~~~ BitVec.ofInt 64 ((2^k:Nat):Int)).toNat:Int)=_
 rw[e];exact u64n rfl (by omega)
def hiM (p:Nat→Bool):Nat→Int
  | 0 => -1
  | n+1=>if p n then n else hiM p n
theorem hiM_congr{p q:Nat→Bool}:∀{n},(∀k,k<n→p k=q k)→hiM p n=hiM q n
  | 0,_=>rfl
  | n+1,h=>by simp only[hiM];rw[hiM_congr (fun k hk=>h k (by omega)),h n (by omega)]
theorem hiM_cut{p:Nat→Bool}{n:Nat}:∀{m},n≤m→(∀k,n≤k→k<m→p k=false)→hiM p m=hiM p n
  | 0,h,_=>by
    have:n=0:=by omega
    rw[this]
  | m+1,h,hp=>by
    by_cases e:n=m+1
    · subst e;rfl
    · simp only[hiM];rw[hp m (by omega) (by omega),if_neg (by simp)];exact hiM_cut (by omega) (fun k h1 h2=>hp k h1 (by omega))
theorem hiM_some{p:Nat→Bool}:∀{n} {k:Nat},hiM p n=k→k<n∧p k=true∧∀j,k<j→j<n→p j=false
  | 0,k,h=>by simp only[hiM]at h;omega
  | n+1,k,h=>by
    simp only[hiM]at h
    split at h
    · obtain rfl:n=k:=by omega
      exact ⟨by omega,by assumption,fun j h1 h2=>by omega⟩
    · obtain ⟨h1,h2,h3⟩:=hiM_some h
      refine ⟨by omega,h2,fun j hj hj2=>?_⟩
      by_cases e:j=n
      · subst e;simp_all
      · exact h3 j hj (by omega)
theorem hiM_bits(p:Nat→Bool):hiM (fun k=>(bitsN p 8).testBit k) 64=hiM p 8:=by
 rw[hiM_cut (n:=8) (by omega) (fun k h1 h2=>by simp only[bitsN_test];simp[show ¬k<8 by omega])];exact hiM_congr (fun k hk=>by rw[bitsN_test];simp[hk])
def oneC (e:Int×Int):List Value:=[.int .i64 e.1,.int .i64 e.2]
instance:Enc oneC 2:=⟨fun _=>rfl,fun _=>rfl⟩
abbrev Ones:=List (Int×Int)
def lvl (L:Ones) (k:Int):List Int:=(L.filter (fun e=>decide (e.2=k))).map (·.1)
def inR (L:Ones) (x:Int):Bool:=decide (x∈L.map (·.1))
def putE (L:Ones) (x k:Int):Int:=if (rightM x && decide (0≤k) && decide (k<8))=false then 1 else if inR L x then 4 else 0
def putR (L:Ones) (x k:Int):Ones:=if putE L x k=0 then L++[(x,k)] else L
def dropR (L:Ones) (x:Int):Ones:=L.filter (fun e=>decide (e.1≠x))
def has (L:Ones) (k:Nat):Bool:=!(lvl L k).isEmpty
abbrev levN (L:Ones):Nat:=bitsN (has L) 8
def nextI (L:Ones):Int:=hiM (has L) 8
def nextV (L:Ones):Int:=if nextI L<0 then 0 else (lvl L (nextI L)).headD 0
def nextB (L:Ones):Bool:=decide (0≤nextI L)
structure RdyW (L:Ones):Prop where
  lev:∀e,e∈L→0≤e.2∧e.2<8
  nd:(L.map (·.1)).Nodup
theorem RdyW.nil:RdyW []:=⟨fun e h=>(List.not_mem_nil h).elim,List.nodup_nil⟩
theorem lvl_len(L:Ones)(k:Int):(lvl L k).length≤L.length:=by unfold lvl;rw[List.length_map];exact List.length_filter_le _ _
theorem lvl_mem{L:Ones}{k x:Int}:x∈lvl L k↔(x,k)∈L:=by
 unfold lvl;simp only[List.mem_map,List.mem_filter,decide_eq_true_eq]
 constructor
 ·
  rintro ⟨⟨a,b⟩,⟨h1,h2⟩,h3⟩;simp only at h2 h3;subst h2;subst h3;exact h1
 ·
  intro h;exact ⟨(x,k),⟨h,rfl⟩,rfl⟩
section
variable{L:Ones}(h:RdyW L)
include L h
theorem lvl_nd(k:Int):(lvl L k).Nodup:=h.nd.sublist (List.filter_sublist.map _)
theorem inR_iff{x:Int}:inR L x=true↔∃k:Nat,k<8∧x∈lvl L k:=by
 unfold inR;rw[decide_eq_true_eq,List.mem_map]
 constructor
 ·
  rintro ⟨⟨a,b⟩,h1,rfl⟩;have:=h.lev _ h1
  exact ⟨b.toNat,by simp only at this;omega,lvl_mem.2 (by simp only at this ⊢;rw[Int.toNat_of_nonneg this.1];exact h1)⟩
 ·
  rintro ⟨k,_,hk⟩;exact ⟨_,lvl_mem.1 hk,rfl⟩
theorem inR_false{x:Int}(hn:∀k:Nat,k<8→¬0≤idxM (lvl L k) x):inR L x=false:=by
 rw[←Bool.not_eq_true,inR_iff h];rintro ⟨k,hk,hm⟩;exact hn k hk ((idx_mem _ _).2 hm)
theorem inR_true{x:Int}{k:Nat}(hk:k<8)(hm:0≤idxM (lvl L k) x):inR L x=true :=
  (inR_iff h).2 ⟨k,hk,(idx_mem _ _).1 hm⟩
end
theorem lvl_put(L:Ones)(x k j:Int):lvl (L++[(x,k)]) j=if j=k then lvl L j++[x] else lvl L j:=by
 unfold lvl;rw[List.filter_append]
 by_cases h:j=k
 ·
  subst h;simp
 ·
  simp[h,Ne.symm h]
theorem lvl_drop(L:Ones)(x k:Int):lvl (dropR L x) k=(lvl L k).filter (fun y=>decide (y≠x)):=by
 unfold lvl dropR;rw[List.filter_filter,List.filter_map,List.filter_filter]
 congr 1
 apply List.filter_congr;intro e _;exact Bool.and_comm _ _
theorem rem_filter{l:List Int}(hn:l.Nodup)(x:Int):remL l x=l.filter (fun y=>decide (y≠x)):=by
 induction l with
 | nil=>simp[remL,idxM]
 | cons a l ih =>
  rw[List.nodup_cons]at hn
  by_cases h:a=x
  ·
   subst h;have e:(l.filter fun y=>decide (y≠a))=l:=by
    rw[List.filter_eq_self];intro y hy;simp;rintro rfl;exact hn.1 hy
   rw[List.filter_cons_of_neg (by simp),e];simp[remL,idxM]
  ·
   rw[List.filter_cons_of_pos (by simp[h]),←ih hn.2];unfold remL;simp only[idxM,if_neg h]
   by_cases h2:idxM l x<0
   ·
    rw[if_pos h2,if_neg (by omega),if_neg (by omega)]
   ·
    rw[if_neg h2,if_pos (by omega),if_pos (by omega)];rw[show (idxM l x+1).toNat=(idxM l x).toNat+1 by omega];simp
theorem rem_lvl{L:Ones}(h:RdyW L)(x k:Int):remL (lvl L k) x=lvl (dropR L x) k:=by rw[lvl_drop,rem_filter (lvl_nd h k)]
theorem drop_none{L:Ones}{x:Int}(h:inR L x=false):dropR L x=L:=by
 unfold dropR;rw[List.filter_eq_self];intro e he
 have:x ∉ L.map (·.1):=by simpa [inR] using h
 simp;rintro rfl;exact this (List.mem_map.2 ⟨e,he,rfl⟩)
theorem RdyW.drop{L:Ones}(h:RdyW L)(x:Int):RdyW (dropR L x) :=
  ⟨fun e he=>h.lev e (List.mem_filter.1 he).1,h.nd.sublist (List.filter_sublist.map _)⟩
theorem dropR_len(L:Ones)(x:Int):(dropR L x).length≤L.length:=List.length_filter_le _ _
theorem putE_zero{L:Ones}{x k:Int}(h:putE L x k=0):rightM x=true∧0≤k∧k<8∧inR L x=false:=by
 unfold putE at h
 split at h
 ·
  omega
 ·
  split at h
  ·
   omega
  ·
   rename_i h1 h2
   simp at h1 h2;exact ⟨h1.1,h1.2.1,h1.2.2,h2⟩
theorem putR_ok{L:Ones}{x k:Int}(h:putE L x k=0):putR L x k=L++[(x,k)]:=if_pos h
theorem RdyW.put{L:Ones}(h:RdyW L)(x k:Int):RdyW (putR L x k):=by
 by_cases e:putE L x k=0
 ·
  rw[putR_ok e];obtain ⟨h1,h2,h3,h4⟩:=putE_zero e;refine ⟨fun e' he=>?_,?_⟩
  ·
   rcases List.mem_append.1 he with he | he
   ·
    exact h.lev _ he
   ·
    obtain rfl:=List.mem_singleton.1 he;exact ⟨h2,h3⟩
  ·
   rw[List.map_append,List.nodup_append];refine ⟨h.nd,by simp,?_⟩;intro a ha b hb;simp at hb;subst hb;rintro rfl;have:a ∉ L.map (·.1):=by simpa [inR] using h4
   exact this ha
 ·
  unfold putR;rw[if_neg e];exact h
theorem has_put{L:Ones}{x:Int}{k:Nat}(j:Nat):has (L++[(x,(k:Int))]) j=fset (has L) k true j:=by
 unfold has fset;rw[lvl_put]
 by_cases e:j=k
 ·
  subst e;simp
 ·
  rw[if_neg (by omega),if_neg e]
theorem nodup_key{α β:Type}:∀{L:List (α×β)} {a:α} {b c:β},(L.map (·.1)).Nodup→(a,b)∈L→(a,c)∈L→b=c
  | [],_,_,_,_,h,_=>(List.not_mem_nil h).elim
  | x::L,a,b,c,hn,h1,h2=>by
    rw[List.map_cons,List.nodup_cons]at hn
    rcases List.mem_cons.1 h1 with e1 | g1 <;> rcases List.mem_cons.1 h2 with e2 | g2
    · rw[←e1]at e2;exact (congrArg Prod.snd e2).symm
    · exact (hn.1 (List.mem_map.2 ⟨(a,c),g2,by rw[←e1]⟩)).elim
    · exact (hn.1 (List.mem_map.2 ⟨(a,b),g1,by rw[←e2]⟩)).elim
    · exact nodup_key hn.2 g1 g2
section
variable{L:Ones}(h:RdyW L){x:Int}{k:Nat}(hk:0≤idxM (lvl L k) x)(j:Nat)
include L h x k hk j
theorem lvl_drop_ne(hj:j≠k):lvl (dropR L x) j=lvl L j:=by
 rw[lvl_drop,List.filter_eq_self];intro y hy;have h1:=lvl_mem.1 ((idx_mem _ _).1 hk)
 have h2:=lvl_mem.1 hy
 simp only[decide_eq_true_eq];rintro rfl;have:=nodup_key h.nd h1 h2
 omega
theorem has_drop:has (dropR L x) j=fset (has L) k (decide (0<(remL (lvl L k) x).length)) j:=by
 unfold fset
 by_cases e:j=k
 ·
  subst e;rw[if_pos rfl,rem_lvl h];unfold has;cases lvl (dropR L x) j <;> simp
 ·
  rw[if_neg e];unfold has;rw[lvl_drop_ne h hk j e]
end
end
section
theorem set_same{c:List Value}{i:Nat}{v:Value}(h:nth c i=some v):c.set i v=c:=by
 apply List.ext_getElem?;intro j;rw[nth_eq]at h;rw[List.getElem?_set]
 split
 ·
  rename_i e;subst e;rw[h];simp[(List.getElem?_eq_some_iff.1 h).1]
 rfl
theorem tr_right(x:Int):TrR prog 241 [.int .i64 x] ([]) (.bool (rightM x)):=by
 refine YR func241 ntmps241 fun W F=>?_
 refine zq [3,4,1,2,5,3,4,0,43,0] ?_;refine Ops.split (t:=5) rfl (fun h1=>?_) (fun h1=>?_)
 ·
  refine zq [21] ?_;refine Yg (pv_lss rfl rfl) ?_;refine zq [24,1,2,5,10] ?_;exact zs (h:=⟨by simp only[rightM];simp[*],rfl⟩)
 refine zq [13,13,26,1,2,5,10] ?_;exact zs (h:=⟨by simp only[rightM];simp[*],rfl⟩)
section
variable(lb off TT:Nat)(c0:List Value)(v:Value)(H:Hp)(l:List Int)(x:Int)(hs:Slc 3 1 v l.length (intsC l) H)(hl:l.length≤2^30)(hc0:nth c0 off=some v)
include lb off TT c0 v H l x hs hl hc0
theorem tr_lpushG:Tr prog 242 [.pointer (some ⟨lb,off,none⟩),.int .i64 x] ((lb,.cells c0.toArray TT)::H) (fun u L' => u=.int .i64 (pushE l x)∧∃v' H', Slc 3 1 v' (pushL l x).length (intsC (pushL l x)) H' ∧ L' = (lb,.cells (c0.set off (v'):List Value).toArray TT)::H'):=by
 obtain ⟨a,c,rfl⟩:=hs.form;have hv:=hs.view
 have hset:∀v', SetL c0 (off+0) [v'] (c0.set off v'):=fun v' => SetL.set1 (by rw[nth_eq]at hc0;exact (List.getElem?_eq_some_iff.1 hc0).1)
 have hset0:c0.set off (.slice a l.length c)=c0:=set_same hc0
 refine YR func242 ntmps242 fun W F=>?_
 refine zq [3,4,1,2,5,3,20,3,4,0] ?_;refine zC (tr_right x) ?_;refine zq [39,1,2,5] ?_;refine Wp.cond_t rfl (fun h1=>?_) (fun h1=>?_)
 ·
  refine zq [3,4,1,2,5,10,15,12] ?_;exact zs (L' := (lb,.cells c0.toArray TT)::H) (h:=⟨by rw[(pushL_range (by simpa using h1)).1],_,H,by rw[(pushL_range (l:=l) (by simpa using h1)).2];exact hs,by rw[hset0]⟩)
 refine zq [3,4,0,9,61] ?_;refine Yp (pv_load rfl rfl (by assumption)) ?_;refine zq [0] ?_;refine zC (tr_contains H a c l x hv (by omega)) ?_;refine zq [1,2,5] ?_;refine Yd rfl (fun h2=>?_) (fun h2=>?_)
 ·
  refine zq [3,4,1,2,5,10,15,12] ?_;exact zs (L' := (lb,.cells c0.toArray TT)::H) (h:=⟨by rw[(pushL_twice (by simpa using h1) h2).1],_,H,by rw[(pushL_twice (by simpa using h1) h2).2];exact hs,by rw[hset0]⟩)
 refine zq [11,19,5,3,4,0,0,9,61] ?_;refine Yp (pv_load rfl rfl (by assumption)) ?_;refine zq [0] ?_;refine Yq (ef_buildSlice1 (k:=1) rfl rfl rfl rfl rfl) fun b1=>?_
 refine Ops.ef rfl (ef_append (H:=H) (xs:=[.int .i64 x]) rfl hs rfl ⟨rfl,trivial⟩ rfl rfl rfl (by omega) (by omega) rfl rfl) ?_;rintro _ _ ⟨v1,H1,hs1,rfl,rfl⟩;refine Ops.app ?_;have ho1:=hs1.one
 have ho2:=hs1.cells1
 refine zq [9,61,25,2,5,3,4,1,2,5,10] ?_;rw[show l.length+1=(pushL l x).length by rw[(pushL_ok (by simpa using h1) h2).2];simp,show intsC l++[.int .i64 x]=intsC (pushL l x) by rw[(pushL_ok (by simpa using h1) h2).2,intsC_app];rfl]at hs1;exact zs (L' := (lb,.cells (c0.set off (v1):List Value).toArray TT)::H1) (h:=⟨by rw[(pushL_ok (by simpa using h1) h2).1],v1,H1,hs1,rfl⟩)
theorem tr_lremoveG:Tr prog 184 [.pointer (some ⟨lb,off,none⟩),.int .i64 x] ((lb,.cells c0.toArray TT)::H) (fun u L' => u=.bool (remB l x)∧∃v' H', Slc 3 1 v' (remL l x).length (intsC (remL l x)) H' ∧ L' = (lb,.cells (c0.set off (v'):List Value).toArray TT)::H'):=by
 obtain ⟨a,c,rfl⟩:=hs.form;have hv:=hs.view
 have hset:∀v', SetL c0 (off+0) [v'] (c0.set off v'):=fun v' => SetL.set1 (by rw[nth_eq]at hc0;exact (List.getElem?_eq_some_iff.1 hc0).1)
 have hset0:c0.set off (.slice a l.length c)=c0:=set_same hc0
 have hlc:l.length≤c:=by obtain ⟨_,_,_,e,h,_⟩:=hv;cases e;exact h
 refine YR func184 ntmps184 fun W F=>?_
 refine zq [3,4,1,2,5,3,4,0,9,61] ?_;refine Yp (pv_load rfl rfl (by assumption)) ?_;refine zq [0] ?_;refine zC (tr_index H a c l x hv (by omega)) ?_;refine zq [1,2,5,3,3,4,0,42,2,5] ?_;refine Yd rfl (fun h1=>?_) (fun h1=>?_)
 ·
  refine zq [3,4,1,2,5,10,12] ?_;exact zs (L' := (lb,.cells c0.toArray TT)::H) (h:=⟨by rw[show remB l x=false from decide_eq_false (by omega)],_,H,by rw[show remL l x=l from if_neg (by omega)];exact hs,by rw[hset0]⟩)
 obtain ⟨i,hi⟩:∃i:Nat,idxM l x=i:=⟨(idxM l x).toNat,by omega⟩;have hil:i<l.length:=by have:=idx_lt l x;omega
 rw[hi];have hA:=view_part hv (i:=0) (j:=i) (Nat.zero_le _) (by omega)
 have hB:=view_part hv (i:=i+1) (j:=l.length) (by omega) (Nat.le_refl _)
 have eA:(l.drop 0).take (i-0)=l.take i:=by simp
 have eB:(l.drop (i+1)).take (l.length-(i+1))=l.drop (i+1):=List.take_of_length_le (by simp)
 have lA:=part_len (l:=l) (i:=0) (j:=i) (Nat.zero_le _) (by omega)
 have lB:=part_len (l:=l) (i:=i+1) (j:=l.length) (by omega) (Nat.le_refl _)
 rw[eA]at hA lA;rw[eB]at hB lB;have hrem:remL l x=l.take i++l.drop (i+1):=by unfold remL;rw[if_pos (by omega),hi,Int.toNat_natCast]
 have hrb:remB l x=true:=decide_eq_true (by omega)
 refine zq [11,5,3] ?_;refine AnyH.start H 19 rfl ?_;refine zd [0,1,1,1,2,3,3,6,5,1,7,1,8,3,9,6,11,1] ?_;refine Yh 12 rfl (pv_add rfl rfl (w64n (k:=i+1) (by omega) (by omega))) ?_;refine YB 4 10 ?_ ?_
 ·
  refine Yv rfl rfl (pv_load rfl rfl (by assumption)) ?_;refine Yh 6 rfl (pv_sliceL (i:=0) (j:=i) rfl rfl ⟨_,rfl⟩ (Nat.zero_le _) (by omega) lA.symm) ?_;refine YA 10 ?_;refine Yv rfl rfl (pv_load rfl rfl (by assumption)) ?_;refine Yh 13 rfl (pv_sliceL (i:=i+1) (j:=l.length) rfl ⟨_,rfl⟩ rfl (by omega) hlc lB.symm) ?_;refine YA 14 ?_;refine Yw rfl rfl (ef_buildSlice2 rfl rfl rfl rfl rfl rfl) fun b1=>?_
  refine YA 15 ?_;refine Turn.ef rfl rfl (ef_call (tr_concat2 H b1 2 (if c=0 then a else a.map (·.add (0*1))) (if c=i+1 then a else a.map (·.add ((i+1)*1))) (c-0) (c-(i+1)) (l.take i) (l.drop (i+1)) hA hB (by simp; omega)) rfl rfl) ?_ ?_ <;> rintro _ _ ⟨_,_,⟨H1,hs1,rfl⟩,rfl,rfl⟩
  ·infer_instance
  refine AnyH.app ?_;have ho1:=hs1.one
  have ho2:=hs1.cells1
  refine zd [16,3,17,6] ?_;refine z1 18 ?_;refine YD ?_;refine zq [5,3,4,1,2,5,10] ?_;rw[←hrem]at hs1;exact zs (L' := (lb,.cells (c0.set off _:List Value).toArray TT)::H1) (h:=⟨by rw[hrb],_,H1,hs1,rfl⟩)
 refine Yv rfl rfl (pv_load rfl rfl (by assumption)) ?_;refine Yh 13 rfl (pv_sliceL (i:=i+1) (j:=l.length) rfl ⟨_,rfl⟩ rfl (by omega) hlc lB.symm) ?_;refine YA 4 ?_;refine Yv rfl rfl (pv_load rfl rfl (by assumption)) ?_;refine Yh 6 rfl (pv_sliceL (i:=0) (j:=i) rfl rfl ⟨_,rfl⟩ (Nat.zero_le _) (by omega) lA.symm) ?_;refine YA 14 ?_;refine Yw rfl rfl (ef_buildSlice2 rfl rfl rfl rfl rfl rfl) fun b2=>?_
 refine YA 15 ?_;refine Turn.ef rfl rfl (ef_call (tr_concat2 H b2 2 (if c=0 then a else a.map (·.add (0*1))) (if c=i+1 then a else a.map (·.add ((i+1)*1))) (c-0) (c-(i+1)) (l.take i) (l.drop (i+1)) hA hB (by simp; omega)) rfl rfl) ?_ ?_ <;> rintro _ _ ⟨_,_,⟨H2,hs2,rfl⟩,rfl,rfl⟩
 ·infer_instance
 refine AnyH.app ?_;have ho1:=hs2.one
 have ho2:=hs2.cells1
 refine zd [16,3,17,6] ?_;refine z1 18 ?_;refine YD ?_;refine zq [5,3,4,1,2,5,10] ?_;rw[←hrem]at hs2;exact zs (L' := (lb,.cells (c0.set off _:List Value).toArray TT)::H2) (h:=⟨by rw[hrb],_,H2,hs2,rfl⟩)
end
theorem tr_listG(lb off TT:Nat)(c0:List Value)(G:Hp)(a:Option Addr)(c:Nat)(l:List Int)(hv:View G 1 (.slice a l.length c) l.length (intsC l))(hl:l.length≤2^30)(hc0:nth c0 off=some (.slice a l.length c)):Tr prog 255 [.pointer (some ⟨lb,off,none⟩)] ((lb,.cells c0.toArray TT)::G) (fun u L' => ∃H', Slc 3 1 u l.length (intsC l) H' ∧ L' = H' ++ ((lb,.cells c0.toArray TT)::G)):=by
 refine YR func255 ntmps255 fun W F=>?_
 refine zq [3,4,1,2,5,3,4,0,9,61] ?_;refine Yp (pv_load rfl rfl (by assumption)) ?_;refine zD (tr_clone G a c l hv (by omega)) ?_;rintro _ _ ⟨H1,hs1,rfl⟩;refine Ops.app ?_
 skip
 refine zq [1,2,5,10] ?_;exact zs (L' := H1++((lb,.cells c0.toArray TT)::G)) (h:=⟨H1,hs1,rfl⟩)
end
section
def rdyC (vs:Nat→Value) (w:Nat):List Value:=(List.range 8).map vs++[.int .u64 (w:Int)]
theorem rdy_line{vs:Nat→Value}{w k:Nat}(hk:k<8):nth (rdyC vs w) (0+k*1)=some (vs k):=by
 rw[nth_eq,Nat.zero_add,Nat.mul_one];unfold rdyC;rw[List.getElem?_append_left (by simp[hk]),List.getElem?_map,List.getElem?_range hk];rfl
theorem rdy_set{vs:Nat→Value}{w k:Nat}{v:Value}(hk:k<8):(rdyC vs w).set (0+k*1) v=rdyC (fset vs k v) w:=by
 rw[Nat.zero_add,Nat.mul_one];unfold rdyC;rw[List.set_append_left _ _ (by simp[hk])]
 congr 1
 apply List.ext_getElem?;intro j;rw[List.getElem?_set,List.getElem?_map,List.getElem?_map,List.length_map,List.length_range]
 by_cases e:k=j
 ·
  subst e;rw[if_pos rfl,if_pos hk,List.getElem?_range hk,Option.map_some,fset_same]
 ·
  rw[if_neg e]
  by_cases h:j<8
  ·
   rw[List.getElem?_range h,Option.map_some,Option.map_some,fset_ne (Ne.symm e)]
  ·
   rw[List.getElem?_eq_none (by simpa using h)];rfl
theorem rdy_lev{vs:Nat→Value}{w:Nat}:nth (rdyC vs w) 8=some (.int .u64 (w:Int)):=rfl
instance rdy_setL {vs:Nat→Value} {w w' : Nat}:SetL (rdyC vs w) 8 [.int .u64 (w' : Int)] (rdyC vs w'):=by
  have h:=SetL.set1 (l:=rdyC vs w) (i:=8) (v:=.int .u64 (w' : Int)) (by simp[rdyC])
  have e:(rdyC vs w).set 8 (.int .u64 (w' : Int))=rdyC vs w' := by
    unfold rdyC;rw[List.set_append_right _ _ (by simp)];rfl
  rw[e]at h;exact h
def RdyS (ls:Nat→List Int) (vs:Nat→Value) (h:Nat→Hp):Prop:=∀k,k<8→Slc 3 1 (vs k) (ls k).length (intsC (ls k)) (h k)
def RdyH (L:Ones) (rb:Nat) (H:Hp):Prop:=∃vs h,RdyS (fun k=>lvl L k) vs h∧H=(rb,.cells (rdyC vs (levN L)).toArray 350)::segs h 8
theorem RdyS.set{ls ls' : Nat→List Int}{vs:Nat→Value}{h:Nat→Hp}{k:Nat}{v:Value}{H:Hp}{l:List Int}(hs:RdyS ls vs h)(hv:Slc 3 1 v l.length (intsC l) H)(h1:l=ls' k)(h2:∀j,j≠k→ls' j=ls j) :
    RdyS ls' (fset vs k v) (fset h k H):=fun j hj=>by
  by_cases e:j=k
  · subst e;rw[fset_same,fset_same,←h1];exact hv
  · rw[fset_ne e,fset_ne e,h2 j e];exact hs j hj
theorem RdyS.view{ls:Nat→List Int}{vs:Nat→Value}{h:Nat→Hp}(hs:RdyS ls vs h){k:Nat}(hk:k<8)(w:Nat):∃a c,vs k=.slice a (ls k).length c∧View (segs h 8) 1 (.slice a (ls k).length c) (ls k).length (intsC (ls k))∧nth (rdyC vs w) (0+k*1)=some (.slice a (ls k).length c):=by
 obtain ⟨a,c,e⟩:=(hs k hk).form;have h1:=(hs k hk).view
 have h2:=rdy_line (vs:=vs) (w:=w) hk
 rw[e]at h1 h2;exact ⟨a,c,e,h1.mono (fun p hp=>segs_mem hk hp),h2⟩
section
variable{L:Ones}
include L
theorem put_all(hW:RdyW L){x:Int}{k:Nat}(h1:rightM x=true)(hk:k<8)(hn:∀j:Nat,j<8→¬0≤idxM (lvl L j) x):
    pushE (lvl L k) x=putE L x k∧pushL (lvl L k) x=lvl (putR L x k) k∧(∀j:Nat,j≠k→lvl (putR L x k) j=lvl L j) ∧
    bitsN (fset (has L) k (decide (0<(pushL (lvl L k) x).length))) 8=levN (putR L x k):=by
  obtain ⟨e1,e2⟩:=pushL_ok h1 (hn k hk);have hf:=inR_false hW hn
  have e3:putE L x k=0:=by
    unfold putE;rw[if_neg (by simp[h1];omega),hf];rfl
  rw[e1,e2,e3,putR_ok e3];refine ⟨rfl,by rw[lvl_put,if_pos rfl],fun j hj=>by rw[lvl_put,if_neg (by omega)],?_⟩;apply bitsN_congr;intro j hj;rw[has_put];simp
theorem put_out{x k:Int}(h:rightM x=false∨k<0∨8≤k):putE L x k=1∧putR L x k=L:=by
 have e:putE L x k=1:=by
  unfold putE;rw[if_pos];rcases h with h | h | h
  ·
   simp[h]
  ·
   simp;intro _ _;omega
  ·
   simp;intro _ _;omega
 exact ⟨e,by unfold putR;rw[if_neg (by omega)]⟩
theorem put_twice{x k:Int}(h1:rightM x=true)(h2:0≤k)(h3:k<8)(h4:inR L x=true):putE L x k=4∧putR L x k=L:=by
 have e:putE L x k=4:=by unfold putE;rw[if_neg (by simp[h1,h2,h3]),if_pos h4]
 exact ⟨e,by unfold putR;rw[if_neg (by omega)]⟩
theorem lvl_out(hW:RdyW L){k:Int}(h:k<0∨8≤k):lvl L k=[]:=by
 apply List.eq_nil_iff_forall_not_mem.2;intro x hx;have:=hW.lev _ (lvl_mem.1 hx)
 simp only at this;omega
theorem next_some{k:Nat}(h:nextI L=k):k<8∧∃y t,lvl L k=y::t:=by
 obtain ⟨h1,h2,_⟩:=hiM_some h;refine ⟨h1,?_⟩;unfold has at h2;cases e:lvl L k with
 | nil=>rw[e]at h2;simp at h2
 | cons y t=>exact ⟨y,t,rfl⟩
theorem drop_all(hW:RdyW L){x:Int}{k:Nat}(hk:k<8)(h:0≤idxM (lvl L k) x):
    inR L x=true∧remL (lvl L k) x=lvl (dropR L x) k∧(∀j:Nat,j≠k→lvl (dropR L x) j=lvl L j)∧bitsN (fset (has L) k (decide (0<(remL (lvl L k) x).length))) 8=levN (dropR L x) :=
  ⟨inR_true hW hk h,rem_lvl hW x k,lvl_drop_ne hW h,bitsN_congr fun j _=>(has_drop hW h j).symm⟩
end
theorem rem_same{l:List Int}{x:Int}(h:remB l x=false):remL l x=l:=by
 have:¬0≤idxM l x:=by simpa [remB] using h
 exact if_neg this
theorem levN_nil:levN []=0:=by decide
theorem one_read{cc:List Value}{o i:Nat}{L:Ones}{e:Int×Int}(hr:Reads cc o (cel oneC L))(h:L[i]?=some e):nth cc (o+i*2+0)=some (.int .i64 e.1)∧nth cc (o+i*2+1)=some (.int .i64 e.2):=by
 obtain ⟨h1,h2,_⟩:=cel_reads hr h;exact ⟨h1,h2⟩
end
section
theorem tr_high(w:Nat)(hw:w<2^64):TrR prog 168 [.int .u64 w] ([]) (.int .i64 (hiM (fun k=>w.testBit k) 64)):=by
 refine YR func168 ntmps168 fun W F=>?_
 refine zq [3,4,1,2,5,3,3,4,0,2,5,20] ?_;refine YL (σ:=Nat) [(0,_)] (fun s=>[(4,.int .i64 s)]) (fun s=>s≤64∧hiM (fun k=>w.testBit k) 64=hiM (fun k=>w.testBit k) (64-s)) (fun s=>64-s) 0 ⟨Nat.zero_le _,rfl⟩ ?_;rintro i KK ⟨hi,hh⟩ hK;dsimp only[Y1,Y2]at hK ⊢;refine zq [3,4,42,2,5,3] ?_;refine Yd rfl (fun h1=>?_) (fun h1=>?_)
 ·
  refine zq [11,5,3,20,3,4,0,1,2,5,3,4,0,0] ?_;refine Yb rfl rfl (63-i) ?_;refine Yp (pv_shr rfl rfl (by omega) (shrn (by omega))) ?_;refine Yp (pv_and rfl rfl (and_mask (w/2^(63-i)) 1 (Nat.lt_of_le_of_lt (Nat.div_le_self _ _) hw) (by omega))) ?_;refine zq [22,2,5] ?_;refine Yd rfl (fun h2=>?_) (fun h2=>?_)
  ·
   refine zq [3,4,0] ?_;refine Yb rfl rfl (63-i) ?_;refine zq [1,2,5,10,15,12,12,15,12] ?_;have hb:w.testBit (63-i)=true:=by
    rw[Nat.testBit_eq_decide_div_mod_eq];simp;omega
   have h5:hiM (fun k=>w.testBit k) (64-i)=((63-i:Nat):Int):=by
    rw[show 64-i=(63-i)+1 by omega];simp only[hiM];rw[if_pos hb]
   rw[h5]at hh;exact zs (h:=⟨by rw[hh],rfl⟩)
  refine zq [11,19,5,4,52,0,2,49] ?_;refine Goes.back (hK (i+1) ⟨by omega,by
    have hb:w.testBit (63-i)=false:=by
     rw[Nat.testBit_eq_decide_div_mod_eq];simp;omega
    rw[hh,show 64-i=(63-i)+1 by omega];simp only[hiM];rw[if_neg (by rw[hb];simp),show 64-(i+1)=63-i by omega]⟩ (by omega)) ⟨rfl,rfl,trivial⟩
 refine zq [41,16,16,40,5,3,4,1,2,5,10] ?_;obtain rfl:i=64:=by omega
 exact zs (h:=⟨by rw[hh,Nat.sub_self];rfl,rfl⟩)
theorem tr_highB(p:Nat→Bool):TrR prog 168 [.int .u64 (bitsN p 8:Nat)] [] (.int .i64 (hiM p 8)) :=
  (tr_high (bitsN p 8) (Nat.lt_of_lt_of_le (bitsN_lt p 8) (by decide))).eq (by rw[hiM_bits])
theorem tr_note(rb:Nat)(vs:Nat→Value)(p:Nat→Bool)(k:Nat)(hk:k<8)(a:Option Addr)(n c:Nat)(hv:vs k=.slice a n c):Tr prog 240 [.pointer (some ⟨rb,0,none⟩),.int .i64 k] ([(rb,.cells (rdyC vs (bitsN p 8)).toArray 350)]) (fun u L' => u=.tuple #[]∧L' = [(rb,.cells (rdyC vs (bitsN (fset p k (decide (0<n))) 8)).toArray 350)]):=by
 have hline:nth (rdyC vs (bitsN (fset p k false) 8)) (0+k*1+0)=some (.slice a n c):=by rw[←hv];exact rdy_line hk
 have hs1:IntKind.u64.wrap (1*2^(min (k:Int).toNat 64))=((2^k:Nat):Int):=shl1 (by omega)
 refine YR func240 ntmps240 fun W F=>?_
 refine Wp.seq ?_;refine AnyH.start ([]:Hp) 10 rfl ?_;refine zd [0,1,1,3,2,0,4,1] ?_;refine Yh 5 rfl (pv_shl rfl rfl (by omega) hs1) ?_;refine YA 3 ?_;refine Yv rfl rfl (pv_load rfl rfl rdy_lev) ?_;refine Yh 6 rfl (pv_andNot rfl rfl (bitsN_andNot hk)) ?_;refine zd [7,3,8,0] ?_;refine z1 9 ?_;refine YD ?_;refine zq [5,3,4,0,0,9,6] ?_;refine Yp (pv_indexAddrA rfl rfl rfl (by omega)) ?_;refine zq [61] ?_;refine Yp (pv_load rfl rfl (by assumption)) ?_;refine Yp (pv_len_slice (T:=128) rfl rfl) ?_;refine zq [44,2,5] ?_;refine Yd rfl (fun h1=>?_) (fun h1=>?_)
 ·
  refine AnyH.start ([]:Hp) 10 rfl ?_;refine zd [0,1,1,3,2,0,4,1] ?_;refine Yh 5 rfl (pv_shl rfl rfl (by omega) hs1) ?_;refine YA 3 ?_;refine Yv rfl rfl (pv_load rfl rfl rdy_lev) ?_;refine Yh 6 rfl (pv_or rfl rfl (bitsN_or hk)) ?_;refine zd [7,3,8,0] ?_;refine z1 9 ?_;refine YD ?_;rw[fset_fset];exact zf (L' := [(rb,.cells (rdyC vs (bitsN (fset p k true) 8)).toArray 350)]) ⟨rfl,by rw[decide_eq_true (show 0<n by omega)]⟩
 refine Wp.skip ?_;exact zf (L' := [(rb,.cells (rdyC vs (bitsN (fset p k false) 8)).toArray 350)]) ⟨rfl,by rw[decide_eq_false (show ¬0<n by omega)]⟩
theorem tr_newReady  : Tr prog 146 [] ([]) (fun v L' => ∃rb,v=.pointer (some ⟨rb,0,none⟩)∧RdyH [] rb L'):=by
 refine YR func146 ntmps146 fun W F=>?_
 refine zq [3,4,1,2,5,3,4,23] ?_;refine zB fun b1=>?_
 refine zq [1,2,5,10] ?_;exact zs (L' := [(b1,.cells [.slice none 0 0,.slice none 0 0,.slice none 0 0,.slice none 0 0,.slice none 0 0,.slice none 0 0,.slice none 0 0,.slice none 0 0,.int .u64 0].toArray 350)]) (h:=⟨b1,rfl,fun _=>.slice none 0 0,fun _=>[],fun _ _=>Slc.nil _ _,by rw[levN_nil,segs_nil];rfl⟩)
section
variable(rb:Nat)(H:Hp)(L:Ones)(hH:RdyH L rb H)(hW:RdyW L)(hl:L.length≤2^20)
include rb H L hH hW hl
theorem tr_rdyNext:TrR prog 107 [.pointer (some ⟨rb,0,none⟩)] (H) (.tuple #[.int .i64 (nextV L),.bool (nextB L)]):=by
 obtain ⟨vs,h,hs,rfl⟩:=hH;have hlv:∀k:Int,(lvl L k).length≤2^20:=fun k=>Nat.le_trans (lvl_len L k) hl
 refine YR func107 ntmps107 fun W F=>?_
 refine zq [3,4,1,1,2,5,3,4,0,9,6] ?_;refine Yp (pv_load rfl rfl rdy_lev) ?_;refine zC (tr_highB (has L)) ?_;refine zq [1,2,5,3,3,4,0,42,2,5] ?_;refine Yd rfl (fun h1=>?_) (fun h1=>?_)
 ·
  refine zq [3,4,1,1,2,5,10,12] ?_;exact zs (h:=⟨by rw[nextV,nextB,if_pos (by assumption),decide_eq_false (by unfold nextI at *;omega)],rfl⟩)
 refine zq [11,5,3,4] ?_;obtain ⟨k,hk0⟩:∃k:Nat,nextI L=k:=⟨(nextI L).toNat,by unfold nextI;omega⟩;have hnx:nextI L=k:=hk0
 obtain ⟨hk,y,t,hyt⟩:=next_some hnx;unfold nextI at hk0;rw[hk0];obtain ⟨a,c,ea,hv,hline⟩:=hs.view hk (levN L);rw[hyt]at hv hline;obtain ⟨b,o,cap,cc,T,f,hv1,hbv,hr⟩:=hv.open (by simp);cases hv1;have hny:=ints_nth (i:=0) hr rfl
 refine zq [0,0,9,6] ?_;refine Yp (pv_indexAddrA (i:=k) rfl rfl rfl hk) ?_;refine zq [61] ?_;refine Yp (pv_load rfl rfl (by assumption)) ?_;refine Yp (pv_indexAddr (i:=0) rfl rfl rfl (by first | omega | (simp;done) | (simp;omega))) ?_;refine Yp (pv_load rfl rfl (by assumption)) ?_;refine zq [1,1,2,5,10] ?_;exact zs (h:=⟨by rw[nextV,nextB,hnx,if_neg (by omega),decide_eq_true (by omega),hyt];rfl,rfl⟩)
theorem tr_rdyList(k:Int):Tr prog 239 [.pointer (some ⟨rb,0,none⟩),.int .i64 k] (H) (fun u L' => ∃H', Slc 3 1 u (lvl L k).length (intsC (lvl L k)) H' ∧ L' = H' ++ H):=by
 obtain ⟨vs,h,hs,rfl⟩:=hH;have hlv:∀k:Int,(lvl L k).length≤2^20:=fun k=>Nat.le_trans (lvl_len L k) hl
 refine YR func239 ntmps239 fun W F=>?_
 refine zq [3,4,1,2,5,3,3,4,0,42,0] ?_;refine Ops.split (t:=7) rfl (fun h1=>?_) (fun h1=>?_)
 ·
  refine zq [13,13,24,2,5,18,3,4,1,2,5,10,12] ?_;exact zs (L' := (rb,.cells (rdyC vs (levN L)).toArray 350)::segs h 8) (h:=⟨[],by rw[lvl_out hW (by omega)];exact Slc.nil _ _,rfl⟩)
 refine zq [21] ?_;refine Yg (pv_geq rfl rfl) ?_;refine zq [26,2,5] ?_;refine Yd rfl (fun h2=>?_) (fun h2=>?_)
 ·
  refine zq [3,4,1,2,5,10,12] ?_;exact zs (L' := (rb,.cells (rdyC vs (levN L)).toArray 350)::segs h 8) (h:=⟨[],by rw[lvl_out hW (by omega)];exact Slc.nil _ _,rfl⟩)
 refine zq [11,5,3,4] ?_;obtain ⟨k,rfl⟩:∃n:Nat,k=n:=⟨k.toNat,by omega⟩;obtain ⟨a,c,ea,hv,hline⟩:=hs.view (show k<8 by omega) (levN L);refine zq [0,0,9,6] ?_;refine Yp (pv_indexAddrA rfl rfl rfl (by omega)) ?_;refine zD (tr_listG rb (0+k*1) 350 (rdyC vs (levN L)) (segs h 8) a c (lvl L k) hv (by have:=hlv k;omega) hline) ?_;rintro _ _ ⟨H1,hs1,rfl⟩;refine Ops.app ?_
 skip
 refine zq [1,2,5,10] ?_;exact zs (L' := H1++((rb,.cells (rdyC vs (levN L)).toArray 350)::segs h 8)) (h:=⟨H1,hs1,rfl⟩)
theorem tr_rdyPut(x k:Int):Tr prog 199 [.pointer (some ⟨rb,0,none⟩),.int .i64 x,.int .i64 k] (H) (fun u L' => u=.int .i64 (putE L x k)∧RdyH (putR L x k) rb L'):=by
 obtain ⟨vs,h,hs,rfl⟩:=hH;have hlv:∀k:Int,(lvl L k).length≤2^20:=fun k=>Nat.le_trans (lvl_len L k) hl
 refine YR func199 ntmps199 fun W F=>?_
 refine zq [3,4,1,2,5,3,3,4,0] ?_;refine zC (tr_right x) ?_;refine zq [39,0] ?_;refine Ops.splitb (t:=12) rfl (fun h1=>?_) (fun h1=>?_)
 ·
  refine zq [13,13,24,0,13,13,24,2,5,18,3,4,1,2,5,10,12] ?_;exact zs (h:=⟨by rw[(put_out (by simp_all <;> omega)).1],by rw[(put_out (L:=L) (by simp_all <;> omega)).2]; exact ⟨vs,h,hs,rfl⟩⟩)
 refine zq [21] ?_;refine Yg (pv_lss rfl rfl) ?_;refine zq [26,0] ?_;refine Ops.split (t:=16) rfl (fun h2=>?_) (fun h2=>?_)
 ·
  refine zq [13,13,24,2,5,18,3,4,1,2,5,10,12] ?_;exact zs (h:=⟨by rw[(put_out (by simp_all <;> omega)).1],by rw[(put_out (L:=L) (by simp_all <;> omega)).2]; exact ⟨vs,h,hs,rfl⟩⟩)
 refine zq [21] ?_;refine Yg (pv_geq rfl rfl) ?_;refine zq [26,2,5] ?_;refine Yd rfl (fun h3=>?_) (fun h3=>?_)
 ·
  refine zq [3,4,1,2,5,10,12] ?_;exact zs (h:=⟨by rw[(put_out (by simp_all <;> omega)).1],by rw[(put_out (L:=L) (by simp_all <;> omega)).2]; exact ⟨vs,h,hs,rfl⟩⟩)
 refine zq [11,5,3,3,4,0,2,5,20] ?_;refine YL (σ:=Nat) [(0,_),(1,_),(2,_)] (fun s=>[(20,.int .i64 s)]) (fun s=>s≤8∧∀j:Nat,j<s→¬0≤idxM (lvl L j) x) (fun s=>8-s) 0 ⟨Nat.zero_le _,fun j hj=>absurd hj (Nat.not_lt_zero j)⟩ ?_;rintro i KK ⟨hi,hn⟩ hK;dsimp only[Y1,Y2]at hK ⊢;refine zq [3,4,42,2,5,3] ?_;refine Yd rfl (fun h4=>?_) (fun h4=>?_)
 ·
  refine zq [11,5,3,20,3,4] ?_;obtain ⟨a,c,ea,hv,hline⟩:=hs.view (show i<8 by omega) (levN L);refine zq [0,1,2,5,3,4,0,0,9,6] ?_;refine Yp (pv_indexAddrA (i:=i) rfl rfl rfl (by omega)) ?_;refine zq [61] ?_;refine Yp (pv_load rfl rfl hline) ?_;refine zq [0] ?_;refine zC (tr_contains (segs h 8) a c (lvl L i) x hv (by have:=hlv i;omega)) ?_;refine On ?_;refine Yd rfl (fun h5=>?_) (fun h5=>?_)
  ·
   refine zq [3,4,1,2,5,10,15,12,12,15,12] ?_;obtain ⟨q1,q2⟩:=put_twice (L:=L) (x:=x) (k:=k) (by simp_all) (by omega) (by omega) (inR_true hW (show i<8 by omega) (by assumption));exact zs (h:=⟨by rw[q1],by rw[q2];exact ⟨vs,h,hs,rfl⟩⟩)
  refine zq [11,19,5,4,52,0,2,49] ?_;refine Yy (hK (i+1) ⟨by omega,fun j hj=>?_⟩ (by omega))
  rcases Nat.lt_succ_iff_lt_or_eq.1 hj with hj | rfl
  ·
   exact hn j hj
  assumption
 refine zq [41,16,16,40,5,3,4] ?_;obtain rfl:i=8:=by omega
 obtain ⟨k,rfl⟩:∃n:Nat,k=n:=⟨k.toNat,by omega⟩;have hk8:k<8:=by omega
 have hr1:rightM x=true:=by simp_all
 obtain ⟨p1,p2,p3,p4⟩:=put_all hW hr1 hk8 hn;refine Ops.openS h 8 k hk8 ?_;refine zq [0,0,9,6] ?_;refine Yp (pv_indexAddrA (i:=k) rfl rfl rfl hk8) ?_;refine zq [0] ?_;refine Ops.ef rfl (ef_call (tr_lpushG rb (0+k*1) 350 (rdyC vs (levN L)) _ (h k) (lvl L k) x (hs k hk8) (by have:=hlv k;omega) (rdy_line hk8)) rfl rfl) ?_;rintro _ _ ⟨_,_,⟨rfl,v1,H1,hs1,rfl⟩,rfl,rfl⟩;refine Ops.app ?_;rw[rdy_set hk8];obtain ⟨a1,c1,rfl⟩:=hs1.form;refine zq [1,2,5,3,4,0,0] ?_;refine zD (tr_note rb (fset vs k (.slice a1 (pushL (lvl L k) x).length c1)) (has L) k hk8 a1 _ c1 (fset_same _ _ _)) ?_;rintro _ _ ⟨rfl,rfl⟩;refine Ops.app ?_;rw[p4];refine Ops.closeS h 8 k H1 hk8 ?_;refine zq [2,5,3,4,0,1,2,5,10] ?_;exact zs (L' := (rb,.cells (rdyC (fset vs k (.slice a1 (pushL (lvl L k) x).length c1)) (levN (putR L x k))).toArray 350)::segs (fset h k H1) 8) (h:=⟨by rw[p1],_,_,hs.set hs1 p2 p3,rfl⟩)
theorem tr_rdyDrop(x:Int):Tr prog 198 [.pointer (some ⟨rb,0,none⟩),.int .i64 x] (H) (fun u L' => u=.bool (inR L x)∧RdyH (dropR L x) rb L'):=by
 obtain ⟨vs0,h0,hs0,rfl⟩:=hH;have hlv:∀k:Int,(lvl L k).length≤2^20:=fun k=>Nat.le_trans (lvl_len L k) hl
 refine YR func198 ntmps198 fun W F=>?_
 refine zq [3,4,1,2,5,3,3,4,0,2,5,20] ?_;refine YM (σ:=Nat×(Nat→Value)×(Nat→Hp)) [(0,_),(1,_)] (fun s=>[(6,.int .i64 s.1)]) (fun s=>(rb,.cells (rdyC s.2.1 (levN L)).toArray 350)::(segs s.2.2 8++F)) (fun s=>s.1≤8∧RdyS (fun k=>lvl L k) s.2.1 s.2.2∧∀j:Nat,j<s.1→¬0≤idxM (lvl L j) x) (fun s=>8-s.1) (0,vs0,h0) ⟨Nat.zero_le _,hs0,fun j hj=>absurd hj (Nat.not_lt_zero j)⟩ ?_;rintro ⟨i,vs,h⟩ KK ⟨hi,hs,hn⟩ hK;dsimp only[Y1,Y2]at hK ⊢;dsimp only at hi hs hn ⊢;refine zq [3,4,42,2,5,3] ?_;refine Yd rfl (fun h1=>?_) (fun h1=>?_)
 ·
  refine zq [11,5,3,20,3,4,0,1,2,5,3,4] ?_;have hi8:i<8:=by omega
  refine Ops.openS h 8 i hi8 ?_;refine zq [0,0,9,6] ?_;refine Yp (pv_indexAddrA rfl rfl rfl (by omega)) ?_;refine zq [0] ?_;refine Ops.ef rfl (ef_call (tr_lremoveG rb (0+i*1) 350 (rdyC vs (levN L)) _ (h i) (lvl L i) x (hs i hi8) (by have:=hlv i;omega) (rdy_line hi8)) rfl rfl) ?_;rintro _ _ ⟨_,_,⟨rfl,v1,H1,hs1,rfl⟩,rfl,rfl⟩;refine Ops.app ?_;rw[rdy_set hi8];obtain ⟨a1,c1,rfl⟩:=hs1.form;refine Ops.closeS h 8 i H1 hi8 ?_;refine On ?_;refine Wp.cond_t rfl (fun h2=>?_) (fun h2=>?_)
  ·
   have hix:0≤idxM (lvl L i) x:=by simpa [remB] using h2
   obtain ⟨d1,d2,d3,d4⟩:=drop_all hW hi8 hix;refine zq [3,4,0,0] ?_;refine zD (tr_note rb (fset vs i (.slice a1 (remL (lvl L i) x).length c1)) (has L) i hi8 a1 _ c1 (fset_same _ _ _)) ?_;rintro _ _ ⟨rfl,rfl⟩;refine Ops.app ?_;rw[d4];refine zq [2,5,3,4,1,2,5,10,15,12,12,15,12] ?_;exact zs (L' := (rb,.cells (rdyC (fset vs i (.slice a1 (remL (lvl L i) x).length c1)) (levN (dropR L x))).toArray 350)::segs (fset h i H1) 8) (h:=⟨by rw[d1],_,_,hs.set hs1 d2 d3,rfl⟩)
  refine zq [11,19,5,4,52,0,2,49] ?_;refine Yy (hK (i+1,fset vs i (.slice a1 (remL (lvl L i) x).length c1),fset h i H1) ⟨by dsimp only;omega,hs.set hs1 (rem_same h2) (fun _ _=>rfl),fun j hj=>?_⟩ (by dsimp only;omega))
  rcases Nat.lt_succ_iff_lt_or_eq.1 hj with hj | rfl
  ·
   exact hn j hj
  simpa [remB] using h2
 refine zq [41,16,16,40,5,3,4,1,2,5,10] ?_;obtain rfl:i=8:=by omega
 have hf:=inR_false hW hn
 exact zs (h:=⟨by rw[hf],by rw[drop_none hf];exact ⟨vs,h,hs,rfl⟩⟩)
end
end
section
def levOf (M:Ones) (x:Int):Option Int:=(M.find? (fun e=>decide (e.1=x))).map (·.2)
theorem levOf_some{M:Ones}(hn:(M.map (·.1)).Nodup){x k:Int}(h:(x,k)∈M):levOf M x=some k:=by
 unfold levOf;cases e:M.find? (fun e=>decide (e.1=x)) with
 | none=>have:=List.find?_eq_none.1 e _ h;simp at this
 | some p =>
  have h1:=List.mem_of_find?_eq_some e
  have h2:=List.find?_some e
  simp at h2;obtain ⟨a,b⟩:=p;dsimp only at h2;subst h2
  rw[nodup_key hn h h1];rfl
theorem levOf_none{M:Ones}{x:Int}(h:inR M x=false):levOf M x=none:=by
 unfold levOf;rw[Option.map_eq_none_iff,List.find?_eq_none];intro e he;have:x ∉ M.map (·.1):=by simpa [inR] using h
 simp;rintro rfl;exact this (List.mem_map.2 ⟨e,he,rfl⟩)
def findF (L:Nat→Ones) (x:Int):Nat→Nat→Option (Nat×Int)
  | _,0=>none
  | d,n+1=>match levOf (L d) x with
    | some k=>some (d,k)
    | none=>findF L x (d+1) n
def findM (L:Nat→Ones) (x:Int):Option (Nat×Int):=findF L x 0 4
theorem findF_skip{L:Nat→Ones}{x:Int}:∀{n d m:Nat},m≤n→(∀j,d≤j→j<d+m→levOf (L j) x=none)→findF L x d n=findF L x (d+m) (n-m)
  | n,d,0,_,_=>rfl
  | 0,d,m+1,h,_=>by omega
  | n+1,d,m+1,h,hn=>by
    simp only[findF,hn d (by omega) (by omega)];rw[findF_skip (m:=m) (by omega) (fun j h1 h2=>hn j (by omega) (by omega))];rw[show d+1+m=d+(m+1) by omega,show n-m=n+1-(m+1) by omega]
theorem find_hit{L:Nat→Ones}{x k:Int}{d:Nat}(hd:d<4)(hn:∀j,j<d→levOf (L j) x=none)(h:levOf (L d) x=some k):findM L x=some (d,k):=by
 unfold findM;rw[findF_skip (m:=d) (by omega) (fun j h1 h2=>hn j (by omega)),show 4-d=(3-d)+1 by omega];simp only[Nat.zero_add,findF,h]
theorem find_miss{L:Nat→Ones}{x:Int}(hn:∀j,j<4→levOf (L j) x=none):findM L x=none:=by
 unfold findM;rw[findF_skip (m:=4) (Nat.le_refl _) (fun j h1 h2=>hn j (by omega))];rfl
theorem findF_some{L:Nat→Ones}{x:Int}:∀{n d e:Nat} {k:Int},findF L x d n=some (e,k)→d≤e∧e<d+n∧levOf (L e) x=some k
  | 0,_,_,_,h=>by cases h
  | n+1,d,e,k,h=>by
    simp only[findF]at h
    split at h
    · cases h;exact ⟨Nat.le_refl _,by omega,by assumption⟩
    · obtain ⟨h1,h2,h3⟩:=findF_some h;exact ⟨by omega,by omega,h3⟩
theorem find_some{L:Nat→Ones}{x k:Int}{d:Nat}(h:findM L x=some (d,k)):d<4∧levOf (L d) x=some k:=by
 obtain ⟨_,h2,h3⟩:=findF_some h;exact ⟨by omega,h3⟩
def fdD (L:Nat→Ones) (x:Int):Int:=match findM L x with | some (d,_)=>(d:Int) | none=>0
def fdK (L:Nat→Ones) (x:Int):Int:=match findM L x with | some (_,k)=>k | none=>0
def fdB (L:Nat→Ones) (x:Int):Bool:=(findM L x).isSome
theorem fd_some{L:Nat→Ones}{x k:Int}{d:Nat}(h:findM L x=some (d,k)):fdD L x=d∧fdK L x=k∧fdB L x=true:=by unfold fdD fdK fdB;rw[h];exact ⟨rfl,rfl,rfl⟩
theorem fd_none{L:Nat→Ones}{x:Int}(h:findM L x=none):fdD L x=0∧fdK L x=0∧fdB L x=false:=by unfold fdD fdK fdB;rw[h];exact ⟨rfl,rfl,rfl⟩
def RdysW (L:Nat→Ones):Prop:=∀d,d<4→RdyW (L d)
def RdysL (L:Nat→Ones) (n:Nat):Prop:=∀d,d<4→(L d).length≤n
theorem RdysW.nil:RdysW (fun _=>[]):=fun _ _=>RdyW.nil
theorem RdysL.mono{L:Nat→Ones}{n m:Nat}(h:RdysL L n)(hm:n≤m):RdysL L m:=fun d hd=>Nat.le_trans (h d hd) hm
theorem RdysW.set{L:Nat→Ones}(h:RdysW L){d:Nat}{M:Ones}(hM:RdyW M):RdysW (fset L d M):=fun j hj=>by
 by_cases e:j=d
 ·
  subst e;rw[fset_same];exact hM
 ·
  rw[fset_ne e];exact h j hj
theorem RdysL.set{L:Nat→Ones}{n:Nat}(h:RdysL L n){d:Nat}{M:Ones}(hM:M.length≤n+1):RdysL (fset L d M) (n+1):=fun j hj=>by
 by_cases e:j=d
 ·
  subst e;rw[fset_same];exact hM
 ·
  rw[fset_ne e];exact Nat.le_succ_of_le (h j hj)
theorem lev_hit{M:Ones}(h:RdyW M){x:Int}{k:Nat}(hk:0≤idxM (lvl M k) x):levOf M x=some (k:Int):=levOf_some h.nd (lvl_mem.1 ((idx_mem _ _).1 hk))
theorem lev_miss{M:Ones}(h:RdyW M){x:Int}(hn:∀k:Nat,k<8→¬0≤idxM (lvl M k) x):levOf M x=none:=levOf_none (inR_false h hn)
theorem drops_len{L:Nat→Ones}{n:Nat}(hl:RdysL L n)(d:Nat)(x:Int):RdysL (fset L d (dropR (L d) x)) n:=fun j hj=>by
 by_cases e:j=d
 ·
  subst e;rw[fset_same];exact Nat.le_trans (dropR_len _ _) (hl _ hj)
 ·
  rw[fset_ne e];exact hl j hj
def domB (d:Int):Bool:=decide (0≤d∧d<4)
def spE (L:Nat→Ones) (x d k:Int):Int:=if rightM x=true∧(0≤d∧d<4)∧0≤k∧k<8 then (if fdB L x then 4 else putE (L d.toNat) x k) else 1
def spL (L:Nat→Ones) (x d k:Int):Nat→Ones:=if spE L x d k=0 then fset L d.toNat (putR (L d.toNat) x k) else L
def sdB (L:Nat→Ones) (x:Int):Bool:=match findM L x with | some (d,_)=>inR (L d) x | none=>false
def sdL (L:Nat→Ones) (x:Int):Nat→Ones:=match findM L x with | some (d,_)=>fset L d (dropR (L d) x) | none=>L
def syL (L:Nat→Ones) (x:Int):Nat→Ones:=match findM L x with | some (d,k)=>fset L d (putR (dropR (L d) x) x k) | none=>L
theorem sp_out{L:Nat→Ones}{x d k:Int}(h:¬(rightM x=true∧(0≤d∧d<4)∧0≤k∧k<8)):spE L x d k=1∧spL L x d k=L:=by
 have e:spE L x d k=1:=if_neg h
 exact ⟨e,by unfold spL;rw[if_neg (by omega)]⟩
theorem sp_twice{L:Nat→Ones}{x d k:Int}(h:rightM x=true∧(0≤d∧d<4)∧0≤k∧k<8)(h2:fdB L x=true):spE L x d k=4∧spL L x d k=L:=by
 have e:spE L x d k=4:=by unfold spE;rw[if_pos h,if_pos h2]
 exact ⟨e,by unfold spL;rw[if_neg (by omega)]⟩
theorem putR_same{M:Ones}{x k:Int}(h:¬putE M x k=0):putR M x k=M:=if_neg h
theorem fset_self{α:Type}(f:Nat→α)(i:Nat):fset f i (f i)=f:=by
 funext j;unfold fset;split
 ·
  rename_i h;rw[h]
 ·
  rfl
section
variable{L:Nat→Ones}
include L
theorem sp_put{x k:Int}{d:Nat}(h:rightM x=true∧(0≤(d:Int)∧(d:Int)<4)∧0≤k∧k<8)(h2:fdB L x=false):spE L x d k=putE (L d) x k∧spL L x d k=fset L d (putR (L d) x k):=by
 have e:spE L x d k=putE (L d) x k:=by unfold spE;rw[if_pos h,h2,Int.toNat_natCast];rfl
 refine ⟨e,?_⟩;unfold spL;rw[e,Int.toNat_natCast]
 by_cases h3:putE (L d) x k=0
 ·
  rw[if_pos h3]
 ·
  rw[if_neg h3,putR_same h3,fset_self]
theorem spW(h:RdysW L)(x d k:Int):RdysW (spL L x d k):=by
 unfold spL;split
 ·
  rename_i h1
  by_cases h2:0≤d∧d<4
  ·
   exact h.set ((h _ (by omega)).put x k)
  ·
   exfalso;unfold spE at h1;rw[if_neg (fun e=>h2 e.2.1)]at h1;omega
 ·
  exact h
theorem sdW(h:RdysW L)(x:Int):RdysW (sdL L x):=by
 unfold sdL
 split
 ·
  rename_i d k e;exact h.set ((h _ (find_some e).1).drop x)
 ·
  exact h
theorem sdLen{n:Nat}(h:RdysL L n)(x:Int):RdysL (sdL L x) (n+1):=by
 unfold sdL
 split
 ·
  rename_i d k e;exact h.set (Nat.le_succ_of_le (Nat.le_trans (dropR_len _ _) (h _ (find_some e).1)))
 ·
  exact h.mono (Nat.le_succ _)
theorem syW(h:RdysW L)(x:Int):RdysW (syL L x):=by
 unfold syL
 split
 ·
  rename_i d k e;exact h.set (((h _ (find_some e).1).drop x).put x k)
 ·
  exact h
end
def tmOk (t:Int×Int):Prop:=(0≤t.1∧t.1<4)∧1≤t.2∧t.2≤1000
instance (t:Int×Int):Decidable (tmOk t):=inferInstanceAs (Decidable (((0≤t.1∧t.1<4)∧1≤t.2∧t.2≤1000)))
def tmsOk (T:Ones):Prop:=(1≤T.length∧T.length≤16)∧∀t,t∈T→tmOk t
structure At (T:Ones) (e:Nat) (l:Int):Prop where
  ok:tmsOk T
  lt:e<T.length
  pos:1≤l
  le:l≤(T[e]?.getD (0,0)).2
def tkd (T:Ones) (e:Nat):Int×Int:=T[e]?.getD (0,0)
theorem tkd_get{T:Ones}{e:Nat}(h:e<T.length):T[e]?=some (tkd T e):=by unfold tkd;rw[Y8 h];rfl
theorem At.dom{T:Ones}{e:Nat}{l:Int}(h:At T e l):tmOk (tkd T e):=h.ok.2 _ (List.mem_of_getElem? (tkd_get h.lt))
theorem At.start{T:Ones}(h:tmsOk T):At T 0 (tkd T 0).2:=⟨h,by have:=h.1;omega,(h.2 _ (List.mem_of_getElem? (tkd_get (by have:=h.1;omega)))).2.1,Int.le_refl _⟩
end
section
abbrev ptrV (b:Nat):Value:=.pointer (some ⟨b,0,none⟩)
def schC (v:Value) (e l:Int) (p:Nat→Value):List Value:=v::.int .i64 e::.int .i64 l::(List.range 4).map p
theorem sch_p{v:Value}{e l:Int}{p:Nat→Value}{d:Nat}(hd:d<4):nth (schC v e l p) (3+d*1)=some (p d):=by
 rw[nth_eq,Nat.mul_one,Nat.add_comm];unfold schC;simp only[List.getElem?_cons_succ];rw[List.getElem?_map,List.getElem?_range hd];rfl
theorem arr_p{p:Nat→Value}{d:Nat}(hd:d<4):nth ((List.range 4).map p) (d*1)=some (p d):=by
 rw[nth_eq,Nat.mul_one,List.getElem?_map,List.getElem?_range hd];rfl
theorem sch_reads{v:Value}{e l:Int}{p:Nat→Value}:Reads (schC v e l p) 3 ((List.range 4).map p):=⟨rfl,rfl,rfl,rfl,trivial⟩
theorem map_set4{p:Nat→Value}{d:Nat}{x:Value}(hd:d<4):((List.range 4).map p).set d x=(List.range 4).map (fset p d x):=by
 apply List.ext_getElem?;intro j;rw[List.getElem?_set,List.getElem?_map,List.getElem?_map,List.length_map,List.length_range]
 by_cases e:d=j
 ·
  subst e;rw[if_pos rfl,if_pos hd,List.getElem?_range hd,Option.map_some,fset_same]
 ·
  rw[if_neg e]
  by_cases h:j<4
  ·
   rw[List.getElem?_range h,Option.map_some,Option.map_some,fset_ne (Ne.symm e)]
  ·
   rw[List.getElem?_eq_none (by simpa using h)];rfl
section
variable{v:Value}{e l:Int}{p:Nat→Value}
include v e l p
theorem sch_setL{d:Nat}{x:Value}(hd:d<4):SetL (schC v e l p) (3+d*1) [x] (schC v e l (fset p d x)):=by
 have h:=SetL.set1 (l:=schC v e l p) (i:=3+d*1) (v:=x) (by simp[schC];omega)
 have e2:(schC v e l p).set (3+d*1) x=schC v e l (fset p d x):=by
  unfold schC;rw[show 3+d*1=d+1+1+1 by omega,List.set_cons_succ,List.set_cons_succ,List.set_cons_succ,map_set4 hd]
 rw[e2]at h;exact h
theorem sch_0:nth (schC v e l p) 0=some v:=rfl
theorem sch_1:nth (schC v e l p) 1=some (.int .i64 e):=rfl
end
def Rdys (L:Nat→Ones) (rb:Nat→Nat) (h:Nat→Hp):Prop:=∀d,d<4→RdyH (L d) (rb d) (h d)
theorem Rdys.set{L:Nat→Ones}{rb:Nat→Nat}{h:Nat→Hp}(hR:Rdys L rb h){d:Nat}{M:Ones}{H:Hp}(hM:RdyH M (rb d) H):Rdys (fset L d M) rb (fset h d H):=fun j hj=>by
 by_cases e:j=d
 ·
  subst e;rw[fset_same,fset_same];exact hM
 ·
  rw[fset_ne e,fset_ne e];exact hR j hj
def SchH (T:Ones) (e:Nat) (l:Int) (L:Nat→Ones) (sb:Nat) (H:Hp):Prop:=∃v K rb h,Slc 134 2 v T.length (cel oneC T) K∧Rdys L rb h∧H=(sb,.cells (schC v (e:Int) l (fun d=>ptrV (rb d))).toArray 240)::(K++segs h 4)
theorem sch_congr{v:Value}{e l:Int}{p q:Nat→Value}(h:∀d,d<4→p d=q d):schC v e l p=schC v e l q:=by
 unfold schC;rw[List.map_congr_left (fun d hd=>h d (List.mem_range.1 hd))]
def domN (T:Ones) (e:Nat):Nat:=(tkd T e).1.toNat
theorem At.domN{T:Ones}{e:Nat}{l:Int}(h:At T e l):(tkd T e).1=(domN T e:Nat)∧domN T e<4:=by
 have:=h.dom.1
 unfold Proofs.YtmoeokkelkgnhaaGreat.domN;exact ⟨by omega,by omega⟩
theorem tms_iff{T:Ones}:tmsOk T↔(1≤T.length∧T.length≤16)∧∀j,j<T.length→tmOk (tkd T j):=by
 constructor
 ·
  rintro ⟨h1,h2⟩;exact ⟨h1,fun j hj=>h2 _ (List.mem_of_getElem? (tkd_get hj))⟩
 ·
  rintro ⟨h1,h2⟩;refine ⟨h1,fun t ht=>?_⟩;obtain ⟨j,hj,e⟩:=List.mem_iff_getElem.1 ht;have:=h2 j hj
  have e2:=tkd_get hj
  rw[Y8 hj,e]at e2;rw[Option.some.inj e2];exact this
theorem tms_bad{T:Ones}{i:Nat}(hi:i<T.length)(h:¬tmOk (tkd T i)):¬tmsOk T:=fun e=>h (e.2 _ (List.mem_of_getElem? (tkd_get hi)))
end
section
section
variable{rb:Nat→Nat}{h:Nat→Hp}{L:Nat→Ones}(hR:Rdys L rb h)(hW:RdysW L)(hl:RdysL L (2^20)){d:Nat}(hd:d<4)
include rb h L hR hW hl d hd
theorem tr_listS(k:Int):Tr prog 239 [.pointer (some ⟨rb d,0,none⟩),.int .i64 k] (segs h 4) (fun u L' => ∃H', Slc 3 1 u (lvl (L d) k).length (intsC (lvl (L d) k)) H' ∧ L' = H' ++ segs h 4) :=
  ((tr_rdyList (rb d) (h d) (L d) (hR d hd) (hW d hd) (hl d hd) k).inSeg hd).post (by
    rintro v L1 ⟨L2,⟨H', hs,rfl⟩,rfl⟩;exact ⟨_,⟨H', hs,rfl⟩,by rw[Y7];exact List.Perm.append_left H' (segs_take hd).symm⟩)
theorem tr_putS(x k:Int):Tr prog 199 [.pointer (some ⟨rb d,0,none⟩),.int .i64 x,.int .i64 k] (segs h 4) (fun u L' => u=.int .i64 (putE (L d) x k)∧∃H', RdyH (putR (L d) x k) (rb d) H' ∧ L' = segs (fset h d H') 4) :=
  ((tr_rdyPut (rb d) (h d) (L d) (hR d hd) (hW d hd) (hl d hd) x k).inSeg hd).post (by
    rintro v L1 ⟨L2,⟨rfl,hs⟩,rfl⟩;exact ⟨_,⟨rfl,L2,hs,rfl⟩,segs_put hd⟩)
theorem tr_dropS(x:Int):Tr prog 198 [.pointer (some ⟨rb d,0,none⟩),.int .i64 x] (segs h 4) (fun u L' => u=.bool (inR (L d) x)∧∃H', RdyH (dropR (L d) x) (rb d) H' ∧ L' = segs (fset h d H') 4) :=
  ((tr_rdyDrop (rb d) (h d) (L d) (hR d hd) (hW d hd) (hl d hd) x).inSeg hd).post (by
    rintro v L1 ⟨L2,⟨rfl,hs⟩,rfl⟩;exact ⟨_,⟨rfl,L2,hs,rfl⟩,segs_put hd⟩)
theorem tr_nextS:TrR prog 107 [.pointer (some ⟨rb d,0,none⟩)] (segs h 4) (.tuple #[.int .i64 (nextV (L d)),.bool (nextB (L d))]) :=
  (tr_rdyNext (rb d) (h d) (L d) (hR d hd) (hW d hd) (hl d hd)).inSeg hd
end
theorem tr_domain(x:Int):TrR prog 144 [.int .i64 x] ([]) (.bool (domB x)):=by
 refine YR func144 ntmps144 fun W F=>?_
 refine zq [3,4,1,2,5,3,4,0,43,0] ?_;refine Yc rfl rfl (fun hg=>pv_move rfl) ?_;refine Yc rfl rfl (fun hg=>Ys 6 rfl hg (pv_lss rfl rfl)) ?_;refine zq [46,1,2,5,10] ?_;exact zr ⟨rfl,rfl⟩
theorem tr_cloneT(G:Hp)(a:Option Addr)(c:Nat)(l:Ones)(hv:View G 2 (.slice a l.length c) l.length (cel oneC l))(hl:l.length≤2^40):Tr prog 145 [.slice a l.length c] (G) (fun v L' => ∃H,Slc 134 2 v l.length (cel oneC l) H∧L' = H++G):=by
 refine YR func145 ntmps145 fun W F=>?_
 refine zq [3,4,1,2,5,3,3,4,0] ?_;refine Yp (pv_eql_slcnil rfl rfl) ?_;refine On ?_;refine Wp.cond_t rfl (fun h1=>?_) (fun h1=>?_)
 ·
  obtain rfl:=Option.isNone_iff_eq_none.1 h1;obtain ⟨e0,e1⟩:=view_nil' hv;refine zq [3,4,1,2,5,10,12] ?_;exact zs (L' := G) (h:=⟨[],by rw[e0,e1];exact Slc.nil _ _,rfl⟩)
 refine zq [11,5,3,4] ?_;refine Yq (ef_buildSlice0 rfl) fun b1=>?_
 refine zq [0] ?_;refine Ops.ef rfl (ef_appendV (H:=[(b1,.cells ([]:List Value).toArray 134)]) rfl (slc_empty' 134 2 b1) rfl (hv.mono (by intro p hp;simp[hp])) (cel_one l) (by omega) (by omega) rfl rfl) ?_;rintro _ _ ⟨v1,H1,hs1,rfl,rfl⟩;refine Ops.app ?_
 skip
 refine zq [1,2,5,10] ?_;rw[Nat.zero_add,Y2]at hs1;exact zs (L' := H1++G) (h:=⟨H1,hs1,rfl⟩)
section
variable(sb:Nat)(H:Hp)(T:Ones)(e:Nat)(l:Int)(L:Nat→Ones)(hH:SchH T e l L sb H)
include sb H T e l L hH
theorem tr_sDomain(hA:At T e l):TrR prog 106 [.pointer (some ⟨sb,0,none⟩)] (H) (.int .i64 (tkd T e).1):=by
 obtain ⟨v,K,rb,h,hs,hR,rfl⟩:=hH;obtain ⟨a,c,rfl⟩:=hs.form;have hv:=hs.view
 have hlt:=hA.lt
 obtain ⟨b,o,cap,cc,T0,f,hv1,hbv,hr⟩:=hv.open (by omega);cases hv1;obtain ⟨q0,q1⟩:=one_read hr (tkd_get hlt);refine YR func106 ntmps106 fun W F=>?_
 refine zq [3,4,1,2,5,3] ?_;refine AnyH.startL 12 rfl ?_;refine zd [0,1,1,3,2,0] ?_;refine Yh 3 rfl (pv_load rfl rfl sch_0) ?_;refine zd [4,1,5,3,6,0] ?_;refine Yh 7 rfl (pv_load rfl rfl sch_1) ?_;refine Yh 8 rfl (pv_indexAddr (i:=e) rfl rfl rfl hlt) ?_;refine zd [9,6] ?_;refine Yh 10 rfl (pv_load rfl rfl q0) ?_;refine zd [11,5] ?_;refine YD ?_;refine zq [5,10] ?_;exact zr ⟨rfl,rfl⟩
theorem tr_sFind(hW:RdysW L)(hl:RdysL L (2^20))(x:Int):TrR prog 197 [.pointer (some ⟨sb,0,none⟩),.int .i64 x] (H) (.tuple #[.int .i64 (fdD L x),.int .i64 (fdK L x),.bool (fdB L x)]):=by
 obtain ⟨v,K,rb,h,hs,hR,rfl⟩:=hH;refine YR func197 ntmps197 fun W F=>?_
 refine zq [3,4,1,1,1,2,5,3,3,4,0,9,6] ?_;refine Yp (pv_loadK ((List.range 4).map (fun d=>ptrV (rb d))) rfl rfl rfl sch_reads) ?_;refine zq [0,2,5,20] ?_;refine YL (σ:=Nat) [(1,_),(13,_)] (fun s=>[(14,.int .i64 s)]) (fun s=>s≤4∧∀j,j<s→levOf (L j) x=none) (fun s=>4-s) 0 ⟨Nat.zero_le _,fun j hj=>absurd hj (Nat.not_lt_zero j)⟩ ?_;rintro d KK ⟨hd,hn⟩ hK;dsimp only[Y1,Y2]at hK ⊢;refine zq [3,4,42,2,5,3] ?_;refine Yd rfl (fun h1=>?_) (fun h1=>?_)
 ·
  have hd4:d<4:=by omega
  refine zq [11,5,3,20,3,4,0] ?_;refine Yp (pv_index1 (i:=d) rfl rfl rfl rfl (by omega) (arr_p hd4)) ?_;refine zq [1,1,2,5,3,4,0,2,5,20] ?_;refine YL (σ:=Nat) [(1,_),(7,_),(8,_),(13,_),(14,_)] (fun s=>[(18,.int .i64 s)]) (fun s=>s≤8∧∀j:Nat,j<s→¬0≤idxM (lvl (L d) j) x) (fun s=>8-s) 0 ⟨Nat.zero_le _,fun j hj=>absurd hj (Nat.not_lt_zero j)⟩ ?_;rintro k KK ⟨hk,hm⟩ hK1;dsimp only[Y1,Y2]at hK1 ⊢;refine zq [3,4,42,2,5,3] ?_;refine Yd rfl (fun h2=>?_) (fun h2=>?_)
  ·
   refine zq [11,5,3,20,3,4,0,1,2,5,3,4,0,0] ?_;refine zD (tr_listS hR hW hl hd4 k) ?_;rintro _ _ ⟨C1,hc1,rfl⟩;refine Ops.app ?_;obtain ⟨p1,q1,rfl⟩:=hc1.form;have hll:=Nat.le_trans (lvl_len (L d) k) (hl d hd4)
   refine zq [0] ?_;refine Yo (ef_callr (tr_contains C1 _ _ (lvl (L d) k) x hc1.view (by omega)) rfl rfl) ?_;refine On ?_;refine Yd rfl (fun h3=>?_) (fun h3=>?_)
   ·
    refine zq [3,4,0,0,1,1,1,2,5,10,15,12,12,15,15,12,12,15,12] ?_;obtain ⟨m1,m2,m3⟩:=fd_some (find_hit hd4 hn (lev_hit (hW d hd4) (by assumption)));exact zs (h:=⟨by rw[m1,m2,m3],rfl⟩)
   refine zq [11,19,5,4,52,0,2,49] ?_;refine Yy (hK1 (k+1) ⟨by omega,fun j hj=>?_⟩ (by omega))
   rcases Nat.lt_succ_iff_lt_or_eq.1 hj with hj | rfl
   ·
    exact hm j hj
   assumption
  refine zq [41,16,16,40,19,5,4,52,0,2,49] ?_;have hlm:=lev_miss (hW d hd4) (x:=x) (fun k hk=>hm k (by omega))
  refine Yy (hK (d+1) ⟨by omega,fun j hj=>?_⟩ (by omega))
  rcases Nat.lt_succ_iff_lt_or_eq.1 hj with hj | rfl
  ·
   exact hn j hj
  exact hlm
 refine zq [41,16,16,40,5,3,4,1,1,1,2,5,10] ?_;obtain ⟨m1,m2,m3⟩:=fd_none (find_miss (L:=L) (x:=x) (fun j hj=>hn j (by omega)));exact zs (h:=⟨by rw[m1,m2,m3],rfl⟩)
theorem tr_sPut(hA:At T e l)(hW:RdysW L)(hl:RdysL L (2^20))(x d0 k:Int):Tr prog 166 [.pointer (some ⟨sb,0,none⟩),.int .i64 x,.int .i64 d0,.int .i64 k] (H) (fun u L' => u=.int .i64 (spE L x d0 k)∧SchH T e l (spL L x d0 k) sb L'):=by
 obtain ⟨v,K,rb,h,hs,hR,rfl⟩:=hH;refine YR func166 ntmps166 fun W F=>?_
 refine zq [3,4,1,2,5,3,3,4,0] ?_;refine zC (tr_domain d0) ?_;refine zq [55,0] ?_;refine Ops.split (t:=15) rfl (fun h1=>?_) (fun h1=>?_)
 ·
  refine zq [13,13,24,0,13,13,24,0,13,13,24,0,13,13,24,2,5,18,3,4,1,2,5,10,12] ?_;obtain ⟨m1,m2⟩:=sp_out (L:=L) (x:=x) (d:=d0) (k:=k) (by rintro ⟨_,hq,_⟩;simp_all [domB]);exact zs (L' := (sb,.cells (schC v e l (fun d=>ptrV (rb d))).toArray 240)::(K++segs h 4)) (h:=⟨by rw[m1],by rw[m2];exact ⟨_,K,rb,h,hs,hR,rfl⟩⟩)
 refine zq [21] ?_;refine Yg (pv_lss rfl rfl) ?_;refine zq [26,0] ?_;refine Yn rfl rfl (fun hg=>pv_move rfl) ?_;refine Yn rfl rfl (fun hg=>Ys 20 rfl hg (pv_geq rfl rfl)) ?_;refine zq [47,0] ?_;refine Yn rfl rfl (fun hg=>pv_move rfl) ?_;refine Yn rfl rfl (fun hg=>Ys 24 rfl hg (pv_lss rfl rfl)) ?_;refine zq [47,0] ?_;refine Yn rfl rfl (fun hg=>pv_move rfl) ?_;refine Yn rfl rfl (fun hg=>Ys 28 rfl hg (pv_geq rfl rfl)) ?_;refine zq [47,2,5] ?_;refine Yd rfl (fun h2=>?_) (fun h2=>?_)
 ·
  refine zq [3,4,1,2,5,10,12] ?_;obtain ⟨m1,m2⟩:=sp_out (L:=L) (x:=x) (d:=d0) (k:=k) (by simp only[rightM];rintro ⟨hr,_,hk⟩;simp at hr;omega);exact zs (L' := (sb,.cells (schC v e l (fun d=>ptrV (rb d))).toArray 240)::(K++segs h 4)) (h:=⟨by rw[m1],by rw[m2];exact ⟨_,K,rb,h,hs,hR,rfl⟩⟩)
 refine zq [11,5,3,3,4,0,0] ?_;refine zC (tr_sFind sb _ T e l L ⟨_,K,rb,h,hs,hR,rfl⟩ hW hl x) ?_;refine zq [0,7,7,7,1,1,1,2,5,3,4,0,2,5] ?_;refine Wp.cond_t rfl (fun h3=>?_) (fun h3=>?_)
 ·
  refine zq [3,4,1,2,5,10,12] ?_;have hdm:0≤d0∧d0<4:=by simp_all [domB]
  obtain ⟨m1,m2⟩:=sp_twice (L:=L) (x:=x) (d:=d0) (k:=k) ⟨by simp[rightM];omega,hdm,by omega,by omega⟩ (by assumption);exact zs (L' := (sb,.cells (schC v e l (fun d=>ptrV (rb d))).toArray 240)::(K++segs h 4)) (h:=⟨by rw[m1],by rw[m2];exact ⟨_,K,rb,h,hs,hR,rfl⟩⟩)
 refine zq [11,5,3,4] ?_;have hdm:0≤d0∧d0<4:=by simp_all [domB]
 obtain ⟨d,rfl⟩:∃n:Nat,d0=n:=⟨d0.toNat,by omega⟩;have hd4:d<4:=by omega
 refine zq [0,0,9,6] ?_;refine Yp (pv_indexAddrA (i:=d) rfl rfl rfl hd4) ?_;refine Yp (pv_load rfl rfl (sch_p hd4)) ?_;refine zq [0,0] ?_;refine zD (tr_putS hR hW hl hd4 x k) ?_;rintro _ _ ⟨rfl,HH1,hN1,rfl⟩;refine Ops.app ?_;refine zq [1,2,5,10] ?_;obtain ⟨m1,m2⟩:=sp_put (L:=L) (x:=x) (d:=d) (k:=k) ⟨by simp[rightM];omega,hdm,by omega,by omega⟩ (by assumption);exact zs (L' := (sb,.cells (schC v e l (fun d=>ptrV (rb d))).toArray 240)::(K++segs (fset h d HH1) 4)) (h:=⟨by rw[m1],_,K,rb,_,hs,by rw[m2];exact hR.set hN1,rfl⟩)
theorem tr_sDrop_some(hA:At T e l)(hW:RdysW L)(hl:RdysL L (2^20))(x:Int)(d:Nat)(k:Int)(hf:findM L x=some (d,k)):Tr prog 165 [.pointer (some ⟨sb,0,none⟩),.int .i64 x] (H) (fun u L' => u=.bool (inR (L d) x)∧SchH T e l (fset L d (dropR (L d) x)) sb L'):=by
 obtain ⟨v,K,rb,h,hs,hR,rfl⟩:=hH;obtain ⟨f1,f2,f3⟩:=fd_some hf;obtain ⟨hd4,_⟩:=find_some hf;refine YR func165 ntmps165 fun W F=>?_
 refine zq [3,4,1,2,5,3,4,0,0] ?_;refine Yo (ef_callr ((tr_sFind sb _ T e l L ⟨_,K,rb,h,hs,hR,rfl⟩ hW hl x).eq (by rw[f1,f2,f3])) rfl rfl) ?_;refine zq [0,7,7,7,1,1,1,2,5,3,4,0,0,21,21,57,50] ?_;refine Yg (pv_indexAddrA (i:=d) rfl rfl rfl hd4) ?_;refine Yg (pv_load rfl rfl (sch_p hd4)) ?_;refine zq [21] ?_;refine Ops.efg ⟨_,_,rfl,rfl,rfl⟩ (ef_call (tr_dropS hR hW hl hd4 x) rfl rfl) ?_;rintro _ _ ⟨_,_,⟨rfl,HH1,hN1,rfl⟩,rfl,rfl⟩;refine Ops.app ?_;have hR2:=hR.set hN1
 have hW2:=hW.set (d:=d) ((hW d hd4).drop x)
 have hl2:=drops_len hl d x
 refine zq [24,1,2,5,10] ?_;exact zr (L' := (sb,.cells (schC v e l (fun d=>ptrV (rb d))).toArray 240)::(K++segs (fset h d HH1) 4)) ⟨rfl,_,K,rb,_,hs,hR2,rfl⟩
theorem tr_sDrop_none(hA:At T e l)(hW:RdysW L)(hl:RdysL L (2^20))(x:Int)(hf:findM L x=none):Tr prog 165 [.pointer (some ⟨sb,0,none⟩),.int .i64 x] (H) (fun u L' => u=.bool false∧SchH T e l L sb L'):=by
 obtain ⟨v,K,rb,h,hs,hR,rfl⟩:=hH;obtain ⟨f1,f2,f3⟩:=fd_none hf;refine YR func165 ntmps165 fun W F=>?_
 refine zq [3,4,1,2,5,3,4,0,0] ?_;refine Yo (ef_callr ((tr_sFind sb _ T e l L ⟨_,K,rb,h,hs,hR,rfl⟩ hW hl x).eq (by rw[f1,f2,f3])) rfl rfl) ?_;refine zq [0,7,7,7,1,1,1,2,5,3,4,0,0,13,13,13,13,13,13,13,13,26,1,2,5,10] ?_;exact zr (L' := (sb,.cells (schC v e l (fun d=>ptrV (rb d))).toArray 240)::(K++segs h 4)) ⟨rfl,_,K,rb,_,hs,hR,rfl⟩
theorem tr_sYield_some(hA:At T e l)(hW:RdysW L)(hl:RdysL L (2^20))(x:Int)(d:Nat)(k:Int)(hf:findM L x=some (d,k)):Tr prog 178 [.pointer (some ⟨sb,0,none⟩),.int .i64 x] (H) (fun u L' => u=.bool true∧SchH T e l (fset L d (putR (dropR (L d) x) x k)) sb L'):=by
 obtain ⟨v,K,rb,h,hs,hR,rfl⟩:=hH;obtain ⟨f1,f2,f3⟩:=fd_some hf;obtain ⟨hd4,_⟩:=find_some hf;refine YR func178 ntmps178 fun W F=>?_
 refine zq [3,4,1,2,5,3,4,0,0] ?_;refine Yo (ef_callr ((tr_sFind sb _ T e l L ⟨_,K,rb,h,hs,hR,rfl⟩ hW hl x).eq (by rw[f1,f2,f3])) rfl rfl) ?_;refine zq [0,7,7,7,1,1,1,2,5,3,3,4,0,2,5,18,3,4,0,0,9,6] ?_;refine Yp (pv_indexAddrA (i:=d) rfl rfl rfl hd4) ?_;refine Yp (pv_load rfl rfl (sch_p hd4)) ?_;refine zq [0] ?_;refine zD (tr_dropS hR hW hl hd4 x) ?_;rintro _ _ ⟨rfl,HH1,hN1,rfl⟩;refine Ops.app ?_;have hR2:=hR.set hN1
 have hW2:=hW.set (d:=d) ((hW d hd4).drop x)
 have hl2:=drops_len hl d x
 refine zq [2,5,4,0,0,9,6] ?_;refine Yp (pv_indexAddrA (i:=d) rfl rfl rfl hd4) ?_;refine Yp (pv_load rfl rfl (sch_p hd4)) ?_;refine zq [0,0] ?_;refine zD (tr_putS hR2 hW2 hl2 hd4 x k) ?_;rintro _ _ ⟨rfl,HH2,hN2,rfl⟩;refine Ops.app ?_;have hR3:=hR2.set hN2
 rw[fset_fset,fset_fset,fset_same]at hR3;rw[fset_fset];refine zq [2,5,3,4,0,1,2,5,10] ?_;exact zr (L' := (sb,.cells (schC v e l (fun d=>ptrV (rb d))).toArray 240)::(K++segs (fset h d HH2) 4)) ⟨rfl,_,K,rb,_,hs,hR3,rfl⟩
theorem tr_sYield_none(hA:At T e l)(hW:RdysW L)(hl:RdysL L (2^20))(x:Int)(hf:findM L x=none):Tr prog 178 [.pointer (some ⟨sb,0,none⟩),.int .i64 x] (H) (fun u L' => u=.bool false∧SchH T e l L sb L'):=by
 obtain ⟨v,K,rb,h,hs,hR,rfl⟩:=hH;obtain ⟨f1,f2,f3⟩:=fd_none hf;refine YR func178 ntmps178 fun W F=>?_
 refine zq [3,4,1,2,5,3,4,0,0] ?_;refine Yo (ef_callr ((tr_sFind sb _ T e l L ⟨_,K,rb,h,hs,hR,rfl⟩ hW hl x).eq (by rw[f1,f2,f3])) rfl rfl) ?_;refine zq [0,7,7,7,1,1,1,2,5,3,3,4,0,2,5,17,11,5,3,4,0,1,2,5,10] ?_;exact zr (L' := (sb,.cells (schC v e l (fun d=>ptrV (rb d))).toArray 240)::(K++segs h 4)) ⟨rfl,_,K,rb,_,hs,hR,rfl⟩
theorem tr_sPick(hA:At T e l)(hW:RdysW L)(hl:RdysL L (2^20)):TrR prog 59 [.pointer (some ⟨sb,0,none⟩)] (H) (.tuple #[.int .i64 (nextV (L (domN T e))),.bool (nextB (L (domN T e)))]):=by
 obtain ⟨v,K,rb,h,hs,hR,rfl⟩:=hH;obtain ⟨hdn,hd4⟩:=hA.domN;refine YR func59 ntmps59 fun W F=>?_
 refine zq [3,4,1,1,2,5,3] ?_;refine AnyH.startL 12 rfl ?_;refine zd [0,1,1,1,3,3,4,0] ?_;refine YA 2 ?_;refine Yu rfl rfl (ef_callr ((tr_sDomain sb _ T e l L ⟨_,K,rb,h,hs,hR,rfl⟩ hA).eq (by rw[hdn])) rfl rfl) ?_;refine Yh 5 rfl (pv_indexAddrA (i:=domN T e) rfl rfl rfl hd4) ?_;refine Yh 6 rfl (pv_load rfl rfl (sch_p hd4)) ?_;refine YA 7 ?_;refine Yu rfl rfl (ef_callr (tr_nextS hR hW hl hd4) rfl rfl) ?_;refine zd [8,4,9,4,10,5,11,5] ?_;refine YD ?_;refine zq [5,10] ?_;exact zr ⟨rfl,rfl⟩
end
theorem tr_sNew(G:Hp)(a:Option Addr)(c:Nat)(T:Ones)(hv:View G 2 (.slice a T.length c) T.length (cel oneC T))(hl:T.length≤2^30):Tr prog 80 [.slice a T.length c] (G) (fun u L' => (tmsOk T∧∃sb H,u=.tuple #[.pointer (some ⟨sb,0,none⟩),.int .i64 0]∧SchH T 0 (tkd T 0).2 (fun _=>[]) sb H∧L' = H++G)∨(¬tmsOk T∧u=.tuple #[.pointer none,.int .i64 1]∧L' = G)):=by
 refine YR func80 ntmps80 fun W F=>?_
 refine zq [3,4,1,1,2,5,3,3,4,0] ?_;refine Yp (pv_len_slice (T:=133) rfl rfl) ?_;refine zq [42,0] ?_;refine Yn rfl rfl (fun hg=>pv_move rfl) ?_;refine Yn rfl rfl (fun hg=>Ys 12 rfl hg (pv_len_slice (T:=133) rfl rfl)) ?_;refine Yn rfl rfl (fun hg=>Ys 12 rfl hg (Ys 13 rfl hg (pv_gtr rfl rfl))) ?_;refine zq [47,2,5] ?_;refine Yd rfl (fun h1=>?_) (fun h1=>?_)
 ·
  refine zq [3,4,1,1,2,5,10,12] ?_;exact Ends.ret (L' := G) (res2 rfl rfl rfl) (.inr ⟨fun e=>by have:=e.1;omega,rfl,rfl⟩)
 refine zq [11,5,3,3,4,0] ?_;refine Yp (pv_len_slice (T:=133) rfl rfl) ?_;refine zq [0,2,5,20] ?_;refine YL (σ:=Nat) [(0,_),(16,_),(17,_)] (fun s=>[(18,.int .i64 s)]) (fun s=>s≤T.length∧∀j,j<s→tmOk (tkd T j)) (fun s=>T.length-s) 0 ⟨Nat.zero_le _,fun j hj=>absurd hj (Nat.not_lt_zero j)⟩ ?_;rintro i KK ⟨hi,hn⟩ hK;dsimp only[Y1,Y2]at hK ⊢;refine zq [3,4,42,2,5,3] ?_;refine Yd rfl (fun h2=>?_) (fun h2=>?_)
 ·
  obtain ⟨b,o,cap,cc,T0,f,hv1,hbv,hr⟩:=hv.open (by omega);cases hv1;obtain ⟨q0,q1⟩:=one_read hr (tkd_get (show i<T.length by omega));refine zq [11,5,3,20,3,4] ?_;refine Yp (pv_indexAddr rfl rfl rfl (by omega)) ?_;refine Yp (pv_loadK [.int .i64 (tkd T i).1,.int .i64 (tkd T i).2] rfl rfl rfl (cel_reads (f:=oneC) hr (tkd_get (show i<T.length by omega)))) ?_;refine zA fun b1=>?_
  refine zq [14,2,5,3,4,6,8] ?_;refine zC (tr_domain (tkd T i).1) ?_;refine zq [55,0] ?_;refine Ops.split (t:=26) rfl (fun h3=>?_) (fun h3=>?_)
  ·
   refine zq [13,13,13,24,0,13,13,13,24,2,5,18,3,4,1,1,2,5,10,15,12,12,15,12] ?_;exact Ends.ret (L' := G) (res2 rfl rfl rfl) (.inr ⟨tms_bad (show i<T.length by omega) (by first | (unfold tmOk;intro e;omega) | (unfold tmOk;simp_all [domB];done) | (unfold tmOk;intro e;simp_all [domB];omega)),rfl,rfl⟩)
  refine zq [50,51] ?_;refine Yg (pv_lss rfl rfl) ?_;refine zq [26,0] ?_;refine Yn rfl rfl (fun hg=>pv_fieldAddr0 rfl rfl) ?_;refine Yn rfl rfl (fun hg=>Ys 32 rfl hg (pv_load rfl rfl rfl)) ?_;refine Yn rfl rfl (fun hg=>Ys 32 rfl hg (Ys 33 rfl hg (pv_gtr rfl rfl))) ?_;refine zq [47,2,5] ?_;refine Yd rfl (fun h4=>?_) (fun h4=>?_)
  ·
   refine zq [3,4,1,1,2,5,10,15,12,12,15,12] ?_;exact Ends.ret (L' := G) (res2 rfl rfl rfl) (.inr ⟨tms_bad (show i<T.length by omega) (by first | (unfold tmOk;intro e;omega) | (unfold tmOk;simp_all [domB];done) | (unfold tmOk;intro e;simp_all [domB];omega)),rfl,rfl⟩)
  refine zq [11,19,5,4,52,0,2,49] ?_;refine Yy (hK (i+1) ⟨by omega,fun j hj=>?_⟩ (by omega))
  rcases Nat.lt_succ_iff_lt_or_eq.1 hj with hj | rfl
  ·
   exact hn j hj
  unfold tmOk;first | (simp_all [domB];done) | (simp_all [domB];omega)
 obtain ⟨b,o,cap,cc,T0,f,hv1,hbv,hr⟩:=hv.open (by omega);cases hv1;obtain ⟨q0,q1⟩:=one_read hr (tkd_get (show 0<T.length by omega));refine zq [41,16,16,40,5,3] ?_;refine AnyH.start G 9 rfl ?_;refine zd [0,1,2,1] ?_;refine Yh 3 rfl (pv_indexAddr (i:=0) rfl rfl rfl (by first | omega | (simp; done) | (simp; omega))) ?_;refine zd [4,6] ?_;refine Yh 5 rfl (pv_load rfl rfl q1) ?_;refine YA 1 ?_;refine Turn.ef rfl rfl (ef_call (tr_cloneT G _ c T hv (by omega)) rfl rfl) ?_ ?_ <;> rintro _ _ ⟨_,_,⟨C1,hc1,rfl⟩,rfl,rfl⟩
 ·infer_instance
 refine AnyH.app ?_;obtain ⟨cp,cq,rfl⟩:=hc1.form;refine zd [6,9] ?_;refine YA 7 ?_;refine Yw rfl rfl (ef_boxK rfl rfl) fun b2=>?_
 refine zd [8,5] ?_;refine YD ?_;refine zq [5,3,3,4,0,2,5,20] ?_;have eb:([.slice cp T.length cq,.int .i64 0,.int .i64 (tkd T 0).2,.pointer none,.pointer none,.pointer none,.pointer none]:List Value)=schC (.slice cp T.length cq) 0 (tkd T 0).2 (fun _=>.pointer none):=rfl
 rw[eb];have es:([]:Hp)=segs (fun _=>[]) 4:=(segs_nil 4).symm
 refine Wp.loopK (σ:=Nat×(Nat→Value)×(Nat→Nat)×(Nat→Hp)) [(6,_)] (fun s=>[(45,.int .i64 s.1)]) (fun s=>(b2,.cells (schC (.slice cp T.length cq) 0 (tkd T 0).2 s.2.1).toArray 240)::(C1++(segs s.2.2.2 4++(G++F)))) (fun s=>s.1≤4∧(∀j,j<s.1→RdyH [] (s.2.2.1 j) (s.2.2.2 j))∧(∀j,s.1≤j→s.2.2.2 j=[])∧∀j,j<s.1→s.2.1 j=ptrV (s.2.2.1 j)) (fun s=>4-s.1) (0,fun _=>.pointer none,fun _=>0,fun _=>[]) ⟨Nat.zero_le _,fun j hj=>absurd hj (Nat.not_lt_zero j),fun _ _=>rfl,fun j hj=>absurd hj (Nat.not_lt_zero j)⟩ ⟨rfl,trivial⟩ ⟨rfl,trivial⟩ (by intro w ho;(try dsimp only[Y2,Y1]);rw[segs_nil];exact Drop.own ho) ?_;rintro ⟨d,p,rb,h⟩ KK ⟨hd,hR,hz,hp⟩ hK;dsimp only[Y1,Y2]at hK ⊢;dsimp only at hd hR hz hp ⊢;refine zq [3,4,42,2,5,3] ?_;refine Yd rfl (fun h5=>?_) (fun h5=>?_)
 ·
  have hd4:d<4:=by omega
  have hset:∀x,SetL (schC (.slice cp T.length cq) 0 (tkd T 0).2 p) (3+d*1) [x] (schC (.slice cp T.length cq) 0 (tkd T 0).2 (fset p d x)):=fun x=>sch_setL hd4
  refine zq [11,5,3,20,3,4,0,1,2,5] ?_;refine AnyH.start ([]:Hp) 7 rfl ?_;refine zd [0,1,1,1,3,3,4,0] ?_;refine YA 2 ?_;refine Turn.ef rfl rfl (ef_call (tr_newReady) rfl rfl) ?_ ?_ <;> rintro _ _ ⟨_,HN1,⟨rb1,rfl,hN1⟩,rfl,rfl⟩
  ·infer_instance
  refine AnyH.app ?_
  skip
  refine Yh 5 rfl (pv_indexAddrA (i:=d) rfl rfl rfl hd4) ?_;refine z1 6 ?_;refine YD ?_;refine zq [19,5,4,52,0,2,49] ?_;rw[show h=fset h d [] by rw[←hz d (Nat.le_refl _),fset_self]];refine Goes.closeS h 4 d HN1 hd4 ?_;refine Yy (hK (d+1,fset p d (ptrV rb1),fset rb d rb1,fset h d HN1) ⟨by dsimp only;omega,fun j hj=>?_,fun j hj=>?_,fun j hj=>?_⟩ (by dsimp only;omega))
  ·
   dsimp only;by_cases e:j=d
   ·
    subst e;rw[fset_same,fset_same];exact hN1
   rw[fset_ne e,fset_ne e];exact hR j (by dsimp only at hj;omega)
  ·
   dsimp only at hj ⊢;rw[fset_ne (by omega)];exact hz j (by omega)
  dsimp only at hj ⊢;by_cases e:j=d
  ·
   subst e;rw[fset_same,fset_same]
  rw[fset_ne e,fset_ne e];exact hp j (by omega)
 refine zq [41,16,16,40,5,3,4,0,1,1,2,5,10] ?_;obtain rfl:d=4:=by omega
 rw[sch_congr (q:=fun d=>ptrV (rb d)) hp];exact Ends.ret (L' := (b2,.cells (schC (.slice cp T.length cq) 0 (tkd T 0).2 (fun d=>ptrV (rb d))).toArray 240)::(C1++(segs h 4++G))) (res2 rfl rfl rfl) (.inl ⟨tms_iff.2 ⟨by omega,fun j hj=>hn j (by omega)⟩,b2,_,rfl,⟨_,_,rb,h,hc1,hR,rfl⟩,by rw[Y1,Y7];rfl⟩)
end
section
structure OpL where
  kind:Int
  id:Int
  level:Int
abbrev OpL.cells (o:OpL):List Value:=[.int .i64 o.kind,.int .i64 o.id,.int .i64 o.level]
end
section
theorem tr_lnew  : Tr prog 189 [] ([]) (fun v L' => ∃lb,v=.pointer (some ⟨lb,0,none⟩)∧L' = [(lb,.cells [.slice none 0 0].toArray 347)]):=by
 refine YR func189 ntmps189 fun W F=>?_
 refine zq [3,4,1,2,5,3,4,23] ?_;refine zB fun b1=>?_
 refine zq [1,2,5,10] ?_;exact zs (L' := [(b1,.cells [.slice none 0 0].toArray 347)]) (h:=⟨b1,rfl,rfl⟩)
end
section
def lv (L:Ones) (j:Nat):Int:=(L[j]?.getD (0,0)).2
end
section
structure Ep where
  w:Int
  l:List Int
structure Nt where
  w:Int
  l:List Int
  b:List Int
end
section
def EpH (S:Ep) (pb:Nat) (H:Hp):Prop:=∃lb v K,Slc 3 1 v S.l.length (intsC S.l) K∧H=(pb,.cells [.int .i64 S.w,.pointer (some ⟨lb,0,none⟩)].toArray 369)::(lb,.cells [v].toArray 347)::K
def NtH (S:Nt) (nb:Nat) (H:Hp):Prop:=∃lb bb v u K J,Slc 3 1 v S.l.length (intsC S.l) K∧Slc 3 1 u S.b.length (intsC S.b) J ∧
  H=(nb,.cells [.int .u64 S.w,.pointer (some ⟨lb,0,none⟩),.pointer (some ⟨bb,0,none⟩)].toArray 371)::(lb,.cells [v].toArray 347)::(bb,.cells [u].toArray 347)::(K++J)
end
section
theorem tr_epNew  : Tr prog 152 [] ([]) (fun u L' => ∃pb,u=.pointer (some ⟨pb,0,none⟩)∧EpH ⟨0,[]⟩ pb L'):=by
 refine YR func152 ntmps152 fun W F=>?_
 refine zq [3,4,1,2,5,3,4] ?_;refine zD (tr_lnew) ?_;rintro _ _ ⟨lb1,rfl,rfl⟩;refine Ops.app ?_;refine zq [23] ?_;refine zB fun b1=>?_
 refine zq [1,2,5,10] ?_;exact zs (L' := [(b1,.cells [.int .i64 0,.pointer (some ⟨lb1,0,none⟩)].toArray 369),(lb1,.cells [.slice none 0 0].toArray 347)]) (h:=⟨b1,rfl,lb1,_,[],Slc.nil _ _,rfl⟩)
end
section
structure OpE where
  kind:Int
  id:Int
  wait:Bool
abbrev OpE.cells (o:OpE):List Value:=[.int .i64 o.kind,.int .i64 o.id,.bool o.wait]
def seg (i n:Nat):List Int:=(List.range' i (n-i)).map (fun k:Nat=>(k:Int))
end
section
structure OpN where
  kind:Int
  id:Int
  badge:Int
  flag:Bool
abbrev OpN.cells (o:OpN):List Value:=[.int .i64 o.kind,.int .i64 o.id,.int .u64 o.badge,.bool o.flag]
def OpN.wf (o:OpN):Prop:=0≤o.badge∧o.badge<18446744073709551616
end
section
theorem tr_ntNew  : Tr prog 153 [] ([]) (fun u L' => ∃nb,u=.pointer (some ⟨nb,0,none⟩)∧NtH ⟨0,[],[]⟩ nb L'):=by
 refine YR func153 ntmps153 fun W F=>?_
 refine zq [3,4,1,2,5,3,4] ?_;refine zD (tr_lnew) ?_;rintro _ _ ⟨lb1,rfl,rfl⟩;refine Ops.app ?_;refine zD (tr_lnew) ?_;rintro _ _ ⟨lb2,rfl,rfl⟩;refine Ops.app ?_;refine zq [23] ?_;refine zB fun b1=>?_
 refine zq [1,2,5,10] ?_;exact zs (L' := [(b1,.cells [.int .u64 0,.pointer (some ⟨lb1,0,none⟩),.pointer (some ⟨lb2,0,none⟩)].toArray 371),(lb1,.cells [.slice none 0 0].toArray 347),(lb2,.cells [.slice none 0 0].toArray 347)]) (h:=⟨b1,rfl,lb1,lb2,_,_,[],[],Slc.nil _ _,Slc.nil _ _,rfl⟩)
end
end Go.Proofs.YtmoeokkelkgnhaaGreat
namespace Go.SL
section
section
variable {P : Program} {W : World} {ops : Array Oper} {Q : Exit → Act → World → Prop} {n : Nat} {D : List Deferred} {S : Hp} {fuel : Nat} {listed : Array Bool} {E : Env} {L : Hp}
end
section
variable {P : Program} {W : World} {n : Nat} {D : List Deferred} {E : Env} {L : Hp} {d : Nat} {ty : TypeId} {pos : String} {aft : Array Edge} {g : Option (Nat × Bool)} {T : TypeId}
theorem ef_makeMapE{κ:Type}[DecidableEq κ](enc:κ→Value){x:Option Operand}(hd:Nat.blt d n=true)(hx:x=none) :
    Ef P W n D ⟨some d,.makeMap T x,ty,pos,aft,g⟩ E L (fun E' L' => ∃b,E' = (d,.map (some b))::E∧L' = (b,mapO enc [] 0)::L):=ef_makeMap hd hx
end
end
end Go.SL
namespace Go.Proofs.YtmoeokkelkgnhaaGreat
open Go.SL
open Go.Proofs.Tryz
section
theorem bv_nat(a:Nat)(h:a<2^64):(BitVec.ofInt 64 (a:Int)).toNat=a:=by rw[BitVec.ofInt_natCast,BitVec.toNat_ofNat,Nat.mod_eq_of_lt h]
theorem bits_u64{x:BitVec 64}{r:Nat}(h:x.toNat=r):IntKind.u64.wrap (x.toNat:Int)=(r:Int):=by
 have:=x.isLt
 rw[h]at this ⊢;exact u64n rfl this
section
variable{a b:Nat}(ha:a<2^64)(hb:b<2^64)
include a b ha hb
theorem andNot_nat:bitsI .andNot .u64 (a:Int) (b:Int)=((a &&& (2^64-(b+1)):Nat):Int):=by
 show IntKind.u64.wrap ((BitVec.ofInt 64 (a:Int) &&& ~~~ BitVec.ofInt 64 (b:Int)).toNat:Int)=_
 refine bits_u64 ?_;rw[BitVec.toNat_and,BitVec.toNat_not,bv_nat a ha,bv_nat b hb,show 2^64-1-b=2^64-(b+1) by omega]
theorem or_nat:bitsI .or .u64 (a:Int) (b:Int)=((a ||| b:Nat):Int):=by
 show IntKind.u64.wrap ((BitVec.ofInt 64 (a:Int) ||| BitVec.ofInt 64 (b:Int)).toNat:Int)=_
 refine bits_u64 ?_;rw[BitVec.toNat_or,bv_nat a ha,bv_nat b hb]
theorem and_nat:bitsI .and .u64 (a:Int) (b:Int)=((a &&& b:Nat):Int):=by
 show IntKind.u64.wrap ((BitVec.ofInt 64 (a:Int) &&& BitVec.ofInt 64 (b:Int)).toNat:Int)=_
 refine bits_u64 ?_;rw[BitVec.toNat_and,bv_nat a ha,bv_nat b hb]
end
theorem mask_le{n:Nat}(h:n≤64):2^n-1<2^64:=by
 have:(2:Nat)^n≤2^64:=Nat.pow_le_pow_right (by omega) h
 have:0<(2:Nat)^n:=Nat.two_pow_pos n
 omega
theorem and_mask64{a n:Nat}(ha:a<2^64)(hn:n≤64):bitsI .and .u64 (a:Int) ((2^n-1:Nat):Int)=((a%2^n:Nat):Int):=by
 rw[and_nat ha (mask_le hn),Nat.and_two_pow_sub_one_eq_mod]
theorem andNot_mask{v n:Nat}(hv:v<2^64)(hn:n≤64):bitsI .andNot .u64 (v:Int) ((2^n-1:Nat):Int)=((v/2^n*2^n:Nat):Int):=by
 rw[andNot_nat hv (mask_le hn)]
 congr 1
 apply Nat.eq_of_testBit_eq;intro i;have h1:(2:Nat)^64-(2^n-1+1)=2^64-2^n:=by have:=Nat.two_pow_pos n;omega
 rw[Nat.testBit_and,Nat.testBit_two_pow_sub_succ (mask_le hn),Nat.testBit_two_pow_sub_one,Nat.testBit_mul_two_pow,Nat.testBit_div_two_pow]
 by_cases hi:n≤i
 ·
  by_cases h64:i<64
  ·
   simp[hi,h64,show ¬i<n by omega,show i-n+n=i by omega]
  ·
   have:v.testBit i=false:=Nat.testBit_lt_two_pow (Nat.lt_of_lt_of_le hv (Nat.pow_le_pow_right (by omega) (by omega)))
   simp[this,show i-n+n=i by omega]
 ·
  simp[hi,show i<n by omega]
theorem mask_ne{v n:Nat}:((v/2^n*2^n:Nat):Int)≠0↔2^n≤v:=by
 have hp:=Nat.two_pow_pos n
 constructor
 ·
  intro h;apply Classical.byContradiction;intro hc;rw[Nat.div_eq_of_lt (by omega)]at h;simp at h
 ·
  intro h hz;have:0<v/2^n:=Nat.div_pos h hp
  have h2:0<v/2^n*2^n:=Nat.mul_pos this hp
  omega
theorem andNot_low{w m a:Nat}(hw:w<2^a)(ha:a≤64)(hm:m*2^a<2^64):bitsI .andNot .u64 (w:Int) ((m*2^a:Nat):Int)=(w:Int):=by
 have h64:w<2^64:=Nat.lt_of_lt_of_le hw (Nat.pow_le_pow_right (by omega) ha)
 rw[andNot_nat h64 hm]
 congr 1
 apply Nat.eq_of_testBit_eq;intro i;rw[Nat.testBit_and,Nat.testBit_two_pow_sub_succ hm,Nat.testBit_mul_two_pow]
 by_cases hi:a≤i
 ·
  have:w.testBit i=false:=Nat.testBit_lt_two_pow (Nat.lt_of_lt_of_le hw (Nat.pow_le_pow_right (by omega) hi))
  simp[this]
 ·
  simp[hi,show i<64 by omega]
theorem or_low{w v a:Nat}(hw:w<2^a)(ha:a≤64)(hv:v*2^a<2^64):bitsI .or .u64 (w:Int) ((v*2^a:Nat):Int)=((v*2^a+w:Nat):Int):=by
 have h64:w<2^64:=Nat.lt_of_lt_of_le hw (Nat.pow_le_pow_right (by omega) ha)
 rw[or_nat h64 hv,Nat.or_comm,Nat.mul_comm,←Nat.two_pow_add_eq_or_of_lt hw]
theorem shl_nat{a j:Nat}(hj:j≤64)(h:a*2^j<2^64):IntKind.u64.wrap ((a:Int)*2^(min (j:Int).toNat 64))=((a*2^j:Nat):Int):=shln hj h
theorem shr_nat{a j:Nat}(hj:j≤64):((a:Int)).fdiv (2^(min (j:Int).toNat 64))=((a/2^j:Nat):Int):=by
 rw[show min (j:Int).toNat 64=j by omega,fdiv_pow]
theorem mask_shr{n:Nat}(h1:1≤n)(h:n≤64){j:Int}(hj:j=64-(n:Int)):((18446744073709551615:Int)).fdiv (2^(min j.toNat 64))=((2^n-1:Nat):Int):=by
 subst hj;have e:((18446744073709551615:Int))=((2^64-1:Nat):Int):=by decide
 have hk:min (64-(n:Int)).toNat 64=64-n:=by omega
 rw[hk,e,fdiv_pow]
 congr 1
 have h2:2^64-1=(2^n-1)*2^(64-n)+(2^(64-n)-1):=by
  have e1:(2:Nat)^64=2^n*2^(64-n):=by rw[←Nat.pow_add];congr 1;omega
  have p1:=Nat.two_pow_pos n
  have p2:=Nat.two_pow_pos (64-n)
  rw[e1,Nat.sub_mul,Nat.one_mul];have:2^(64-n)≤2^n*2^(64-n):=Nat.le_mul_of_pos_left _ p1
  omega
 rw[h2,Nat.mul_comm,Nat.mul_add_div (Nat.two_pow_pos _),Nat.div_eq_of_lt (by have:=Nat.two_pow_pos (64-n);omega)]
 rfl
def putV (w a n v:Nat):Nat:=if v<2^n then v*2^a+w else 0
def fldE (n v:Nat):Int:=if v<2^n then 0 else 10
end
end Go.Proofs.YtmoeokkelkgnhaaGreat
namespace Go.SL
section
def KindV:List (Option IntKind)→List Value→Prop
  | [],[]=>True
  | some k::ks,v::vs=>(∃n,v=.int k n)∧KindV ks vs
  | none::ks,v::vs=>(∃b,v=.bool b)∧KindV ks vs
  | _,_=>False
theorem KindV.len:∀{ks:List (Option IntKind)} {vs:List Value},KindV ks vs→vs.length=ks.length
  | [],[],_=>rfl
  | some _::ks,_::vs,h=>by simp[KindV.len h.2]
  | none::ks,_::vs,h=>by simp[KindV.len h.2]
theorem KindV.int{k:IntKind}{ks:List (Option IntKind)}:∀{vs:List Value},KindV (some k::ks) vs→∃n us,vs=.int k n::us∧KindV ks us
  | _::us,⟨⟨n,e⟩,h⟩=>⟨n,us,by rw[e],h⟩
theorem KindV.bool{ks:List (Option IntKind)}:∀{vs:List Value},KindV (none::ks) vs→∃b us,vs=.bool b::us∧KindV ks us
  | _::us,⟨⟨b,e⟩,h⟩=>⟨b,us,by rw[e],h⟩
theorem KindV.nil:∀{vs:List Value},KindV [] vs→vs=[]
  | [],_=>rfl
def asV (ag:Bool) (xs:List Value):Value:=if ag then .agg xs.toArray else xs.headD undef
class EqTy (P:Program) (T:TypeId) (ks:outParam (List (Option IntKind))) (dp:outParam Nat) (ag:outParam Bool):Prop where
  ds:∃dsc,P.underlying T=some dsc∧aggD dsc=ag
  sz:TyS P T ks.length
  on:ag=false→ks.length=1
  eq:∀d w xs ys,KindV ks xs→KindV ks ys→∃b,(Op.equalIn (d+dp) T (asV ag xs) (asV ag ys)).run P w=.ok b w∧(b=true↔xs=ys)
theorem EqTy.le{P:Program}{T:TypeId}{ks:List (Option IntKind)}{dp:Nat}{ag:Bool}(h:EqTy P T ks dp ag){D:Nat}(hD:dp≤D)(w:World){xs ys:List Value}(hx:KindV ks xs)(hy:KindV ks ys) :
    ∃b,(Op.equalIn D T (asV ag xs) (asV ag ys)).run P w=.ok b w∧(b=true↔xs=ys):=by
  have:=h.eq (D-dp) w xs ys hx hy
  rwa [show D-dp+dp=D by omega]at this
theorem EqTy.part{P:Program}{T:TypeId}{ks:List (Option IntKind)}{dp:Nat}{ag:Bool}(h:EqTy P T ks dp ag){w:World}{X xs:List Value}{off:Nat}(hr:Reads X off xs)(hl:xs.length=ks.length):(part T X.toArray off).run P w=.ok (asV ag xs) w:=by
 obtain ⟨dsc,hu,hd⟩:=h.ds
 haveI:TyD P T dsc:=⟨hu⟩
 haveI:=h.sz
 cases ag with
 | true =>
  have hc' := hr.extract hl
  simp only[List.extract_toArray,List.extract_eq_take_drop,Nat.add_sub_cancel_left]at hc';have hc' := List.toArray_inj hc'
  simp[Go.part,TyD.agg,TyS.run,hd,hc', asV]
 | false =>
  have h1:=h.on rfl
  match xs,(by rw[hl,h1]:xs.length=1) with
  | [v],_ =>
   have h0:=(reads_iff.1 hr) 0 v rfl
   simp[Go.part,TyD.agg,hd,asV]at h0 ⊢;simp[h0]
theorem KindV.split:∀{ks ls:List (Option IntKind)} {vs:List Value},KindV (ks++ls) vs→∃a b,vs=a++b∧KindV ks a∧KindV ls b
  | [],ls,vs,h=>⟨[],vs,rfl,trivial,h⟩
  | some k::ks,ls,v::vs,h=>by
    obtain ⟨a,b,rfl,h1,h2⟩:=KindV.split (ks:=ks) h.2;exact ⟨v::a,b,rfl,⟨h.1,h1⟩,h2⟩
  | none::ks,ls,v::vs,h=>by
    obtain ⟨a,b,rfl,h1,h2⟩:=KindV.split (ks:=ks) h.2;exact ⟨v::a,b,rfl,⟨h.1,h1⟩,h2⟩
  | some k::ks,ls,[],h=>by cases h
  | none::ks,ls,[],h=>by cases h
theorem Reads.both{X a b:List Value}{off:Nat}(h:Reads X off (a++b)):Reads X off a∧Reads X (off+a.length) b:=by
 rw[reads_iff]at h;refine ⟨reads_iff.2 fun j v hj=>h j v (by rw[List.getElem?_append_left (List.getElem?_eq_some_iff.1 hj).1];exact hj),reads_iff.2 fun j v hj=>?_⟩;have:=h (a.length+j) v (by rw[List.getElem?_append_right (by omega),show a.length+j-a.length=j by omega];exact hj)
 rwa [show off+(a.length+j)=off+a.length+j by omega]at this
def EqFs (P:Program) (dp:Nat):Nat→List Field→List (List (Option IntKind))→Prop
  | _,[],[]=>True
  | off, f :: fs, ks :: kss => (f.name ≠ "_" ∧ f.offset = off ∧ ∃ dq ag, dq ≤ dp ∧ EqTy P f.type ks dq ag) ∧ EqFs P dp (off + ks.length) fs kss
  | _,_,_=>False
theorem EqFs.nil{P:Program}{dp off:Nat}:EqFs P dp off [] []:=trivial
theorem EqFs.cons {P : Program} {dp off dq : Nat} {ag : Bool} {f : Field} {fs : List Field} {ks : List (Option IntKind)} {kss : List (List (Option IntKind))} (h0 : f.name ≠ "_") (h1 : f.offset = off) (h2 : EqTy P f.type ks dq ag) (h3 : dq ≤ dp) (h : EqFs P dp (off + ks.length) fs kss) : EqFs P dp off (f :: fs) (ks :: kss) := ⟨⟨h0, h1, dq, ag, h3, h2⟩, h⟩
theorem EqFs.run{P:Program}{dp D:Nat}{w:World}{X Y:List Value}(hD:dp≤D):∀{fs:List Field} {kss:List (List (Option IntKind))} {off:Nat},EqFs P dp off fs kss→∀{xs ys:List Value},KindV kss.flatten xs→KindV kss.flatten ys→Reads X off xs→Reads Y off ys →
    ∃b,(Op.eqFields D X.toArray Y.toArray fs).run P w=.ok b w∧(b=true↔xs=ys)
  | [],[],off,_,xs,ys,hx,hy,_,_=>⟨true,rfl,by rw[KindV.nil hx,KindV.nil hy];simp⟩
  | f::fs,ks::kss,off,⟨⟨h0,h1,dq,ag,h2,h3⟩,h⟩,xs,ys,hx,hy,rx,ry=>by
    rw[List.flatten_cons]at hx hy;obtain ⟨a,a2,rfl,ha,ha2⟩:=hx.split;obtain ⟨c,c2,rfl,hc,hc2⟩:=hy.split;have la:=ha.len
    have lc:=hc.len
    obtain ⟨rx1,rx2⟩:=rx.both;obtain ⟨ry1,ry2⟩:=ry.both;rw[la]at rx2;rw[lc]at ry2;obtain ⟨b1,e1,i1⟩:=h3.le (by omega:dq≤D) w ha hc;obtain ⟨b2,e2,i2⟩:=EqFs.run (w:=w) hD h ha2 hc2 rx2 ry2;subst h1;have p1:=h3.part (w:=w) rx1 la
    have p2:=h3.part (w:=w) ry1 lc
    have hl:a.length=c.length:=by omega
    simp only[Op.eqFields,if_pos h0,Sem.run_bind,p1,p2,e1,Result.andThen_ok];cases b1 with
    | false=>exact ⟨false,rfl,by simp;intro e;exact absurd (i1.2 (List.append_inj e hl).1) (by simp)⟩
    | true =>
      refine ⟨b2,by simpa using e2,?_⟩;have:=i1.1 rfl
      subst this;rw[i2];simp
  | [],_::_,_,h,_,_,_,_,_,_=>h.elim
  | _::_,[],_,h,_,_,_,_,_,_=>h.elim
theorem EqTy.items{P:Program}{e:TypeId}{ks:List (Option IntKind)}{dp D:Nat}{ag:Bool}(h:EqTy P e ks dp ag){w:World}{X Y:List Value}(hD:dp≤D):∀(m i:Nat) {xs ys:List Value},KindV (List.replicate m ks).flatten xs→KindV (List.replicate m ks).flatten ys→Reads X (i*ks.length) xs→Reads Y (i*ks.length) ys →
    ∃b,(Op.eqItems D e ks.length X.toArray Y.toArray (List.range' i m)).run P w=.ok b w∧(b=true↔xs=ys)
  | 0,i,xs,ys,hx,hy,_,_=>⟨true,rfl,by rw[KindV.nil hx,KindV.nil hy];simp⟩
  | m+1,i,xs,ys,hx,hy,rx,ry=>by
    rw[List.replicate_succ,List.flatten_cons]at hx hy;obtain ⟨a,a2,rfl,ha,ha2⟩:=hx.split;obtain ⟨c,c2,rfl,hc,hc2⟩:=hy.split;have la:=ha.len
    have lc:=hc.len
    obtain ⟨rx1,rx2⟩:=rx.both;obtain ⟨ry1,ry2⟩:=ry.both;rw[la,←Nat.succ_mul]at rx2;rw[lc,←Nat.succ_mul]at ry2;obtain ⟨b1,e1,i1⟩:=h.le (by omega:dp≤D) w ha hc;obtain ⟨b2,e2,i2⟩:=EqTy.items h (w:=w) hD m (i+1) ha2 hc2 rx2 ry2;have p1:=h.part (w:=w) rx1 la
    have p2:=h.part (w:=w) ry1 lc
    have hl:a.length=c.length:=by omega
    rw[List.range'_succ];simp only[Op.eqItems,Sem.run_bind,p1,p2,e1,Result.andThen_ok];cases b1 with
    | false=>exact ⟨false,rfl,by simp;intro e;exact absurd (i1.2 (List.append_inj e hl).1) (by simp)⟩
    | true =>
      refine ⟨b2,by simpa using e2,?_⟩;have:=i1.1 rfl
      subst this;rw[i2];simp
theorem EqTy.int{P:Program}{T:TypeId}{k:IntKind}(hu:P.underlying T=some (.int k))[hs:TyS P T 1]:EqTy P T [some k] 1 false where
  ds:=⟨_,hu,rfl⟩
  sz:=hs
  on _:=rfl
  eq d w xs ys hx hy:=by
    obtain ⟨n,us,rfl,h1⟩:=hx.int;obtain ⟨m,vs,rfl,h2⟩:=hy.int;rw[KindV.nil h1,KindV.nil h2];exact ⟨_,run_equalIn_int w d T k k n m hu,by simp⟩
theorem EqTy.bool{P:Program}{T:TypeId}(hu:P.underlying T=some .bool)[hs:TyS P T 1]:EqTy P T [none] 1 false where
  ds:=⟨_,hu,rfl⟩
  sz:=hs
  on _:=rfl
  eq d w xs ys hx hy:=by
    obtain ⟨n,us,rfl,h1⟩:=hx.bool;obtain ⟨m,vs,rfl,h2⟩:=hy.bool;rw[KindV.nil h1,KindV.nil h2];exact ⟨_,run_equalIn_bool' w d T n m hu,by simp⟩
theorem EqTy.struct{P:Program}{T:TypeId}{fs:Array Field}{kss:List (List (Option IntKind))}{dp:Nat}(hu:P.underlying T=some (.struct fs))(hst:P.stoodInHeld T=false)(hf:EqFs P dp 0 fs.toList kss)(hs:TyS P T kss.flatten.length):EqTy P T kss.flatten (dp+1) true where
  ds:=⟨_,hu,rfl⟩
  sz:=hs
  on h:=by cases h
  eq d w xs ys hx hy:=by
    have hfs:P.fieldsOf T=fs:=by simp[Program.fieldsOf,hu]
    show ∃b,(Op.equalIn (d+dp+1) T (.agg xs.toArray) (.agg ys.toArray)).run P w=_∧_
    rw[run_equalIn_struct w (d+dp) T _ _ (by rw[hfs];exact hu) hst,hfs];exact hf.run (by omega) hx hy (reads_iff.2 fun j v h=>by simpa using h) (reads_iff.2 fun j v h=>by simpa using h)
theorem EqTy.array{P:Program}{T e:TypeId}{m dp:Nat}{ks:List (Option IntKind)}{ag:Bool}(hu:P.underlying T=some (.array m e))(he:EqTy P e ks dp ag)(hs:TyS P T (List.replicate m ks).flatten.length):EqTy P T (List.replicate m ks).flatten (dp+1) true where
  ds:=⟨_,hu,rfl⟩
  sz:=hs
  on h:=by cases h
  eq d w xs ys hx hy:=by
    obtain ⟨i,hi,hsz⟩:=Option.map_eq_some_iff.1 he.sz.eq;have hc:P.cellsOf e=ks.length:=by simp[Program.cellsOf,hi,hsz]
    show ∃b,(Op.equalIn (d+dp+1) T (.agg xs.toArray) (.agg ys.toArray)).run P w=_∧_
    rw[run_equalIn_array w (d+dp) _ _ hu hi,hc,List.range_eq_range'];exact he.items (by omega) m 0 hx hy (by simpa using reads_iff.2 fun j v h=>by simpa using h) (by simpa using reads_iff.2 fun j v h=>by simpa using h)
section
variable {P : Program} {n : Nat} {D : List Deferred} {E : Env} {L : Hp} {d : Option Tmp} {ty : TypeId} {pos : String} {aft : Array Edge} {g : Option (Nat × Bool)} {T : TypeId} {x y : Operand} {yt : TypeId}
section
variable{ks:List (Option IntKind)}{dp:Nat}{xs ys:List Value}(p:Prop)
include ks dp xs ys p
theorem pv_eqlF[Decidable p][hT:EqTy P T ks dp true](hx:ev E x=some (.agg xs.toArray))(hy:ev E y=some (.agg ys.toArray))(h1:KindV ks xs)(h2:KindV ks ys)(hp:p↔xs=ys)(hd:dp≤10000)(hg:P.eqGuardType P.depth T=false):
    Pv P n D E L ⟨d,.binOp .eql T x y yt,ty,pos,aft,g⟩ (.bool (decide p)):=by
  unfold Pv;intro a w hs _
  obtain ⟨b,hb,hi⟩:=hT.le hd w h1 h2;have:b=decide p:=by rw[Bool.eq_iff_iff,hi,decide_eq_true_eq,hp]
  subst this;have hb:(Op.equalIn 10000 T (.agg xs.toArray) (.agg ys.toArray)).run P w=.ok (decide p) w:=hb
  simp only[execOp,hs.ev hx,hs.ev hy,Sem.run_bind,run_eqGuard_agg (P:=P) w .eql T x y _ _ hg,run_eql_struct,Result.andThen_ok,hb,Sem.run_pure]
theorem pv_neqF[Decidable p][hT:EqTy P T ks dp true](hx:ev E x=some (.agg xs.toArray))(hy:ev E y=some (.agg ys.toArray))(h1:KindV ks xs)(h2:KindV ks ys)(hp:p↔xs=ys)(hd:dp≤10000)(hg:P.eqGuardType P.depth T=false):
    Pv P n D E L ⟨d,.binOp .neq T x y yt,ty,pos,aft,g⟩ (.bool (decide (¬p))):=by
  unfold Pv;intro a w hs _
  obtain ⟨b,hb,hi⟩:=hT.le hd w h1 h2;have:b=decide p:=by rw[Bool.eq_iff_iff,hi,decide_eq_true_eq,hp]
  subst this;have hb:(Op.equalIn 10000 T (.agg xs.toArray) (.agg ys.toArray)).run P w=.ok (decide p) w:=hb
  simp only[execOp,hs.ev hx,hs.ev hy,Sem.run_bind,run_eqGuard_agg (P:=P) w .neq T x y _ _ hg,run_neq_struct,Result.andThen_ok,hb,Sem.run_pure];simp
end
end
theorem kind_i{k:IntKind}{n:Int}{ks:List (Option IntKind)}{vs:List Value}(h:KindV ks vs):KindV (some k::ks) (.int k n::vs):=⟨⟨n,rfl⟩,h⟩
theorem kind_b{b:Bool}{ks:List (Option IntKind)}{vs:List Value}(h:KindV ks vs):KindV (none::ks) (.bool b::vs):=⟨⟨b,rfl⟩,h⟩
end
end Go.SL
namespace Go.Proofs.YtmoeokkelkgnhaaGreat
open Go.SL
open Go.Proofs.Tryz
section
structure RegsM where
  r0:Int
  r1:Int
  r2:Int
  r3:Int
  r4:Int
  r5:Int
  r6:Int
  r7:Int
deriving DecidableEq
abbrev RegsM.cells (r:RegsM):List Value:=[.int .u64 r.r0,.int .u64 r.r1,.int .u64 r.r2,.int .u64 r.r3,.int .u64 r.r4,.int .u64 r.r5,.int .u64 r.r6,.int .u64 r.r7]
abbrev RegsM.v (r:RegsM):Value:=.agg #[.int .u64 r.r0,.int .u64 r.r1,.int .u64 r.r2,.int .u64 r.r3,.int .u64 r.r4,.int .u64 r.r5,.int .u64 r.r6,.int .u64 r.r7]
def RegsM.get (r:RegsM):Nat→Int
  | 0=>r.r0
  | 1=>r.r1
  | 2=>r.r2
  | 3=>r.r3
  | 4=>r.r4
  | 5=>r.r5
  | 6=>r.r6
  | _=>r.r7
def RegsM.set (r:RegsM) (v:Int):Nat→RegsM
  | 0=>{ r with r0:=v }
  | 1=>{ r with r1:=v }
  | 2=>{ r with r2:=v }
  | 3=>{ r with r3:=v }
  | 4=>{ r with r4:=v }
  | 5=>{ r with r5:=v }
  | 6=>{ r with r6:=v }
  | _=>{ r with r7:=v }
def U64 (x:Int):Prop:=0≤x∧x<18446744073709551616
instance (x:Int):Decidable (U64 x):=by unfold U64;infer_instance
def I64 (x:Int):Prop := -9223372036854775808≤x∧x<9223372036854775808
structure RegsM.Ok (r:RegsM):Prop where
  o0:U64 r.r0
  o1:U64 r.r1
  o2:U64 r.r2
  o3:U64 r.r3
  o4:U64 r.r4
  o5:U64 r.r5
  o6:U64 r.r6
  o7:U64 r.r7
abbrev RegsM.zero:RegsM:=⟨0,0,0,0,0,0,0,0⟩
theorem RegsM.zero_ok:RegsM.zero.Ok:=⟨by decide,by decide,by decide,by decide,by decide,by decide,by decide,by decide⟩
theorem RegsM.Ok.get{r:RegsM}(h:r.Ok)(i:Nat):U64 (r.get i):=by
 unfold RegsM.get
 split <;> first | exact h.o0 | exact h.o1 | exact h.o2 | exact h.o3 | exact h.o4 | exact h.o5 | exact h.o6 | exact h.o7
theorem RegsM.Ok.set{r:RegsM}(h:r.Ok){v:Int}(hv:U64 v)(i:Nat):(r.set v i).Ok:=by
 unfold RegsM.set;obtain ⟨o0,o1,o2,o3,o4,o5,o6,o7⟩:=h
 split <;> constructor <;> assumption
theorem RegsM.nth{r:RegsM}{i:Nat}(h:i<8):SL.nth r.cells i=some (.int .u64 (r.get i)):=by
 match i,h with
 | 0,_ | 1,_ | 2,_ | 3,_ | 4,_ | 5,_ | 6,_ | 7,_=>rfl
structure ThrM where
  st:Int
  on:Int
  badge:Int
  calls:Bool
  caller:Int
  lvl:Int
  dom:Int
  pc:Int
  regs:RegsM
deriving DecidableEq
abbrev ThrM.cells (t:ThrM):List Value:=[.int .i64 t.st,.int .i64 t.on,.int .u64 t.badge,.bool t.calls,.int .i64 t.caller,.int .i64 t.lvl,.int .i64 t.dom,.int .i64 t.pc,
  .int .u64 t.regs.r0,.int .u64 t.regs.r1,.int .u64 t.regs.r2,.int .u64 t.regs.r3,.int .u64 t.regs.r4,.int .u64 t.regs.r5,.int .u64 t.regs.r6,.int .u64 t.regs.r7]
abbrev ThrM.v (t:ThrM):Value:=.agg #[.int .i64 t.st,.int .i64 t.on,.int .u64 t.badge,.bool t.calls,.int .i64 t.caller,.int .i64 t.lvl,.int .i64 t.dom,.int .i64 t.pc,
  .int .u64 t.regs.r0,.int .u64 t.regs.r1,.int .u64 t.regs.r2,.int .u64 t.regs.r3,.int .u64 t.regs.r4,.int .u64 t.regs.r5,.int .u64 t.regs.r6,.int .u64 t.regs.r7]
theorem ThrM.ext_cells{a b:ThrM}:a=b↔a.cells=b.cells:=by
 obtain ⟨_,_,_,_,_,_,_,_,ra⟩:=a;obtain ⟨_,_,_,_,_,_,_,_,rb⟩:=b;cases ra;cases rb;simp[ThrM.cells]
abbrev ThrM.zero:ThrM:=⟨0,0,0,false,0,0,0,0,.zero⟩
structure ThrM.Wf (t:ThrM):Prop where
  st:I64 t.st
  on:I64 t.on
  badge:U64 t.badge
  caller:I64 t.caller
  lvl:I64 t.lvl
  dom:I64 t.dom
  pc:I64 t.pc
  regs:t.regs.Ok
def stillT (t:ThrM) (s:Int):ThrM:={ t with st:=s,on:=0,badge:=0,calls:=false }
def plainT (t:ThrM):ThrM:=if t.st=2 then t else if t.st=3∨t.st=5 then { stillT t t.st with on:=t.on } else stillT t t.st
instance plainDec (t:ThrM):Decidable (plainT t=t) :=
  if h:t.st=2 then isTrue (by unfold plainT;rw[if_pos h])
  else if h3:t.st=3∨t.st=5 then
    if h4:t.badge=0∧t.calls=false then isTrue (by obtain ⟨a,b,c,d,e,f,g,x,y⟩:=t;obtain ⟨h5,h6⟩:=h4;dsimp only at *;subst h5 h6;unfold plainT;rw[if_neg h,if_pos h3];rfl)
    else isFalse (fun e=>h4 (by unfold plainT at e;rw[if_neg h,if_pos h3]at e;exact ⟨(congrArg ThrM.badge e).symm,(congrArg ThrM.calls e).symm⟩))
  else
    if h4:t.on=0∧t.badge=0∧t.calls=false then isTrue (by obtain ⟨a,b,c,d,e,f,g,x,y⟩:=t;obtain ⟨h5,h6,h7⟩:=h4;dsimp only at *;subst h5 h6 h7;unfold plainT;rw[if_neg h,if_neg h3];rfl)
    else isFalse (fun e=>h4 (by unfold plainT at e;rw[if_neg h,if_neg h3]at e;exact ⟨(congrArg ThrM.on e).symm,(congrArg ThrM.badge e).symm,(congrArg ThrM.calls e).symm⟩))
def chkT (t:ThrM):Int :=
  if ¬(0≤t.st∧t.st≤5) then 8
  else if plainT t≠t∨¬(0≤t.on∧t.on≤63)∨t.badge.fdiv (2^28)≠0∨¬(-1≤t.caller∧t.caller≤63) then 10
  else if ¬(0≤t.lvl∧t.lvl≤7)∨¬(0≤t.dom∧t.dom≤3)∨¬(0≤t.pc∧t.pc≤4095) then 10 else 0
def newT (lvl dom:Int):ThrM:=⟨0,0,0,false,-1,lvl,dom,0,.zero⟩
def newTM (lvl dom:Int):ThrM×Int:=if chkT (newT lvl dom)=0 then (newT lvl dom,0) else (.zero,1)
def idleT (t:ThrM):Prop:=t.st=0∨t.st=1
instance (t:ThrM):Decidable (idleT t):=by unfold idleT;infer_instance
def startE (t:ThrM):Int:=if chkT t=0 then (if t.st≠0 then 8 else 0) else chkT t
def startTM (t:ThrM):ThrM×Int:=if startE t=0 then (stillT t 1,0) else (.zero,startE t)
def stopT (t:ThrM):ThrM:=stillT t 0
def blkT (t:ThrM) (s on badge:Int) (calls:Bool):ThrM:={ t with st:=s,on:=on,badge:=badge,calls:=calls }
def blockE (t:ThrM) (s on badge:Int) (calls:Bool):Int :=
  if chkT t≠0 then chkT t else if t.st≠1 then 8 else if idleT (blkT t s on badge calls) then 8 else chkT (blkT t s on badge calls)
def blockTM (t:ThrM) (s on badge:Int) (calls:Bool):ThrM×Int:=if blockE t s on badge calls=0 then (blkT t s on badge calls,0) else (.zero,blockE t s on badge calls)
def wakeE (t:ThrM):Int:=if chkT t=0 then (if idleT t then 8 else 0) else chkT t
def wakeTM (t:ThrM) (r:RegsM):ThrM×Int:=if wakeE t=0 then ({ stillT t 1 with regs:=r },0) else (.zero,wakeE t)
def infE (w:Nat):Int:=if w<1048576∧w%8≤4 then 0 else 10
def infCap (w:Nat):Bool:=decide (infE w=0∧w/8%2=1)
def ansR (r:RegsM) (e:Int):RegsM:={ r with r0:=e }
structure InsM where
  op:Nat
  a:Nat
  b:Nat
  imm:Nat
deriving DecidableEq
abbrev InsM.v (i:InsM):Value:=.agg #[.int .i64 i.op,.int .i64 i.a,.int .i64 i.b,.int .i64 i.imm]
def InsM.Ok (i:InsM):Prop:=i.op≤17∧i.a<8∧i.b<8∧i.imm<4096
def decM (w:Nat):InsM:=⟨w%32,w/32%8,w/256%8,w/2048%4096⟩
def insOk (w:Nat):Prop:=w<8388608∧w%32≤17
instance (w:Nat):Decidable (insOk w):=by unfold insOk;infer_instance
def unpM (w:Nat):InsM×Int:=if insOk w then (decM w,0) else (⟨0,0,0,0⟩,10)
structure EffM where
  regs:RegsM
  pc:Int
  asks:Int
  at_:Int
  reg:Int
  val:Int
abbrev EffM.v (x:EffM):Value:=.agg #[.int .u64 x.regs.r0,.int .u64 x.regs.r1,.int .u64 x.regs.r2,.int .u64 x.regs.r3,.int .u64 x.regs.r4,.int .u64 x.regs.r5,.int .u64 x.regs.r6,.int .u64 x.regs.r7,
  .int .i64 x.pc,.int .i64 x.asks,.int .u64 x.at_,.int .i64 x.reg,.int .u64 x.val]
def sumV (op:Nat) (a b:Int):Int :=
  if op=2 then b else if op=3 then IntKind.u64.wrap (a+b) else if op=4 then IntKind.u64.wrap (a-b) else if op=5 then IntKind.u64.wrap (a*b)
  else if op=6 then bitsI .and .u64 a b else if op=7 then bitsI .or .u64 a b else if op=8 then bitsI .xor .u64 a b
  else if op=9 then IntKind.u64.wrap (a*2^(b.toNat%64)) else if op=10 then a.fdiv (2^(b.toNat%64)) else a
def sumB (op:Nat):Prop:=2≤op∧op≤10
instance (op:Nat):Decidable (sumB op):=by unfold sumB;infer_instance
def nextPc (pc:Int):Int:=if pc=4095 then 0 else pc+1
def runM (i:InsM) (r:RegsM) (pc:Int):EffM :=
  if sumB i.op then ⟨r.set (sumV i.op (r.get i.a) (r.get i.b)) i.a,nextPc pc,0,0,0,0⟩
  else if i.op=0 then ⟨r,pc,4,0,0,0⟩
  else if i.op=1 then ⟨r.set i.imm i.a,nextPc pc,0,0,0,0⟩
  else if i.op=17 then ⟨r.set (IntKind.u64.wrap (IntKind.u64.wrap (r.get i.a*2^12)+i.imm)) i.a,nextPc pc,0,0,0,0⟩
  else if i.op=11 then ⟨r,nextPc pc,1,IntKind.u64.wrap (r.get i.b+i.imm),i.a,0⟩
  else if i.op=12 then ⟨r,nextPc pc,2,IntKind.u64.wrap (r.get i.b+i.imm),0,r.get i.a⟩
  else if i.op=16 then ⟨r,nextPc pc,3,0,0,i.imm⟩
  else if i.op=14 then ⟨r,if r.get i.a<1 then (i.imm:Int) else nextPc pc,0,0,0,0⟩
  else if i.op=15 then ⟨r,if r.get i.a<r.get i.b then (i.imm:Int) else nextPc pc,0,0,0,0⟩
  else ⟨r,i.imm,0,0,0,0⟩
structure PteM where
  valid:Bool
  write:Bool
  at_:Int
deriving DecidableEq
abbrev PteM.v (e:PteM):Value:=.agg #[.bool e.valid,.bool e.write,.int .i64 e.at_]
abbrev PteM.zero:PteM:=⟨false,false,0⟩
def packE (e:PteM):Int:=if e=.zero then 0 else if e.valid=false then 10 else if e.at_<0∨65520<e.at_∨e.at_%16≠0 then 9 else 0
def packV (e:PteM):Int:=if packE e=0 then (if e=.zero then 0 else e.at_+1+(if e.write then 2 else 0)) else 0
def pteOk (w:Nat):Prop:=w%2=1∧w/4%4=0∧w<65536
instance (w:Nat):Decidable (pteOk w):=by unfold pteOk;infer_instance
def pteM (w:Nat):PteM×Int:=if w=0 then (.zero,0) else if pteOk w then (⟨true,decide (w/2%2=1),(w/16*16:Nat)⟩,0) else (.zero,10)
def splitM (a:Int):Int×Int×Int×Int:=if a<0∨4096≤a then (0,0,0,1) else (a/256,a/16%16,a%16,0)
end
section
theorem tr_bMask(n:Nat)(hn1:1≤n)(h:n≤64):TrR prog 201 [.int .i64 n] ([]) (.int .u64 ((2^n-1:Nat):Int)):=by
 refine YR func201 ntmps201 fun W F=>?_
 refine zq [3,4,1,2,5,3,4,0,53] ?_;refine Yp (pv_shr rfl rfl (by omega) (mask_shr hn1 h rfl)) ?_;refine zq [1,2,5,10] ?_;exact zr ⟨rfl,rfl⟩
theorem tr_bField(a n:Int)(hn:I64 n):TrR prog 200 [.int .i64 a,.int .i64 n] ([]) (.bool (decide (((n≥1∧n≤64)∧a≥0)∧a≤64-n))):=by
 unfold I64 at hn;refine YR func200 ntmps200 fun W F=>?_
 refine zq [3,4,1,2,5,3,4,0,43,0] ?_;refine Yc rfl rfl (fun hg=>pv_move rfl) ?_;refine Yc rfl rfl (fun hg=>Ys 8 rfl hg (pv_leq rfl rfl)) ?_;refine zq [46,0] ?_;refine Yc rfl rfl (fun hg=>pv_move rfl) ?_;refine Yc rfl rfl (fun hg=>Ys 12 rfl hg (pv_geq rfl rfl)) ?_;refine zq [46,0] ?_;refine Yc rfl rfl (fun hg=>pv_move rfl) ?_;refine Yc rfl rfl (fun hg=>Ys 16 rfl hg (pv_move rfl)) ?_;refine Yc rfl rfl (fun hg=>Ys 16 rfl hg (Ys 17 rfl hg (pv_sub rfl rfl (w64 (by omega) (by omega))))) ?_;refine Yc rfl rfl (fun hg=>Ys 16 rfl hg (Ys 17 rfl hg (Ys 18 rfl hg (pv_leq rfl rfl)))) ?_;refine zq [46,1,2,5,10] ?_;exact zr ⟨rfl,rfl⟩
theorem tr_bGet(w a n:Nat)(hw:w<2^64)(hn1:1≤n)(h:a+n≤64):TrR prog 171 [.int .u64 w,.int .i64 a,.int .i64 n] ([]) (.tuple #[.int .u64 ((w/2^a%2^n:Nat):Int),.int .i64 0]):=by
 refine YR func171 ntmps171 fun W F=>?_
 refine zq [3,4,1,1,2,5,3,3,4,0,0] ?_;refine zC ((tr_bField a n (by unfold I64;omega)).eq (r' := .bool true) (by rw[decide_eq_true (by omega)])) ?_;refine zq [39,2,5,17,11,5,3] ?_;refine AnyH.startL 8 rfl ?_;refine zd [0,1,1,1] ?_;refine Yh 2 rfl (pv_shr rfl rfl (by omega) (shr_nat (by omega))) ?_;refine zd [3,1] ?_;refine YA 4 ?_;refine Yu rfl rfl (ef_callr (tr_bMask n hn1 (by omega)) rfl rfl) ?_;refine Yh 5 rfl (pv_and rfl rfl (and_mask64 (Nat.lt_of_le_of_lt (Nat.div_le_self _ _) hw) (by omega))) ?_;refine zd [6,5,7,5] ?_;refine YD ?_;refine zq [5,10] ?_;exact zr ⟨rfl,rfl⟩
theorem tr_bPut(w a n v:Nat)(hw:w<2^a)(hn1:1≤n)(h:a+n≤64)(hv:v<2^64):TrR prog 202 [.int .u64 w,.int .i64 a,.int .i64 n,.int .u64 v] ([]) (.tuple #[.int .u64 (putV w a n v:Nat),.int .i64 (fldE n v)]):=by
 refine YR func202 ntmps202 fun W F=>?_
 refine zq [3,4,1,1,2,5,3,20,3,4,0,0] ?_;refine zC ((tr_bField a n (by unfold I64;omega)).eq (r' := .bool true) (by rw[decide_eq_true (by omega)])) ?_;refine zq [39,1,2,5,17,3,4,0,0] ?_;refine zC (tr_bMask n hn1 (by omega)) ?_;refine Yp (pv_andNot rfl rfl (andNot_mask hv (by omega))) ?_;refine zq [27,1,2,5] ?_;refine Yd rfl (fun h1=>?_) (fun h1=>?_)
 ·
  have hlt:¬v<2^n:=by have:=mask_ne.1 ‹((v/2^n*2^n:Nat):Int)≠0›;omega
  refine zq [3,4,1,1,2,5,10,15,12] ?_;exact zs (h:=⟨by rw[putV,fldE,if_neg hlt,if_neg hlt];rfl,rfl⟩)
 have hlt:v<2^n:=Classical.byContradiction fun hc=>by have:=mask_ne.2 (Nat.le_of_not_lt hc);contradiction
 have hpp:(2:Nat)^(a+n)≤2^64:=Nat.pow_le_pow_right (by omega) h
 have hpn:2^n*2^a=(2:Nat)^(a+n):=by rw[Nat.add_comm a n,Nat.pow_add]
 have hv2:v*2^a<2^64:=Nat.lt_of_lt_of_le (Nat.mul_lt_mul_of_pos_right hlt (Nat.two_pow_pos a)) (by omega)
 have hm2:(2^n-1)*2^a<2^64:=Nat.lt_of_lt_of_le (Nat.mul_lt_mul_of_pos_right (by have:=Nat.two_pow_pos n;omega) (Nat.two_pow_pos a)) (by omega:2^n*2^a≤2^64)
 refine zq [11,19,5,3] ?_;refine AnyH.startL 12 rfl ?_;refine zd [0,1,1,1,3,1,6,1,7,1] ?_;refine Yh 8 rfl (pv_shl rfl rfl (by omega) (shl_nat (by omega) hv2)) ?_;refine YA 2 ?_;refine Yu rfl rfl (ef_callr (tr_bMask n hn1 (by omega)) rfl rfl) ?_;refine Yh 4 rfl (pv_shl rfl rfl (by omega) (shl_nat (by omega) hm2)) ?_;refine Yh 5 rfl (pv_andNot rfl rfl (andNot_low hw (by omega) hm2)) ?_;refine Yh 9 rfl (pv_or rfl rfl (or_low hw (by omega) hv2)) ?_;refine zd [10,5,11,5] ?_;refine YD ?_;refine zq [5,10] ?_;exact zs (h:=⟨by rw[putV,fldE,if_pos hlt,if_pos hlt],rfl⟩)
end
section
instance eqt3:EqTy prog 3 [some .i64] 1 false:=EqTy.int underlying3
instance eqt4:EqTy prog 4 [none] 1 false:=EqTy.bool underlying4
instance eqt50:EqTy prog 50 [some .u64] 1 false:=EqTy.int underlying50
instance eqt81:EqTy prog 81 [some .u64,some .u64,some .u64,some .u64,some .u64,some .u64,some .u64,some .u64] 2 true:=EqTy.array (m:=8) underlying81 eqt50 ⟨by kernel_rfl⟩
instance eqt83:EqTy prog 83 [some .i64,some .i64,some .u64,none,some .i64,some .i64,some .i64,some .i64,some .u64,some .u64,some .u64,some .u64,some .u64,some .u64,some .u64,some .u64] 3 true:=EqTy.struct (kss:=[[some .i64],[some .i64],[some .u64],[none],[some .i64],[some .i64],[some .i64],[some .i64],[some .u64,some .u64,some .u64,some .u64,some .u64,some .u64,some .u64,some .u64]]) (dp:=2) underlying83 (by kernel_rfl) (EqFs.cons (by decide) rfl eqt3 (by decide) (EqFs.cons (by decide) rfl eqt3 (by decide) (EqFs.cons (by decide) rfl eqt50 (by decide) (EqFs.cons (by decide) rfl eqt4 (by decide) (EqFs.cons (by decide) rfl eqt3 (by decide) (EqFs.cons (by decide) rfl eqt3 (by decide) (EqFs.cons (by decide) rfl eqt3 (by decide) (EqFs.cons (by decide) rfl eqt3 (by decide) (EqFs.cons (by decide) rfl eqt81 (by decide) EqFs.nil))))))))) ⟨by kernel_rfl⟩
instance eqt392:EqTy prog 392 [some .i64,some .i64] 2 true:=EqTy.struct (kss:=[[some .i64],[some .i64]]) (dp:=1) underlying392 (by kernel_rfl) (EqFs.cons (by decide) rfl eqt3 (by decide) (EqFs.cons (by decide) rfl eqt3 (by decide) EqFs.nil)) ⟨by kernel_rfl⟩
instance eqt396:EqTy prog 396 [none,none,some .i64] 2 true:=EqTy.struct (kss:=[[none],[none],[some .i64]]) (dp:=1) underlying396 (by kernel_rfl) (EqFs.cons (by decide) rfl eqt4 (by decide) (EqFs.cons (by decide) rfl eqt4 (by decide) (EqFs.cons (by decide) rfl eqt3 (by decide) EqFs.nil))) ⟨by kernel_rfl⟩
end
section
theorem thr_kind(t:ThrM):KindV [some .i64,some .i64,some .u64,none,some .i64,some .i64,some .i64,some .i64,some .u64,some .u64,some .u64,some .u64,some .u64,some .u64,some .u64,some .u64] t.cells :=
  kind_i (kind_i (kind_i (kind_b (kind_i (kind_i (kind_i (kind_i (kind_i (kind_i (kind_i (kind_i (kind_i (kind_i (kind_i (kind_i trivial)))))))))))))))
theorem tr_tWithin(n a b:Int):TrR prog 195 [.int .i64 n,.int .i64 a,.int .i64 b] ([]) (.bool (decide (n≥a∧n≤b))):=by
 refine YR func195 ntmps195 fun W F=>?_
 refine zq [3,4,1,2,5,3,4,0,0,43,0] ?_;refine Yc rfl rfl (fun hg=>pv_move rfl) ?_;refine Yc rfl rfl (fun hg=>Ys 11 rfl hg (pv_move rfl)) ?_;refine Yc rfl rfl (fun hg=>Ys 11 rfl hg (Ys 12 rfl hg (pv_leq rfl rfl))) ?_;refine zq [46,1,2,5,10] ?_;exact zr ⟨rfl,rfl⟩
theorem tr_tStill(t:ThrM)(s:Int):TrR prog 164 [t.v,.int .i64 s] ([]) ((stillT t s).v):=by
 refine YR func164 ntmps164 fun W F=>?_
 refine Wr ?_;refine zB fun b1=>?_
 refine zA fun b2=>?_
 refine zq [2,5,3,4,0,6,25,6,25,6,25,6,25,2,5,3,4,31,14,2,5,10] ?_;exact Ends.ret (res_one rfl (rv_cellK [_,_,_,_,_,_,_,_,_,_,_,_,_,_,_,_] rfl rfl rfl ⟨rfl,rfl,rfl,rfl,rfl,rfl,rfl,rfl,rfl,rfl,rfl,rfl,rfl,rfl,rfl,rfl,trivial⟩)) ⟨rfl,rfl⟩
theorem tr_tPlain(t:ThrM):TrR prog 196 [t.v] ([]) ((plainT t).v):=by
 refine YR func196 ntmps196 fun W F=>?_
 refine Wr ?_;refine zB fun b1=>?_
 refine zA fun b2=>?_
 refine zq [2,5,3,3,4,6,8,2,5,20,3,4,22,1,2,5] ?_;refine Yd rfl (fun h1=>?_) (fun h1=>?_)
 ·
  refine zq [3,4,31,14,2,5,10,15,12] ?_;have he:plainT t=t:=if_pos (by assumption)
  exact Ends.ret (res_one rfl (rv_cellK [_,_,_,_,_,_,_,_,_,_,_,_,_,_,_,_] rfl rfl rfl ⟨rfl,rfl,rfl,rfl,rfl,rfl,rfl,rfl,rfl,rfl,rfl,rfl,rfl,rfl,rfl,rfl,trivial⟩)) ⟨by rw[he],rfl⟩
 refine zq [3,3,4,22,1,2,5] ?_;refine Yd rfl (fun h2=>?_) (fun h2=>?_)
 ·
  refine zq [11,5,18,3,4,6,8,1,2,5,3,4,31,6,8] ?_;refine zC (tr_tStill t t.st) ?_;refine zq [14,2,5,3,4,0,6,25,2,5,3,4,31,14,2,5,10,15,12] ?_;have he:plainT t={ stillT t t.st with on:=t.on }:=(if_neg (by assumption)).trans (if_pos (by first | (left;assumption) | (right;assumption)))
  exact Ends.ret (res_one rfl (rv_cellK [_,_,_,_,_,_,_,_,_,_,_,_,_,_,_,_] rfl rfl rfl ⟨rfl,rfl,rfl,rfl,rfl,rfl,rfl,rfl,rfl,rfl,rfl,rfl,rfl,rfl,rfl,rfl,trivial⟩)) ⟨by rw[he],rfl⟩
 refine zq [4,22,1,2,5] ?_;refine Yd rfl (fun h3=>?_) (fun h3=>?_)
 ·
  refine zq [3,4,6,8,1,2,5,3,4,31,6,8] ?_;refine zC (tr_tStill t t.st) ?_;refine zq [14,2,5,3,4,0,6,25,2,5,3,4,31,14,2,5,10,15,12] ?_;have he:plainT t={ stillT t t.st with on:=t.on }:=(if_neg (by assumption)).trans (if_pos (by first | (left;assumption) | (right;assumption)))
  exact Ends.ret (res_one rfl (rv_cellK [_,_,_,_,_,_,_,_,_,_,_,_,_,_,_,_] rfl rfl rfl ⟨rfl,rfl,rfl,rfl,rfl,rfl,rfl,rfl,rfl,rfl,rfl,rfl,rfl,rfl,rfl,rfl,trivial⟩)) ⟨by rw[he],rfl⟩
 refine zq [11,19,5,3,4,31,6,8] ?_;refine zC (tr_tStill t t.st) ?_;refine zq [14,2,5,10] ?_;have he:plainT t=stillT t t.st:=(if_neg (by assumption)).trans (if_neg (by rintro (h | h) <;> contradiction))
 exact Ends.ret (res_one rfl (rv_cellK [_,_,_,_,_,_,_,_,_,_,_,_,_,_,_,_] rfl rfl rfl ⟨rfl,rfl,rfl,rfl,rfl,rfl,rfl,rfl,rfl,rfl,rfl,rfl,rfl,rfl,rfl,rfl,trivial⟩)) ⟨by rw[he],rfl⟩
theorem tr_tCheck(t:ThrM):TrR prog 163 [t.v] ([]) (.int .i64 (chkT t)):=by
 refine YR func163 ntmps163 fun W F=>?_
 refine Wr ?_;refine zB fun b1=>?_
 refine zq [1,2,5,3,20,3,4,6,8] ?_;refine zC (tr_tWithin t.st 0 5) ?_;refine zq [55,1,2,5] ?_;refine Yd rfl (fun h1=>?_) (fun h1=>?_)
 ·
  refine zq [3,4,1,2,5,10,15,12] ?_;exact zs (h:=⟨by unfold chkT;simp_all;try omega,rfl⟩)
 refine zq [3,3] ?_;refine AnyH.start [(b1,.cells t.cells.toArray 83)] 5 rfl ?_;refine zd [0,13,2,13] ?_;refine YA 1 ?_;refine Yu rfl rfl (ef_callr (tr_tPlain t) rfl rfl) ?_;refine Yh 3 rfl (pv_neqF (plainT t=t) (xs:=(plainT t).cells) (ys:=t.cells) rfl rfl (thr_kind _) (thr_kind _) ThrM.ext_cells (by decide) (by kernel_rfl)) ?_;refine zd [4,5] ?_;refine YD ?_;refine Ends.seq ?_;refine Yd rfl (fun h2=>?_) (fun h2=>?_)
 ·
  refine zq [11,5,18,3,4,1,2,5,10,15,12] ?_;exact zs (h:=⟨by unfold chkT;simp_all;try omega,rfl⟩)
 refine zq [3,4,6,8] ?_;refine zC (tr_tWithin t.on 0 63) ?_;refine zq [55,1,2,5] ?_;refine Yd rfl (fun h3=>?_) (fun h3=>?_)
 ·
  refine zq [11,5,18,3,4,1,2,5,10,15,12] ?_;exact zs (h:=⟨by unfold chkT;simp_all;try omega,rfl⟩)
 refine zq [3,4,6,8] ?_;refine Yp (pv_shr (r:=t.badge.fdiv (2^28)) rfl rfl (by omega) rfl) ?_;refine zq [27,1,2,5] ?_;refine Yd rfl (fun h4=>?_) (fun h4=>?_)
 ·
  refine zq [11,5,18,3,4,1,2,5,10,15,12] ?_;exact zs (h:=⟨by unfold chkT;simp_all;try omega,rfl⟩)
 refine zq [4,6,8] ?_;refine zC (tr_tWithin t.caller (-1) 63) ?_;refine zq [55,1,2,5] ?_;refine Yd rfl (fun h5=>?_) (fun h5=>?_)
 ·
  refine zq [3,4,1,2,5,10,15,12] ?_;exact zs (h:=⟨by unfold chkT;simp_all;try omega,rfl⟩)
 refine zq [3,3,4,6,8] ?_;refine zC (tr_tWithin t.lvl 0 7) ?_;refine zq [55,1,2,5] ?_;refine Yd rfl (fun h6=>?_) (fun h6=>?_)
 ·
  refine zq [11,5,18,3,4,1,2,5,10,15,12] ?_;exact zs (h:=⟨by unfold chkT;simp_all;try omega,rfl⟩)
 refine zq [3,4,6,8] ?_;refine zC (tr_tWithin t.dom 0 3) ?_;refine zq [55,1,2,5] ?_;refine Yd rfl (fun h7=>?_) (fun h7=>?_)
 ·
  refine zq [11,5,18,3,4,1,2,5,10,15,12] ?_;exact zs (h:=⟨by unfold chkT;simp_all;try omega,rfl⟩)
 refine zq [4,6,8] ?_;refine zC (tr_tWithin t.pc 0 4095) ?_;refine zq [55,1,2,5] ?_;refine Yd rfl (fun h8=>?_) (fun h8=>?_)
 ·
  refine zq [3,4,1,2,5,10,15,12] ?_;exact zs (h:=⟨by unfold chkT;simp_all;try omega,rfl⟩)
 refine zq [11,19,5,3,4,1,2,5,10] ?_;exact zs (h:=⟨by unfold chkT;simp_all;try omega,rfl⟩)
theorem tr_tNew(lvl dom:Int):TrR prog 151 [.int .i64 lvl,.int .i64 dom] ([]) (.tuple #[(newTM lvl dom).1.v,.int .i64 (newTM lvl dom).2]):=by
 refine YR func151 ntmps151 fun W F=>?_
 refine Wr ?_;refine zA fun b1=>?_
 refine zq [1,2,5,3,4,0,0,23] ?_;refine zA fun b2=>?_
 refine zq [14,2,5,3,3,4,31] ?_;refine zC (tr_tCheck (newT lvl dom)) ?_;refine zq [27,2,5] ?_;refine Yd rfl (fun h1=>?_) (fun h1=>?_)
 ·
  refine zq [3,4,23,14,1,2,5,10,12] ?_;have he:newTM lvl dom=(.zero,1):=if_neg (by assumption)
  exact zs (h:=⟨by rw[he],rfl⟩)
 refine zq [11,5,3,4,31,14,1,2,5,10] ?_;have he:newTM lvl dom=(newT lvl dom,0):=if_pos (by first | assumption | omega)
 exact zs (h:=⟨by rw[he];rfl,rfl⟩)
theorem tr_tStart(t:ThrM):TrR prog 101 [t.v] ([]) (.tuple #[(startTM t).1.v,.int .i64 (startTM t).2]):=by
 refine YR func101 ntmps101 fun W F=>?_
 refine Wr ?_;refine zB fun b1=>?_
 refine zA fun b2=>?_
 refine zq [1,2,5,3,4,31] ?_;refine zC (tr_tCheck t) ?_;refine zq [1,2,5,3,3,4,0,22,0] ?_;refine Yc rfl rfl (fun hg=>pv_fieldAddr0 rfl rfl) ?_;refine Yc rfl rfl (fun hg=>Ys 10 rfl hg (pv_load rfl rfl rfl)) ?_;refine Yc rfl rfl (fun hg=>Ys 10 rfl hg (Ys 11 rfl hg (pv_neq rfl rfl))) ?_;refine zq [46,2,5] ?_;refine Yd rfl (fun h1=>?_) (fun h1=>?_)
 ·
  refine zq [4,1,2,5,3,3,4,0,27,2,5] ?_;refine Yd rfl (fun h2=>?_) (fun h2=>?_)
  ·
   refine zq [3,4,23,0,14,1,2,5,10,12] ?_;exact zs (h:=⟨by simp_all [startTM,startE],rfl⟩)
  refine zq [11,5,3,4,31] ?_;refine zC (tr_tStill t 1) ?_;refine zq [14,1,2,5,10] ?_;exact zs (h:=⟨by simp_all [startTM,startE],rfl⟩)
 refine zq [11,5,3,3,4,0,27,2,5] ?_;refine Yd rfl (fun h3=>?_) (fun h3=>?_)
 ·
  refine zq [3,4,23,0,14,1,2,5,10,12] ?_;exact zs (h:=⟨by simp_all [startTM,startE],rfl⟩)
 refine zq [11,5,3,4,31] ?_;refine zC (tr_tStill t 1) ?_;refine zq [14,1,2,5,10] ?_;exact zs (h:=⟨by simp_all [startTM,startE],rfl⟩)
end
end Go.Proofs.YtmoeokkelkgnhaaGreat
section
namespace Go.SL
section pvs
variable {P : Program} {W : World} {n : Nat} {D : List Deferred} {E : Env} {L : Hp} {d : Option Tmp} {ty : TypeId} {pos : String} {aft : Array Edge} {g : Option (Nat × Bool)} {T : TypeId} {x y z : Operand} {v u : Value}
theorem pv_sliceArr{b o m i j e k:Nat}{lo hi:Option Operand}(hx:ev E x=some (.pointer (some ⟨b,o,none⟩)))(hlo:evO E lo 0 i)(hhi:evO E hi m j)(h1:i≤j)(h2:j≤m)[ht:TyD P T (.array m e)][hk:TyS P e k] :
    Pv P n D E L ⟨d,.slice T x lo hi none,ty,pos,aft,g⟩ (.slice (some (if m=i then ⟨b,o,none⟩ else ⟨b,o+i*k,none⟩)) (j-i) (m-i)):=by
  unfold Pv;intro A w hs _
  have e0:(⟨b,o,none⟩:Addr).add 0=⟨b,o,none⟩:=rfl
  cases lo with
  | none =>
    obtain rfl:i=0:=hlo;cases hi with
    | none =>
      obtain rfl:j=m:=hhi;simp[execOp,hs.ev hx,Instr.sliceAt,Instr.sureAddr,Instr.sliceBounds,TyD.run,TyS.run,addr_add,e0]
    | some o' =>
      obtain ⟨kk,ho⟩:=hhi;have h3:(0:Int)≤(j:Int)∧(j:Int)≤(m:Int):=by omega
      simp[execOp,hs.ev hx,hs.ev ho,Instr.sliceAt,Instr.sureAddr,Instr.sliceBounds,Instr.sliceBound,asIntOf,TyD.run,TyS.run,h3,h2,addr_add,e0]
  | some o' =>
    obtain ⟨kk,ho⟩:=hlo;cases hi with
    | none =>
      obtain rfl:j=m:=hhi;simp[execOp,hs.ev hx,hs.ev ho,Instr.sliceAt,Instr.sureAddr,Instr.sliceBounds,Instr.sliceBound,asIntOf,TyD.run,TyS.run,h1,addr_add]
    | some o'' =>
      obtain ⟨kk', ho'⟩:=hhi;simp[execOp,hs.ev hx,hs.ev ho,hs.ev ho', Instr.sliceAt,Instr.sureAddr,Instr.sliceBounds,Instr.sliceBound,asIntOf,TyD.run,TyS.run,h1,h2,addr_add]
theorem pv_buildA{m e k:Nat}{zs cs:List Value}{parts:List (Nat×Operand)}{vs:List (Nat×Value)}(hp:evps E parts=some vs)[hz:TyZ P T (.agg zs.toArray)][ht:TyD P T (.array m e)][hk:TyS P e k](hf:Instr.fill (fun i=>some (i*k,k)) zs.toArray vs=some cs.toArray) :
    Pv P n D E L ⟨d,.build T parts.toArray,ty,pos,aft,g⟩ (.agg cs.toArray):=by
  unfold Pv;intro a w hs _
  have hm:(parts.toArray.map fun (i,x)=>(i,a.eval x))=vs.toArray:=by rw[List.map_toArray,hs.evps hp]
  simp only[execOp,Instr.build,Sem.run_bind,TyZ.run,Result.andThen_ok,TyD.run,TyS.run,Value.cells];rw[show (Array.map (fun (x:Nat×Operand)=>(x.1,a.eval x.2)) parts.toArray)=vs.toArray from hm];simp only[hf,Sem.run_pure,Result.andThen_ok]
theorem pv_indexAddrN{e k b o o2 m:Nat}{kk:IntKind}{j:Int}{i:Nat}(hx:ev E x=some (.pointer (some ⟨b,o,none⟩)))(hy:ev E y=some (.int kk j))[ht:TyD P T (.array m e)][hk:TyS P e k](hj:j=i)(hi:i<m)(ho:o+i*k=o2) :
    Pv P n D E L ⟨d,.indexAddr T x y,ty,pos,aft,g⟩ (.pointer (some ⟨b,o2,none⟩)):=by
  subst ho;exact pv_indexAddrA hx hy hj hi
def asT (A t:TypeId) (v zv:Value):Value:=if t=A then v else zv
theorem pv_assert{xt A t:TypeId}{dsc:TypeDesc}{zv:Value}(hx:ev E x=some (.iface t v))[hA:TyD P A dsc](hni:(match dsc with | .interface _=>false | _=>true)=true)[hz:TyZ P A zv] :
    Pv P n D E L ⟨d,.typeAssert x xt A true,ty,pos,aft,g⟩ (.tuple #[asT A t v zv,.bool (decide (t=A))]):=by
  unfold Pv;intro a w hs _
  by_cases e:t=A
  · subst e
    cases dsc <;> simp[execOp,hs.ev hx,Instr.typeAssert,TyD.run,asT]at hni ⊢
  · cases dsc <;> simp[execOp,hs.ev hx,Instr.typeAssert,TyD.run,asT,e,hz.run]at hni ⊢
end pvs
section efs
variable {P : Program} {W : World} {n : Nat} {D : List Deferred} {E : Env} {L : Hp} {ty : TypeId} {pos : String} {aft : Array Edge} {g : Option (Nat × Bool)} {T : TypeId} {x y z : Operand} {v u : Value}
theorem setRow_upd{w:World}{b:Nat}{cur cs:List Value}{T:TypeId}{o' : Obj}{L' : Hp}(ho:Own W w L)(hb:(b,Obj.cells cur.toArray T)∈L)(hu:Upd L b (.cells cs.toArray T) L'):Own W (w.setRow b cs.toArray) L' := by
 have h0:=ho.get _ hb
 have hlt:b<w.heap.size:=ho.lt hb
 refine ho.upd hu rfl rfl rfl ?_ ?_
 ·
  dsimp only at h0;simp[World.setRow,Array.getElem?_modify,h0]
 ·
  intro k hk;simp[World.setRow,Array.getElem?_modify,Ne.symm hk]
theorem ef_copyNil{d e dLen dCap:Nat}{ad:Addr}{ats:Array TypeId}(hx:ev E x=some (.slice (some ad) dLen dCap))(hy:ev E y=some (.slice none 0 0))(h0:ats[0]?=some T)(h1:ats[1]?=some T)[ht:TyD P T (.slice e)][hk:TyS P e 1](hd:Nat.blt d n=true) :
    Ef P W n D ⟨some d,.call { callee:=.builtin .copy,args:=#[x,y],argTypes:=ats },ty,pos,aft,g⟩ E L (fun E1 L1=>E1=(d,.int .i64 0)::E∧L1=L):=by
  unfold Ef;intro Q a w next hs ho hn'
  have hrun:=run_copy_nil (P:=P) w T T ty e ad dLen dCap ht.eq (by rw[hk.eq];rfl)
  have hrun2:(Builtin.copy_ ats ty #[.slice (some ad) dLen dCap,.slice none 0 0]).run P w=.ok (goInt 0) w:=by
    rw[←hrun];simp only[Builtin.copy_,h0,h1,List.getElem?_toArray,List.getElem?_cons_zero,List.getElem?_cons_succ]
  unfold Oper.wp;have he:(execOp a.eval ⟨some d,.call { callee:=.builtin .copy,args:=#[x,y],argTypes:=ats },ty,pos,aft,g⟩).run P w=.ok (.value (.int .i64 0)) w:=by
    simp only[execOp,resolve,invoke,builtin,List.map_toArray,List.map_cons,List.map_nil,hs.ev hx,hs.ev hy,Sem.run_bind,Sem.run_pure,Result.andThen_ok,hrun2,goInt]
  rw[he];exact hn' _ _ _ _ ⟨rfl,rfl⟩ (hs.put hd) ho
theorem ef_clear{e gb o m cap:Nat}{zv:Value}{ats:Array TypeId}{cur:List Value}{Tg:TypeId}{L' : Hp}(hx:ev E x=some (.slice (some ⟨gb,o,none⟩) m cap))(hm:0<m)
    (h0:ats[0]?=some T) [ht:TyD P T (.slice e)] [hz:TyZ P e zv] (hzc:zv.cells=#[zv]) (hone:zv.oneCell' = true) [hb:Blk L gb (.cells cur.toArray Tg)] (hfit:o+m≤cur.length)
    [hu:Upd L gb (.cells (cur.take o++List.replicate m zv++cur.drop (o+m)).toArray Tg) L'] :
    Ef P W n D ⟨none,.call { callee:=.builtin .clear,args:=#[x],argTypes:=ats },ty,pos,aft,g⟩ E L (fun E1 L1=>E1=E∧L1=L'):=by
  unfold Ef;intro Q a w next hs ho hn'
  have hzs:(Builtin.zeroCells zv.cells m).toList=List.replicate m zv:=by
    apply List.ext_getElem?;intro i;simp only[Builtin.zeroCells,hzc]
    by_cases hi:i<m
    · simp[hi,List.getElem?_replicate,Nat.mod_one]
    · simp[hi,List.getElem?_replicate]
  have hst:=run_storeCells_at P gb o Tg (List.replicate m zv) 0 cur.toArray w (ho.get _ hb.mem) (by simpa using hfit) (by intro v hv;rw[(List.mem_replicate.1 hv).2];exact hone)
  obtain ⟨m', rfl⟩:∃m', m=m' + 1:=⟨m-1,by omega⟩;have hrun:(Builtin.clear_ ats ty #[.slice (some ⟨gb,o,none⟩) (m' + 1) cap]).run P w=.ok (.tuple #[]) (w.setRow gb (cur.take o++List.replicate (m' + 1) zv++cur.drop (o+(m' + 1))).toArray):=by
    simp only[Builtin.clear_,h0,List.getElem?_toArray,List.getElem?_cons_zero,Sem.run_bind,TyD.run,Result.andThen_ok,hz.run,hzs,hst,Sem.run_pure];simp
  unfold Oper.wp;have he:(execOp a.eval ⟨none,.call { callee:=.builtin .clear,args:=#[x],argTypes:=ats },ty,pos,aft,g⟩).run P w=.ok (.value (.tuple #[])) (w.setRow gb (cur.take o++List.replicate (m' + 1) zv++cur.drop (o+(m' + 1))).toArray):=by
    simp only[execOp,resolve,invoke,builtin,List.map_toArray,List.map_cons,List.map_nil,hs.ev hx,Sem.run_bind,Sem.run_pure,Result.andThen_ok,hrun]
  rw[he];exact hn' _ _ _ _ ⟨rfl,rfl⟩ (hs.put_none) (setRow_upd (o' := .cells #[] 0) ho hb.mem hu)
theorem ef_clearK{e k gb o m cap:Nat}{zv:Value}{zs:List Value}{ats:Array TypeId}{cur:List Value}{Tg:TypeId}{L' : Hp}(hx:ev E x=some (.slice (some ⟨gb,o,none⟩) m cap))(hm:0<m)
    (h0:ats[0]?=some T) [ht:TyD P T (.slice e)] [hz:TyZ P e zv] (hzc:zv.cells=zs.toArray) (hk:zs.length=k) (hone:zs.all Value.oneCell' = true) [hb:Blk L gb (.cells cur.toArray Tg)] (hfit:o+m*k≤cur.length)
    [hu:Upd L gb (.cells (cur.take o++(List.replicate m zs).flatten++cur.drop (o+m*k)).toArray Tg) L'] :
    Ef P W n D ⟨none,.call { callee:=.builtin .clear,args:=#[x],argTypes:=ats },ty,pos,aft,g⟩ E L (fun E1 L1=>E1=E∧L1=L'):=by
  unfold Ef;intro Q a w next hs ho hn'
  have hzs:(Builtin.zeroCells zv.cells m).toList=(List.replicate m zs).flatten:=by
    rw[←zeros_flat zs m,hzc];simp[Builtin.zeroCells]
  have hlen:((List.replicate m zs).flatten).length=m*k:=by simp[hk]
  have hst:=run_storeCells_at P gb o Tg ((List.replicate m zs).flatten) 0 cur.toArray w (ho.get _ hb.mem) (by simpa [hlen] using hfit) (by
    intro v hv;obtain ⟨l,hl,hvl⟩:=List.mem_flatten.1 hv;rw[(List.mem_replicate.1 hl).2]at hvl;rw[List.all_eq_true]at hone;exact hone v hvl)
  obtain ⟨m', rfl⟩:∃m', m=m' + 1:=⟨m-1,by omega⟩;have hrun:(Builtin.clear_ ats ty #[.slice (some ⟨gb,o,none⟩) (m' + 1) cap]).run P w=.ok (.tuple #[]) (w.setRow gb (cur.take o++(List.replicate (m' + 1) zs).flatten++cur.drop (o+(m' + 1)*k)).toArray):=by
    simp only[Builtin.clear_,h0,List.getElem?_toArray,List.getElem?_cons_zero,Sem.run_bind,TyD.run,Result.andThen_ok,hz.run,hzs,hst,Sem.run_pure];simp only[Nat.add_zero,hlen]
  unfold Oper.wp;have he:(execOp a.eval ⟨none,.call { callee:=.builtin .clear,args:=#[x],argTypes:=ats },ty,pos,aft,g⟩).run P w=.ok (.value (.tuple #[])) (w.setRow gb (cur.take o++(List.replicate (m' + 1) zs).flatten++cur.drop (o+(m' + 1)*k)).toArray):=by
    simp only[execOp,resolve,invoke,builtin,List.map_toArray,List.map_cons,List.map_nil,hs.ev hx,Sem.run_bind,Sem.run_pure,Result.andThen_ok,hrun]
  rw[he];exact hn' _ _ _ _ ⟨rfl,rfl⟩ (hs.put_none) (setRow_upd (o' := .cells #[] 0) ho hb.mem hu)
theorem ef_makeChan{d e bytes:Nat}{dir:ChanDir}{k:Nat}(hx:ev E x=some (.int .i64 (k:Int)))[ht:TyD P T (.chan dir e)][hby:TyB P e bytes](hb:bytes*k≤1048576)(hk:k≤1048576)(hd:Nat.blt d n=true) :
    Ef P W n D ⟨some d,.makeChan T x,ty,pos,aft,g⟩ E L (fun E' L' => ∃b,E' = (d,.chan (some b))::E∧L' = (b,.chan k #[] false 0 0 false)::L):=by
  unfold Ef;intro Q a w next hs ho hn'
  obtain ⟨i,hi,hib⟩:=Option.map_eq_some_iff.1 hby.eq;have hmax:IntKind.i64.max=9223372036854775807:=rfl
  have hb2:((bytes:Nat):Int)*(k:Int)≤1048576:=by rw[←Int.natCast_mul];omega
  have n1:¬((k:Int)<0∨9223372036854775807<(k:Int)∨281474976710544<(i.bytes:Int)*(k:Int)):=by
    rw[hib];omega
  unfold Oper.wp;have:(execOp a.eval ⟨some d,.makeChan T x,ty,pos,aft,g⟩).run P w=.ok (.value (.chan (some w.heap.size))) (w.alloc (.chan k #[] false 0 0 false)):=by
    simp[execOp,hs.ev hx,Instr.makeChan,asInt,asIntOf,TyD.run,typeInfo,hi,hmax];exact fun h=>absurd h n1
  rw[this];exact hn' _ _ _ _ ⟨_,rfl,rfl⟩ (hs.put hd) (ho.alloc _)
end efs
class Meth (P:Program) (t:TypeId) (name:String) (f:outParam FuncId):Prop where
  eq:∀b o w,(method (P.types.size+Made.depth) t (.pointer (some ⟨b,o,none⟩)) name).run P w=.ok (f,.pointer (some ⟨b,o,none⟩)) w
section inv
variable {P : Program} {W : World} {n : Nat} {D : List Deferred} {E : Env} {L : Hp} {ty : TypeId} {pos : String} {aft : Array Edge} {g : Option (Nat × Bool)} {T : TypeId} {x y z : Operand} {v u : Value}
theorem ef_invr{d f t b o:Nat}{name:String}{r:Value}{Lp:Hp}(ht:TrR P f [.pointer (some ⟨b,o,none⟩)] Lp r)(hx:ev E x=some (.iface t (.pointer (some ⟨b,o,none⟩))))[hm:Meth P t name f][hf:GoFn P f](hd:Nat.blt d n=true)[hp:Has L Lp] :
    Ef P W n D ⟨some d,.call { callee:=.invoke x name,args:=#[],argTypes:=#[] },ty,pos,aft,g⟩ E L (fun E' L' => E' = (d,r)::E∧L' = L):=by
  unfold Ef;intro Q a w next hs ho hn
  obtain ⟨F,hF⟩:=hp.ex;unfold Oper.wp;have e:(execOp a.eval ⟨some d,.call { callee:=.invoke x name,args:=#[],argTypes:=#[] },ty,pos,aft,g⟩).run P w=.ok (.enter f #[.pointer (some ⟨b,o,none⟩)]) w:=by
    simp only[execOp,resolve,invoke,callMethod,hs.ev hx,Sem.run_bind,Sem.run_pure,Result.andThen_ok,List.map_toArray,List.map_nil];simp[Sem.run_bind,hm.eq,run_callFunc,callMethod,program,Sem.run,Result.andThen]
  rw[e];unfold TrR Tr at ht;refine (ht W w F (ho.perm hF)).mono ?_;rintro e' w' ⟨v,L1,rfl,⟨rfl,rfl⟩,ho'⟩;exact hn _ _ _ _ ⟨rfl,rfl⟩ (hs.put hd) (ho'.perm hF.symm)
end inv
section rng
variable {P : Program} {W : World} {n : Nat} {D : List Deferred} {E : Env} {L : Hp} {ty : TypeId} {pos : String} {aft : Array Edge} {g : Option (Nat × Bool)} {T : TypeId} {x y z : Operand} {v u : Value} {κ : Type} [DecidableEq κ]
theorem run_next_at(w:World)(ty:TypeId)(r bm since c0:Nat)(seen:Array Nat)(es:Array MapEntry)(clock:Nat)(hr:w.heap[r]?=some (.mapIter (some bm) since seen c0))(hb:w.heap[bm]?=some (.map es clock))(hold:∀x∈es.toList,x.born<since)(hsc:since≤c0) :
    ((leftOf es seen).size=0∧(Instr.next (.pointer (some ⟨r,0,none⟩)) false ty).run P w=.ok (.tuple #[.bool false]) w) ∨
    ∃e∈(leftOf es seen).toList,∃w1:World,(w1=w∨w1=w.drew)∧(Instr.next (.pointer (some ⟨r,0,none⟩)) false ty).run P w=.ok (.tuple #[.bool true,e.key,e.val]) { w1 with heap:=w1.heap.setIfInBounds r (.mapIter (some bm) since (seen.push e.born) clock) }:=by
  simp only[Instr.next,getObj,Sem.run_bind,Sem.run,hr,hb,Result.andThen,next_test_false seen es since c0 hold hsc,Bool.false_eq_true,if_false];unfold leftOf;have hmem:∀x∈(Array.filter (fun e=>!seen.contains e.born) es).toList,x.born<since:=fun x hx=>hold x (by simp at hx ⊢;exact hx.1)
  generalize Array.filter (fun e=>!seen.contains e.born) es=L at hmem ⊢
  have e1:L.filter (fun x=>decide (x.born<since))=L:=Array.filter_eq_self.2 (fun x hx=>by simpa using hmem x (by simpa using hx))
  have e2:L.filter (fun x=>decide (x.born≥since))=#[]:=by
    rw[Array.filter_eq_empty_iff];intro x hx;have:=hmem x (by simpa using hx)
    simp;omega
  simp only[e1,e2,Array.append_empty]
  by_cases h0:L.size=0
  · left
    have:L=#[]:=Array.eq_empty_of_size_eq_zero h0
    subst this;refine ⟨rfl,?_⟩;simp[choose,Sem.run,Question.forced]
  · right
    have hne:L.isEmpty=false:=by simp[Array.isEmpty,h0]
    simp only[hne,Bool.false_eq_true,if_false,Array.empty_append,Array.size_map];have hch:∃(j:Nat) (w1:World),j<L.size∧(w1=w∨w1=w.drew)∧(choose (Question.mapNext L.size)).run P w=.ok j w1:=by
      by_cases hf:L.size≤1
      · exact ⟨0,w,by omega,.inl rfl,by simp[choose,Sem.run,Question.forced,hf]⟩
      · exact ⟨_,w.drew,Nat.mod_lt _ (by omega),.inr rfl,by
          simp only[choose,Sem.run,Question.forced,decide_eq_true_eq,hf,if_false,Question.cut]
          rfl⟩
    obtain ⟨j,w1,hj,hal,hrun⟩:=hch;refine ⟨L[j],by simp,w1,hal,?_⟩;have hh:w1.heap[r]?=some (.mapIter (some bm) since seen c0):=by rcases hal with rfl | rfl <;> exact hr
    have hset:∀(o' : Obj),(setObj r o').run P w1=.ok () { w1 with heap:=w1.heap.setIfInBounds r o' }:=fun o' => by
      simp only[setObj,Sem.run,hh]
    simp only[hrun,Array.getElem?_map,Array.getElem?_eq_getElem hj,Option.map_some,Sem.run_bind,hset,Result.andThen]
    rfl
def nxV (q:Bool) (k v:Value):Value:=if q then .tuple #[.bool true,k,v] else .tuple #[.bool false]
theorem pv_nx0{d:Option Tmp}{q:Bool}{k v:Value}(hx:ev E x=some (nxV q k v)):Pv P n D E L ⟨d,.extract x 0,ty,pos,aft,g⟩ (.bool q):=by
 cases q <;> exact pv_extract hx rfl
theorem ef_range{d:Nat}{enc:κ→Value}{K V:TypeId}{bm cl:Nat}{l:List (κ×Value×Nat)}(hx:ev E x=some (.map (some bm)))[hT:TyD P T (.map K V)][hb:Blk L bm (mapO enc l cl)](hd:Nat.blt d n=true) :
    Ef P W n D ⟨some d,.range T x,ty,pos,aft,g⟩ E L (fun E' L' => ∃b,E' = (d,.pointer (some ⟨b,0,none⟩))::E∧L' = (b,.mapIter (some bm) cl #[] cl)::L):=by
  unfold Ef;intro Q a w next hs ho hn
  have:=run_range_map (P:=P) w T K V bm (entsL enc l).toArray cl hT.eq (ho.get _ hb.mem)
  unfold Oper.wp;have he:(execOp a.eval ⟨some d,.range T x,ty,pos,aft,g⟩).run P w=.ok (.value (.pointer (some ⟨w.heap.size,0,none⟩))) (w.alloc (.mapIter (some bm) cl #[] cl)):=by
    simp only[execOp,hs.ev hx,Sem.run_bind,this,Result.andThen_ok,Sem.run_pure]
  rw[he];exact hn _ _ _ _ ⟨_,rfl,rfl⟩ (hs.put hd) (ho.alloc _)
theorem ef_next{d:Nat}{enc:κ→Value}{r bm since c0 cl:Nat}{seen:Array Nat}{l:List (κ×Value×Nat)}{F:Obj→Hp}(hx:ev E x=some (.pointer (some ⟨r,0,none⟩)))[hb:Blk L bm (mapO enc l cl)][hr:Blk L r (.mapIter (some bm) since seen c0)]
    (hold:∀e,e∈l→e.2.2<since) (hsc:since≤c0) (hu:∀o', Upd L r o' (F o')) (hd:Nat.blt d n=true) :
    Ef P W n D ⟨some d,.next x false,ty,pos,aft,g⟩ E L (fun E' L' => ∃(q:Bool) (k v:Value) (s2:Array Nat) (c2:Nat),
      ((q=true∧∃e,e∈l∧seen.contains e.2.2=false∧v=e.2.1∧s2=seen.push e.2.2∧c2=cl)∨(q=false∧(∀e,e∈l→seen.contains e.2.2=true)∧s2=seen∧c2=c0))∧E' = (d,nxV q k v)::E∧L' = F (.mapIter (some bm) since s2 c2)):=by
  unfold Ef;intro Q a w next hs ho hn
  have hrr:=ho.get _ hr.mem
  have key:=run_next_at (P:=P) w ty r bm since c0 seen (entsL enc l).toArray cl hrr (ho.get _ hb.mem) (by
    intro x hx;simp only[entsL,List.mem_map]at hx;obtain ⟨e,he,rfl⟩:=hx;exact hold e he) hsc
  unfold Oper.wp
  rcases key with ⟨h0,hrun⟩ | ⟨e,he,w1,hw1,hrun⟩
  · have hx' : (execOp a.eval ⟨some d,.next x false,ty,pos,aft,g⟩).run P w=.ok (.value (nxV false undef undef)) w:=by
      simp only[execOp,hs.ev hx,Sem.run_bind,hrun,Result.andThen_ok,Sem.run_pure,nxV];rfl
    rw[hx'];refine hn _ _ _ _ ⟨false,undef,undef,seen,c0,.inr ⟨rfl,?_,rfl,rfl⟩,rfl,rfl⟩ (hs.put hd) (ho.upd (hu _) rfl rfl rfl hrr (fun _ _=>rfl));intro e he;have:(leftOf (entsL enc l).toArray seen)=#[]:=Array.eq_empty_of_size_eq_zero h0
    unfold leftOf at this;rw[Array.filter_eq_empty_iff]at this;have h2:=this ⟨enc e.1,e.2.1,e.2.2⟩ (by simp only[entsL,List.mem_toArray,List.mem_map];exact ⟨e,he,rfl⟩)
    simpa using h2
  · have hx' : (execOp a.eval ⟨some d,.next x false,ty,pos,aft,g⟩).run P w=.ok (.value (nxV true e.key e.val)) { w1 with heap:=w1.heap.setIfInBounds r (.mapIter (some bm) since (seen.push e.born) cl) }:=by
      simp only[execOp,hs.ev hx,Sem.run_bind,hrun,Result.andThen_ok,Sem.run_pure,nxV];rfl
    rw[hx'];obtain ⟨hm,hc⟩:=mem_left he;simp only[entsL,List.mem_map]at hm;obtain ⟨e', he', rfl⟩:=hm;have ho1:Own W w1 L:=by rcases hw1 with rfl | rfl;exact ho;exact ho.drew
    have hlt:r<w1.heap.size:=ho1.lt hr.mem
    exact hn _ _ _ _ ⟨true,_,_,_,_,.inl ⟨rfl,e', he', hc,rfl,rfl,rfl⟩,rfl,rfl⟩ (hs.put hd) (ho1.upd (hu _) rfl rfl rfl (by simp[hlt]) (fun k hk=>by simp[Array.getElem?_setIfInBounds_ne (Ne.symm hk)]))
theorem pv_entry{d:Option Tmp}{enc:κ→Value}{r bm since cl:Nat}{seen:Array Nat}{l:List (κ×Value×Nat)}(e:κ×Value×Nat)(hx:ev E x=some (.pointer (some ⟨r,0,none⟩)))[hb:Blk L bm (mapO enc l cl)][hr:Blk L r (.mapIter (some bm) since (seen.push e.2.2) cl)]
    (he:e∈l) (hn:(l.map (·.2.2)).Nodup):Pv P n D E L ⟨d,.entry x,ty,pos,aft,g⟩ (.tuple #[enc e.1,e.2.1]):=by
  unfold Pv;intro a w hs hh
  have hrr:=hh _ hr.mem
  have hbb:=hh _ hb.mem
  have hnd:((entsL enc l).map (·.born)).Nodup:=by
    have:(entsL enc l).map (·.born)=l.map (·.2.2):=by simp[entsL]
    rw[this];exact hn
  have hf:(entsL enc l).toArray.find? (·.born == e.2.2)=some ⟨enc e.1,e.2.1,e.2.2⟩:=by
    rw[←Array.find?_toList];exact find_born ⟨enc e.1,e.2.1,e.2.2⟩ (entsL enc l) hnd (by simp only[entsL,List.mem_map];exact ⟨e,he,rfl⟩)
  simp only[mapO]at hbb;simp only[execOp,hs.ev hx,Instr.entry,getObj,Sem.run_bind,Sem.run,hrr,hbb,Result.andThen,Array.back?_push,bne_self_eq_false,Bool.false_eq_true,if_false,hf]
  rfl
end rng
section scope
variable {P : Program} {W : World} {Q : Exit → Act → World → Prop} {n : Nat} {D : List Deferred} {E : Env} {L : Hp}
theorem Wp.label{l:Nat}(h:Ends W Q n D .normal E L):Wp P W Q n D (.label l) E L:=by
 unfold Wp Ends at *;exact fun a w hs ho=>wp_label (h a w hs ho)
theorem Wp.goto{l:Nat}(h:Ends W Q n D (.goto l) E L):Wp P W Q n D (.goto l) E L:=by
 unfold Wp Ends at *;exact fun a w hs ho=>wp_goto (h a w hs ho)
theorem Ends.then_goto{K:Act→World→Prop}{i:Nat}(h:Ends W Q n D (.goto i) E L):Ends W (Exit.then K Q) n D (.goto i) E L:=by
 unfold Ends at *;exact h
theorem Ends.jump_ret{l:Nat}{J:Act→World→Prop}(h:Ends W Q n D .ret E L):Ends W (Exit.jump l J Q) n D .ret E L:=by
 unfold Ends at *;exact h
theorem Ends.jump_goto{l:Nat}{J:Act→World→Prop}(h:Goes W J n D E L):Ends W (Exit.jump l J Q) n D (.goto l) E L:=by
 unfold Ends Goes at *;exact fun a w hs ho=>⟨rfl,h a w hs ho⟩
theorem Wp.scope1{σ:Type}{c rest:Code}(l:Nat)(hf:findLabel c l=some rest)(K:Env)(V:σ→Env)(LI:σ→Hp)(I:σ→Prop)
    (first:∀J:Act→World→Prop,(∀x,I x→Goes W J n D (V x++K) (LI x))→Wp P W (Exit.jump l J Q) n D c E L)
    (pass:∀x,I x→Wp P W (Exit.jump l (fun _ _=>False) Q) n D rest (V x++K) (LI x)):Wp P W Q n D (.scope c) E L:=by
  have first' := first (fun a w=>∃x,I x∧Sees n D (V x++K) a∧Own W w (LI x)) (fun x hx=>by unfold Goes;exact fun a w hs ho=>⟨x,hx,hs,ho⟩)
  unfold Wp at *;intro a w hs ho;refine wp_scope_jumps l _ (fun _ _=>0) hf (first' a w hs ho) ?_;rintro a1 w1 ⟨x,hx,hs1,ho1⟩;have key:=pass x hx a1 w1 hs1 ho1
  have e:Exit.jump l (fun a' w' => (∃x,I x∧Sees n D (V x++K) a' ∧ Own W w' (LI x))∧(fun (_:Act) (_:World)=>0) a' w' < (fun (_:Act) (_:World)=>0) a1 w1) Q=Exit.jump l (fun _ _=>False) Q:=by
    funext ex a' w'
    cases ex <;> simp[Exit.jump]
  rw[e];exact key
end scope
end Go.SL
end
namespace Go.Proofs.YtmoeokkelkgnhaaGreat
open Go.SL
open Go.Proofs.Tryz
section
theorem tr_gAnswer(r:RegsM)(e:Int)(he:0≤e∧e<100):TrR prog 257 [r.v,.int .i64 e,.slice none 0 0] ([]) ((ansR r e).v):=by
 refine YR func257 ntmps257 fun W F=>?_
 refine Wr ?_;refine zB fun b1=>?_
 refine zA fun b2=>?_
 refine zq [2,5,3,4,0] ?_;refine Yp (pv_conv rfl (u64 (by omega) (by omega))) ?_;refine Yp (pv_indexAddrN (i:=0) (o2:=0) rfl rfl rfl (by decide) (by rfl)) ?_;refine zq [25,2,5,3,4] ?_;refine Yp (pv_sliceArr (i:=1) (j:=5) rfl ⟨_,rfl⟩ ⟨_,rfl⟩ (by omega) (by omega)) ?_;refine zq [0] ?_;refine Yo (ef_copyNil (T:=92) rfl rfl rfl rfl rfl) ?_;refine zq [2,5,3,4,33,14,2,5,10] ?_;exact Ends.ret (res_one rfl (rv_cellK [_,_,_,_,_,_,_,_] rfl rfl rfl ⟨rfl,rfl,rfl,rfl,rfl,rfl,rfl,rfl,trivial⟩)) ⟨rfl,rfl⟩
end
section
def insF (i:InsM):Nat→Nat
  | 0=>i.op
  | 1=>i.a
  | 2=>i.b
  | _=>i.imm
def fAt:Nat→Nat
  | 0=>0
  | 1=>5
  | 2=>8
  | _=>11
def fN:Nat→Nat
  | 0=>5
  | 1=>3
  | 2=>3
  | _=>12
def pakW (i:InsM):Nat→Nat
  | 0=>0
  | k+1=>insF i k*2^fAt k+pakW i k
def InsM.Fit (i:InsM):Prop:=i.op<32∧i.a<8∧i.b<8∧i.imm<4096
theorem insF_lt{i:InsM}(h:i.Fit){k:Nat}(hk:k<4):insF i k<2^fN k:=by
 obtain ⟨h1,h2,h3,h4⟩:=h
 match k,hk with
 | 0,_=>simpa [insF,fN] using h1
 | 1,_=>simpa [insF,fN] using h2
 | 2,_=>simpa [insF,fN] using h3
 | 3,_=>simpa [insF,fN] using h4
theorem pakW_lt{i:InsM}(h:i.Fit){k:Nat}(hk:k<4):pakW i k<2^fAt k:=by
 obtain ⟨h1,h2,h3,h4⟩:=h
 match k,hk with
 | 0,_ | 1,_ | 2,_ | 3,_=>simp only[pakW,insF,fAt];omega
theorem f_fits{k:Nat}(hk:k<4):1≤fN k∧fAt k+fN k≤64:=by
 match k,hk with
 | 0,_ | 1,_ | 2,_ | 3,_=>decide
abbrev fieldsC:List Value:=[.int .i64 0,.int .i64 5,.int .i64 5,.int .i64 3,.int .i64 8,.int .i64 3,.int .i64 11,.int .i64 12]
theorem fields_at{k:Nat}(hk:k<4):Reads fieldsC (k*2) [.int .i64 (fAt k:Nat),.int .i64 (fN k:Nat)]:=by
 match k,hk with
 | 0,_ | 1,_ | 2,_ | 3,_=>exact ⟨rfl,rfl,trivial⟩
theorem ins_at{i:InsM}{k:Nat}(hk:k<4):nth [Value.int .i64 i.op,.int .i64 i.a,.int .i64 i.b,.int .i64 i.imm] (k*1)=some (.int .i64 (insF i k:Nat)):=by
 match k,hk with
 | 0,_ | 1,_ | 2,_ | 3,_=>rfl
def packI (i:InsM):Nat:=i.op+i.a*32+i.b*256+i.imm*2048
theorem pakW4(i:InsM):pakW i 4=packI i:=by simp only[pakW,insF,fAt,packI];omega
def decK (w k:Nat):InsM:=⟨if 0<k then w%32 else 0,if 1<k then w/32%8 else 0,if 2<k then w/256%8 else 0,if 3<k then w/2048%4096 else 0⟩
theorem decK_step{w k:Nat}(hk:k<4):SetL [Value.int .i64 (decK w k).op,.int .i64 (decK w k).a,.int .i64 (decK w k).b,.int .i64 (decK w k).imm] k [.int .i64 (w/2^fAt k%2^fN k:Nat)] [Value.int .i64 (decK w (k+1)).op,.int .i64 (decK w (k+1)).a,.int .i64 (decK w (k+1)).b,.int .i64 (decK w (k+1)).imm]:=by
 have key:∀l:List Value,l=[Value.int .i64 (decK w k).op,.int .i64 (decK w k).a,.int .i64 (decK w k).b,.int .i64 (decK w k).imm].set k (.int .i64 (w/2^fAt k%2^fN k:Nat))→SetL [Value.int .i64 (decK w k).op,.int .i64 (decK w k).a,.int .i64 (decK w k).b,.int .i64 (decK w k).imm] k [.int .i64 (w/2^fAt k%2^fN k:Nat)] l:=fun l e=>by rw[e];exact SetL.set1 (by simpa using hk)
 apply key
 match k,hk with
 | 0,_ | 1,_ | 2,_ | 3,_=>simp[decK,fAt,fN]
theorem decK4(w:Nat):decK w 4=decM w:=rfl
theorem decM_fit(w:Nat):(decM w).Fit:=by unfold decM InsM.Fit;dsimp only;omega
theorem pack_dec{w:Nat}(hw:w<2^64):packI (decM w)=w↔w<8388608:=by unfold packI decM;dsimp only;omega
theorem tr_cFields  : TrR prog 170 [] ([]) (.agg fieldsC.toArray):=by
 refine YR func170 ntmps170 fun W F=>?_
 refine Wr ?_;refine zA fun b1=>?_
 refine zq [2,5,3,4,23,23,23,23] ?_;refine Yp (pv_buildA (zs:=[.int .i64 0,.int .i64 0,.int .i64 0,.int .i64 0,.int .i64 0,.int .i64 0,.int .i64 0,.int .i64 0]) (cs:=fieldsC) rfl rfl) ?_;refine zq [14,2,5,10] ?_;exact Ends.ret (res_one rfl (rv_cellK [_,_,_,_,_,_,_,_] rfl rfl rfl ⟨rfl,rfl,rfl,rfl,rfl,rfl,rfl,rfl,trivial⟩)) ⟨rfl,rfl⟩
theorem tr_cPack(i:InsM)(hi:i.Fit):TrR prog 172 [i.v] ([]) (.tuple #[.int .u64 (if i.op≤17 then packI i else 0:Nat),.int .i64 (if i.op≤17 then 0 else 10:Int)]):=by
 refine YR func172 ntmps172 fun W F=>?_
 refine Wr ?_;refine zB fun b1=>?_
 refine zq [1,1,2,5,3,3,4,6,8,42,0] ?_;refine Yn rfl rfl (fun hg=>pv_fieldAddr0 rfl rfl) ?_;refine Yn rfl rfl (fun hg=>Ys 11 rfl hg (pv_load rfl rfl rfl)) ?_;refine Yn rfl rfl (fun hg=>Ys 11 rfl hg (Ys 12 rfl hg (pv_gtr rfl rfl))) ?_;refine zq [47,2,5] ?_;refine Yd rfl (fun h1=>?_) (fun h1=>?_)
 ·
  have h17:¬i.op≤17:=by omega
  refine zq [3,4,1,1,2,5,10,12] ?_;exact zs (h:=⟨by rw[if_neg h17,if_neg h17] <;> rfl,rfl⟩)
 have h17:i.op≤17:=by omega
 refine zq [11,5,3,3,4,6,8,6,8,6,8,6,8] ?_;refine Yp (pv_buildA (zs:=[.int .i64 0,.int .i64 0,.int .i64 0,.int .i64 0]) (cs:=[.int .i64 i.op,.int .i64 i.a,.int .i64 i.b,.int .i64 i.imm]) rfl rfl) ?_;refine zq [0,2,5,20] ?_;refine YL (σ:=Nat) [(23,_)] (fun s=>[(2,.int .u64 (pakW i s:Nat)),(24,.int .i64 s)]) (fun s=>s≤4) (fun s=>4-s) 0 (Nat.zero_le _) ?_;rintro k KK hk4 hK;dsimp only[Y1,Y2]at hK ⊢;refine zq [3,4,42,2,5,3] ?_;refine Yd rfl (fun h2=>?_) (fun h2=>?_)
 ·
  have hk:k<4:=by omega
  have hv64:insF i k<2^64:=Nat.lt_of_lt_of_le (insF_lt hi hk) (Nat.pow_le_pow_right (by omega) (by have:=(f_fits hk).2;omega))
  refine zq [11,5,3,20,3,4,0] ?_;refine Yp (pv_index1 (i:=k) rfl rfl rfl rfl hk (ins_at hk)) ?_;refine zq [1,1,2,5,3,4] ?_;refine zC (tr_cFields) ?_;refine zq [0] ?_;refine Yp (pv_indexK (i:=k) [.int .i64 (fAt k:Nat),.int .i64 (fN k:Nat)] rfl rfl rfl rfl hk rfl (fields_at hk)) ?_;refine zA fun b2=>?_
  refine zq [14,2,5,3,4,0,6,8,6,8,0] ?_;refine Yp (pv_conv rfl (u64n (k:=insF i k) rfl hv64)) ?_;refine zC ((tr_bPut (pakW i k) (fAt k) (fN k) (insF i k) (pakW_lt hi hk) (f_fits hk).1 (f_fits hk).2 hv64).eq (r' := .tuple #[.int .u64 (pakW i (k+1):Nat),.int .i64 0]) (by rw[putV,fldE,if_pos (insF_lt hi hk),if_pos (insF_lt hi hk)];rfl)) ?_;refine zq [0,7,7,1,1,2,5,3,4,0,67,2,5,17,11,19,5,4,52,0,2,49] ?_;refine Yy (hK (k+1) (by omega) (by omega))
 obtain rfl:k=4:=by omega
 rw[pakW4];refine zq [41,16,16,40,5,3,4,0,1,1,2,5,10] ?_;exact zs (h:=⟨by rw[if_pos h17,if_pos h17],rfl⟩)
theorem ptr4_at{b k:Nat}(hk:k<4):nth [Value.pointer (some ⟨b,0,none⟩),.pointer (some ⟨b,1,none⟩),.pointer (some ⟨b,2,none⟩),.pointer (some ⟨b,3,none⟩)] (k*1)=some (.pointer (some ⟨b,k,none⟩)):=by
 match k,hk with
 | 0,_ | 1,_ | 2,_ | 3,_=>rfl
theorem unp_ok{w:Nat}(hw:w<2^64):insOk w↔(decM w).op≤17∧packI (decM w)=w:=by rw[pack_dec hw];unfold insOk decM;dsimp only;omega
theorem tr_cUnpack(w:Nat)(hw:w<2^64):TrR prog 109 [.int .u64 w] ([]) (.tuple #[(unpM w).1.v,.int .i64 (unpM w).2]):=by
 refine YR func109 ntmps109 fun W F=>?_
 refine Wr ?_;refine zA fun b1=>?_
 refine zq [1,2,5,3,4] ?_;refine zA fun b2=>?_
 refine zq [2,5,3,3,4,6,6,6,6] ?_;refine Yp (pv_buildA (zs:=[.pointer none,.pointer none,.pointer none,.pointer none]) (cs:=[.pointer (some ⟨b2,0,none⟩),.pointer (some ⟨b2,1,none⟩),.pointer (some ⟨b2,2,none⟩),.pointer (some ⟨b2,3,none⟩)]) rfl rfl) ?_;refine zq [0,2,5,20] ?_;refine Wp.loopK (σ:=Nat) [(0,_),(2,_),(4,_),(16,_)] (fun s=>[(17,.int .i64 s)]) (fun s=>(b2,.cells [.int .i64 (decK w s).op,.int .i64 (decK w s).a,.int .i64 (decK w s).b,.int .i64 (decK w s).imm].toArray 244)::(b1,.cells [.int .i64 0,.int .i64 0,.int .i64 0,.int .i64 0].toArray 244)::F) (fun s=>s≤4) (fun s=>4-s) 0 (Nat.zero_le _) ⟨rfl,rfl,rfl,rfl,trivial⟩ ⟨rfl,trivial⟩ (by intro w ho;exact ho) ?_;rintro k KK hk4 hK;dsimp only[Y1,Y2]at hK ⊢;refine zq [3,4,42,2,5,3] ?_;refine Yd rfl (fun h1=>?_) (fun h1=>?_)
 ·
  have hk:k<4:=by omega
  have hst:=decK_step (w:=w) hk
  have hv63:w/2^fAt k%2^fN k<2^63:=Nat.lt_of_lt_of_le (Nat.mod_lt _ (Nat.two_pow_pos _)) (Nat.pow_le_pow_right (by omega) (by match k,hk with | 0,_ | 1,_ | 2,_ | 3,_=>decide))
  refine zq [11,5,3,20,3,4,0] ?_;refine Yp (pv_index1 (i:=k) rfl rfl rfl rfl hk (ptr4_at hk)) ?_;refine zq [1,1,2,5,3,4] ?_;refine zC (tr_cFields) ?_;refine zq [0] ?_;refine Yp (pv_indexK (i:=k) [.int .i64 (fAt k:Nat),.int .i64 (fN k:Nat)] rfl rfl rfl rfl hk rfl (fields_at hk)) ?_;refine zA fun b3=>?_
  refine zq [14,2,5,3,4,0,6,8,6,8] ?_;refine zC (tr_bGet w (fAt k) (fN k) hw (f_fits hk).1 (f_fits hk).2) ?_;refine zq [0,7,7,1,1,2,5,4,0,0] ?_;refine Yp (pv_conv rfl (w64n (k:=w/2^fAt k%2^fN k) rfl hv63)) ?_;refine zq [9,25,2,19,5,4,52,0,2,49] ?_;refine Yy (hK (k+1) (by omega) (by omega))
 obtain rfl:k=4:=by omega
 rw[decK4];refine zq [41,16,16,40,5,3,3,4,34] ?_;refine zC (tr_cPack (decM w) (decM_fit w)) ?_;refine zq [0,7,7,1,1,2,5,3,4,0,27,0] ?_;refine Yn rfl rfl (fun hg=>pv_move rfl) ?_;refine Yn rfl rfl (fun hg=>Ys 46 rfl hg (pv_move rfl)) ?_;refine Yn rfl rfl (fun hg=>Ys 46 rfl hg (Ys 47 rfl hg (pv_neq rfl rfl))) ?_;refine zq [47,2,5] ?_;refine Yd rfl (fun h2=>?_) (fun h2=>?_)
 ·
  refine zq [3,4,23,14,1,2,5,10,12] ?_;have hno:¬insOk w:=fun h=>by obtain ⟨h1,h2⟩:=(unp_ok hw).1 h;simp_all
  exact zs (h:=⟨by rw[unpM,if_neg hno] <;> rfl,rfl⟩)
 refine zq [11,5,3,4,34,14,1,2,5,10] ?_;have hok:insOk w:=(unp_ok hw).2 (by by_cases h17:(decM w).op≤17;(rw[if_pos h17,if_pos h17]at h2;exact ⟨h17,by omega⟩);(rw[if_neg h17]at h2;omega))
 exact zs (h:=⟨by rw[unpM,if_pos hok],rfl⟩)
theorem tmod64{n:Nat}:((n:Int)).tmod 64=((n%64:Nat):Int):=tmod_nat rfl
theorem sh64{n:Nat}:min ((n%64:Nat):Int).toNat IntKind.u64.bits=n%64:=by
 have:n%64<64:=Nat.mod_lt _ (by omega)
 show min ((n%64:Nat):Int).toNat 64=n%64
 omega
theorem nextPc_eq{pc:Int}(h:0≤pc∧pc≤4095):(pc+1).tmod 4096=nextPc pc:=by
 unfold nextPc;rw[Int.tmod_eq_emod_of_nonneg (by omega)]
 split <;> omega
theorem RegsM.nth0{r:RegsM}{i:Nat}(h:i<8):SL.nth r.cells (0+i*1)=some (.int .u64 (r.get i)):=by rw[Nat.zero_add,Nat.mul_one];exact r.nth h
theorem eff_set{r:RegsM}{v:Int}{p1 p2 p3 p4 p5:Value}{i:Nat}(h:i<8):SetL [.int .u64 r.r0,.int .u64 r.r1,.int .u64 r.r2,.int .u64 r.r3,.int .u64 r.r4,.int .u64 r.r5,.int .u64 r.r6,.int .u64 r.r7,p1,p2,p3,p4,p5] (0+i*1) [.int .u64 v]
    [.int .u64 (r.set v i).r0,.int .u64 (r.set v i).r1,.int .u64 (r.set v i).r2,.int .u64 (r.set v i).r3,.int .u64 (r.set v i).r4,.int .u64 (r.set v i).r5,.int .u64 (r.set v i).r6,.int .u64 (r.set v i).r7,p1,p2,p3,p4,p5]:=by
  match i,h with
  | 0,_ | 1,_ | 2,_ | 3,_ | 4,_ | 5,_ | 6,_ | 7,_=>exact SetL.set1 (l:=[.int .u64 r.r0,.int .u64 r.r1,.int .u64 r.r2,.int .u64 r.r3,.int .u64 r.r4,.int .u64 r.r5,.int .u64 r.r6,.int .u64 r.r7,p1,p2,p3,p4,p5]) (by simp)
theorem tr_cSum(op:Nat)(a:Int)(n:Nat):TrR prog 173 [.int .i64 op,.int .u64 a,.int .u64 n] ([]) (.tuple #[.int .u64 (sumV op a n),.bool (decide (sumB op))]):=by
 refine YR func173 ntmps173 fun W F=>?_
 refine zq [3,4,1,1,2,5,3,3,4,0,2,5,20,3,4,22,1,2,5] ?_;refine Yd rfl (fun h1=>?_) (fun h1=>?_)
 ·
  obtain rfl:op=2:=by omega
  refine zq [3,4,0,1,1,2,5,10,15,12] ?_;exact zr ⟨rfl,rfl⟩
 refine zq [3,4,22,1,2,5] ?_;refine Yd rfl (fun h2=>?_) (fun h2=>?_)
 ·
  obtain rfl:op=3:=by omega
  refine zq [3,4,0,0] ?_;refine Yp (pv_add rfl rfl rfl) ?_;refine zq [1,1,2,5,10,15,12] ?_;exact zr ⟨rfl,rfl⟩
 refine zq [3,4,22,1,2,5] ?_;refine Yd rfl (fun h3=>?_) (fun h3=>?_)
 ·
  obtain rfl:op=4:=by omega
  refine zq [3,4,0,0] ?_;refine Yp (pv_sub rfl rfl rfl) ?_;refine zq [1,1,2,5,10,15,12] ?_;exact zr ⟨rfl,rfl⟩
 refine zq [3,4,22,1,2,5] ?_;refine Yd rfl (fun h4=>?_) (fun h4=>?_)
 ·
  obtain rfl:op=5:=by omega
  refine zq [3,4,0,0] ?_;refine Yp (pv_mul rfl rfl rfl) ?_;refine zq [1,1,2,5,10,15,12] ?_;exact zr ⟨rfl,rfl⟩
 refine zq [3,4,22,1,2,5] ?_;refine Yd rfl (fun h5=>?_) (fun h5=>?_)
 ·
  obtain rfl:op=6:=by omega
  refine zq [3,4,0,0] ?_;refine Yp (pv_and rfl rfl rfl) ?_;refine zq [1,1,2,5,10,15,12] ?_;exact zr ⟨rfl,rfl⟩
 refine zq [3,4,22,1,2,5] ?_;refine Yd rfl (fun h6=>?_) (fun h6=>?_)
 ·
  obtain rfl:op=7:=by omega
  refine zq [3,4,0,0] ?_;refine Yp (pv_or rfl rfl rfl) ?_;refine zq [1,1,2,5,10,15,12] ?_;exact zr ⟨rfl,rfl⟩
 refine zq [3,4,22,1,2,5] ?_;refine Yd rfl (fun h7=>?_) (fun h7=>?_)
 ·
  obtain rfl:op=8:=by omega
  refine zq [3,4,0,0] ?_;refine Yp (pv_xor rfl rfl rfl) ?_;refine zq [1,1,2,5,10,15,12] ?_;exact zr ⟨rfl,rfl⟩
 refine zq [3,4,22,1,2,5] ?_;refine Yd rfl (fun h8=>?_) (fun h8=>?_)
 ·
  obtain rfl:op=9:=by omega
  refine zq [3,4,0,0] ?_;refine Yp (pv_rem rfl rfl (by decide) tmod64) ?_;refine Yp (pv_shl rfl rfl (by omega) rfl) ?_;refine zq [1,1,2,5,10,15,12] ?_;exact zs (h:=⟨by rw[sh64] <;> rfl,rfl⟩)
 refine zq [3,4,22,1,2,5] ?_;refine Yd rfl (fun h9=>?_) (fun h9=>?_)
 ·
  obtain rfl:op=10:=by omega
  refine zq [3,4,0,0] ?_;refine Yp (pv_rem rfl rfl (by decide) tmod64) ?_;refine Yp (pv_shr rfl rfl (by omega) rfl) ?_;refine zq [1,1,2,5,10,15,12] ?_;exact zs (h:=⟨by rw[sh64] <;> rfl,rfl⟩)
 refine zq [11,19,5,3,4,0,1,1,2,5,10] ?_;have hb:¬sumB op:=by unfold sumB;omega
 exact zs (h:=⟨by rw[decide_eq_false hb,sumV,if_neg (by omega),if_neg (by omega),if_neg (by omega),if_neg (by omega),if_neg (by omega),if_neg (by omega),if_neg (by omega),if_neg (by omega),if_neg (by omega)],rfl⟩)
theorem tr_cRun(i:InsM)(hi:i.Ok)(r:RegsM)(hr:r.Ok)(pc:Int)(hp:0≤pc∧pc≤4095):TrR prog 110 [i.v,r.v,.int .i64 pc] ([]) (.tuple #[(runM i r pc).v,.int .i64 0]):=by
 have h17:=hi.1
 have hi4:=hi.2.2.2
 have hfit:i.Fit:=⟨by omega,hi.2.1,hi.2.2.1,hi.2.2.2⟩
 obtain ⟨nb,hnb⟩:∃nb:Nat,r.get i.b=(nb:Int):=⟨(r.get i.b).toNat,by have:=hr.get i.b;unfold U64 at this;omega⟩;have hse:∀{v:Int} {p1 p2 p3 p4 p5:Value},SetL [.int .u64 r.r0,.int .u64 r.r1,.int .u64 r.r2,.int .u64 r.r3,.int .u64 r.r4,.int .u64 r.r5,.int .u64 r.r6,.int .u64 r.r7,p1,p2,p3,p4,p5] (0+i.a*1) [.int .u64 v] _:=fun {v p1 p2 p3 p4 p5}=>eff_set hi.2.1
 refine YR func110 ntmps110 fun W F=>?_
 refine Wr ?_;refine zB fun b1=>?_
 refine zB fun b2=>?_
 refine zA fun b3=>?_
 refine zq [1,2,5,3,3,4,34] ?_;refine zC ((tr_cPack i hfit).eq (r' := .tuple #[.int .u64 (packI i:Nat),.int .i64 0]) (by rw[if_pos h17,if_pos h17])) ?_;refine zq [0,7,7,1,1,2,5,3,4,0,67,2,5,17,11,5,3,3,4,0,42,0] ?_;refine Yn rfl rfl (fun hg=>pv_move rfl) ?_;refine Yn rfl rfl (fun hg=>Ys 28 rfl hg (pv_geq rfl rfl)) ?_;refine zq [47,2,5] ?_;refine Yd rfl (fun h1=>(by exfalso;omega)) (fun h1=>?_);refine zq [11,5,3] ?_;refine AnyH.start [(b1,.cells [.int .i64 i.op,.int .i64 i.a,.int .i64 i.b,.int .i64 i.imm].toArray 244),(b2,.cells r.cells.toArray 81)] 14 rfl ?_;refine zd [0,0,1,2] ?_;refine Yh 2 rfl (pv_indexAddrA (i:=i.a) rfl rfl rfl hi.2.1) ?_;refine Yh 3 rfl (pv_load rfl rfl (RegsM.nth0 hi.2.1)) ?_;refine zd [4,0,5,2] ?_;refine Yh 6 rfl (pv_indexAddrA (i:=i.b) rfl rfl rfl hi.2.2.1) ?_;refine Yh 7 rfl ((pv_load (v:=.int .u64 (nb:Int)) rfl rfl (by rw[RegsM.nth0 hi.2.2.1,hnb]))) ?_;refine zd [8,0,9,2] ?_;refine Yh 10 rfl (pv_conv rfl (u64n (k:=i.imm) rfl (by omega))) ?_;refine zd [11,5,12,5,13,5] ?_;refine YD ?_;refine zq [5,3,4,33,0,52] ?_;refine Yp (pv_rem rfl rfl (by decide) (nextPc_eq hp)) ?_;refine zq [23] ?_;refine zA fun b4=>?_
 refine zq [14,2,5,3,3,4,6,8,0,0] ?_;refine zC ((tr_cSum i.op (r.get i.a) nb).eq (r' := .tuple #[.int .u64 (sumV i.op (r.get i.a) (r.get i.b)),.bool (decide (sumB i.op))]) (by rw[hnb])) ?_;refine zq [0,7,7,1,1,2,5,3,4,0,2,5] ?_;refine Yd rfl (fun h2=>?_) (fun h2=>?_)
 ·
  have hb:sumB i.op:=by assumption
  refine zq [3,4,6,8,0,6] ?_;refine Yp (pv_indexAddrA (i:=i.a) rfl rfl rfl hi.2.1) ?_;refine zq [25,2,5,3,4,37,14,1,2,5,10,12] ?_;have he:runM i r pc=⟨r.set (sumV i.op (r.get i.a) (r.get i.b)) i.a,nextPc pc,0,0,0,0⟩:=by rw[runM,if_pos hb]
  exact zs (h:=⟨by rw[he],rfl⟩)
 have hb:¬sumB i.op:=by assumption
 refine zq [11,5,3,3,4,6,8,2,5,20,3,20,3,20,3,20,3,20,3,20,3,20,3,20,3,20,3,20,3,3,3,4,22,1,2,5] ?_;refine Yd rfl (fun h3=>?_) (fun h3=>?_)
 ·
  have ho:i.op=0:=by omega
  refine zq [41,16,16,40,5,3,4,0,6,25,6,25,2,5,41,28,16,28,16,28,16,28,16,28,16,28,16,28,16,28,16,40,5,3,4,37,14,1,2,5,10] ?_;have he:runM i r pc=⟨r,pc,4,0,0,0⟩:=by rw[runM,if_neg hb];simp[ho]
  exact zs (h:=⟨by rw[he],rfl⟩)
 refine zq [11,5,3,3,4,22,1,2,5] ?_;refine Yd rfl (fun h4=>?_) (fun h4=>?_)
 ·
  have ho:i.op=1:=by omega
  refine zq [41,16,16,28,16,40,5,3,4,6,8,0,6] ?_;refine Yp (pv_indexAddrA (i:=i.a) rfl rfl rfl hi.2.1) ?_;refine zq [25,2,5,41,28,16,28,16,28,16,28,16,28,16,28,16,28,16,40,5,3,4,37,14,1,2,5,10] ?_;have he:runM i r pc=⟨r.set i.imm i.a,nextPc pc,0,0,0,0⟩:=by rw[runM,if_neg hb];simp[ho]
  exact zs (h:=⟨by rw[he],rfl⟩)
 refine zq [11,5,3,3,4,22,1,2,5] ?_;refine Yd rfl (fun h5=>?_) (fun h5=>?_)
 ·
  have ho:i.op=17:=by omega
  refine zq [41,16,16,28,16,28,16,40,5,3,4,6,8,0] ?_;refine Yp (pv_shl (r:=IntKind.u64.wrap (r.get i.a*2^12)) rfl rfl (by decide) rfl) ?_;refine zq [0] ?_;refine Yp (pv_add rfl rfl rfl) ?_;refine zq [6] ?_;refine Yp (pv_indexAddrA (i:=i.a) rfl rfl rfl hi.2.1) ?_;refine zq [25,2,5,41,28,16,28,16,28,16,28,16,28,16,28,16,40,5,3,4,37,14,1,2,5,10] ?_;have he:runM i r pc=⟨r.set (IntKind.u64.wrap (IntKind.u64.wrap (r.get i.a*2^12)+i.imm)) i.a,nextPc pc,0,0,0,0⟩:=by rw[runM,if_neg hb];simp[ho]
  exact zs (h:=⟨by rw[he],rfl⟩)
 refine zq [11,5,3,3,4,22,1,2,5] ?_;refine Yd rfl (fun h6=>?_) (fun h6=>?_)
 ·
  have ho:i.op=11:=by omega
  refine zq [41,16,16,28,16,28,16,28,16,40,5,3] ?_;refine AnyH.start [(b1,.cells [.int .i64 i.op,.int .i64 i.a,.int .i64 i.b,.int .i64 i.imm].toArray 244)] 11 rfl ?_;refine zd [0,1,1,1] ?_;refine Yh 2 rfl (pv_add rfl rfl rfl) ?_;refine zd [3,0,4,2,5,0] ?_;refine z1 6 ?_;refine zd [7,0] ?_;refine z1 8 ?_;refine zd [9,0] ?_;refine z1 10 ?_;refine YD ?_;refine zq [5,41,28,16,28,16,28,16,28,16,28,16,40,5,3,4,37,14,1,2,5,10] ?_;have he:runM i r pc=⟨r,nextPc pc,1,IntKind.u64.wrap (r.get i.b+i.imm),i.a,0⟩:=by rw[runM,if_neg hb];simp[ho]
  exact zs (h:=⟨by rw[he];simp only[hnb],rfl⟩)
 refine zq [11,5,3,3,4,22,1,2,5] ?_;refine Yd rfl (fun h7=>?_) (fun h7=>?_)
 ·
  have ho:i.op=12:=by omega
  refine zq [41,16,16,28,16,28,16,28,16,28,16,40,5,3,4,0,0] ?_;refine Yp (pv_add rfl rfl rfl) ?_;refine zq [0,6,25,6,25,6,25,2,5,41,28,16,28,16,28,16,28,16,40,5,3,4,37,14,1,2,5,10] ?_;have he:runM i r pc=⟨r,nextPc pc,2,IntKind.u64.wrap (r.get i.b+i.imm),0,r.get i.a⟩:=by rw[runM,if_neg hb];simp[ho]
  exact zs (h:=⟨by rw[he];simp only[hnb],rfl⟩)
 refine zq [11,5,3,3,4,22,1,2,5] ?_;refine Yd rfl (fun h8=>?_) (fun h8=>?_)
 ·
  have ho:i.op=16:=by omega
  refine zq [41,16,16,28,16,28,16,28,16,28,16,28,16,40,5,3,4,0,6,25,6,25,2,5,41,28,16,28,16,28,16,40,5,3,4,37,14,1,2,5,10] ?_;have he:runM i r pc=⟨r,nextPc pc,3,0,0,i.imm⟩:=by rw[runM,if_neg hb];simp[ho]
  exact zs (h:=⟨by rw[he],rfl⟩)
 refine zq [11,5,3,3,4,22,1,2,5] ?_;refine Yd rfl (fun h9=>?_) (fun h9=>?_)
 ·
  have ho:i.op=14:=by omega
  refine zq [41,16,16,28,16,28,16,28,16,28,16,28,16,28,16,40,5,4,1,2,19,5,3,4,0,0,43,2,5] ?_;refine Yd rfl (fun h10=>?_) (fun h10=>?_)
  ·
   refine zq [41,28,16,40,5,3,4,37,14,1,2,5,10] ?_;have he:runM i r pc=⟨r,nextPc pc,0,0,0,0⟩:=by rw[runM,if_neg hb];simp only[ho];simp[show ¬r.get i.a<1 by omega]
   exact zs (h:=⟨by rw[he],rfl⟩)
  refine zq [11,19,5,3,4,6,8,6,25,2,5,41,40,5,3,4,37,14,1,2,5,10] ?_;have he:runM i r pc=⟨r,i.imm,0,0,0,0⟩:=by rw[runM,if_neg hb];simp only[ho];simp[show r.get i.a<1 by omega]
  exact zs (h:=⟨by rw[he],rfl⟩)
 refine zq [11,5,3,3,4,22,1,2,5] ?_;refine Yd rfl (fun h11=>?_) (fun h11=>?_)
 ·
  have ho:i.op=15:=by omega
  refine zq [41,16,16,28,16,28,16,28,16,28,16,28,16,28,16,28,16,40,5,3,4,0,0,43,2,5] ?_;refine Yd rfl (fun h12=>?_) (fun h12=>?_)
  ·
   refine zq [41,28,16,40,5,3,4,37,14,1,2,5,10] ?_;have he:runM i r pc=⟨r,nextPc pc,0,0,0,0⟩:=by rw[runM,if_neg hb];simp only[ho];simp[show ¬r.get i.a<r.get i.b by omega]
   exact zs (h:=⟨by rw[he],rfl⟩)
  refine zq [11,19,5,3,4,6,8,6,25,2,5,41,40,5,3,4,37,14,1,2,5,10] ?_;have he:runM i r pc=⟨r,i.imm,0,0,0,0⟩:=by rw[runM,if_neg hb];simp only[ho];simp[show r.get i.a<r.get i.b by omega]
  exact zs (h:=⟨by rw[he],rfl⟩)
 refine zq [11,5,3,4,22,1,2,5] ?_;refine Yd rfl (fun h13=>?_) (fun h13=>(by exfalso;have:¬sumB i.op:=‹¬sumB i.op›;unfold sumB at this;omega));have ho:i.op=13:=by omega
 refine zq [41,16,28,16,28,16,28,16,28,16,28,16,28,16,28,16,28,16,40,5,3,4,6,8,6,25,2,5,41,40,5,3,4,37,14,1,2,5,10] ?_;have he:runM i r pc=⟨r,i.imm,0,0,0,0⟩:=by rw[runM,if_neg hb];simp[ho]
 exact zs (h:=⟨by rw[he],rfl⟩)
end
section
def wordsC (ws:List Int):List Value:=ws.map (.int .u64 ·)
theorem wordsC_len(ws:List Int):(wordsC ws).length=ws.length:=by simp[wordsC]
abbrev memB (mb wb n:Nat) (ws:List Int):Hp:=(mb,.cells [.slice (some ⟨wb,0,none⟩) n n].toArray 312)::(wb,.cells (wordsC ws).toArray 50)::[]
abbrev memP (mb:Nat):Value:=.pointer (some ⟨mb,0,none⟩)
def memIn (ws:List Int) (a n:Int):Prop:=¬(((a<0∨n<0)∨a>ws.length)∨n>ws.length-a)
instance (ws:List Int) (a n:Int):Decidable (memIn ws a n):=by unfold memIn;infer_instance
def memAt (ws:List Int) (a:Int):Int:=ws.getD a.toNat 0
def memGet (ws:List Int) (a:Int):Int×Int:=if memIn ws a 1 then (memAt ws a,0) else (0,1)
def memPutE (ws:List Int) (a:Int):Int:=if memIn ws a 1 then 0 else 1
def memPut (ws:List Int) (a v:Int):List Int:=if memIn ws a 1 then ws.set a.toNat v else ws
def zeroW (ws:List Int) (a n:Nat):List Int:=ws.take a++List.replicate n 0++ws.drop (a+n)
def memZero (ws:List Int) (a n:Int):List Int:=if memIn ws a n then zeroW ws a.toNat n.toNat else ws
theorem memIn_one{ws:List Int}{a:Int}:memIn ws a 1↔0≤a∧a<ws.length:=by unfold memIn;omega
theorem word_nth{ws:List Int}{a:Nat}(h:a<ws.length):nth (wordsC ws) (a+0*1)=some (.int .u64 (memAt ws (a:Int))):=by
 rw[nth_eq,Nat.zero_mul,Nat.add_zero,wordsC,List.getElem?_map,Y8 h];simp[memAt,List.getD,Y8 h]
theorem word_set{ws:List Int}{a:Nat}{v:Int}(h:a<ws.length):SetL (wordsC ws) (a+0*1) [.int .u64 v] (wordsC (ws.set a v)):=by
 have:=SetL.set1 (l:=wordsC ws) (i:=a) (v:=.int .u64 v) (by rw[wordsC_len];exact h)
 rw[Nat.zero_mul,Nat.add_zero,wordsC,wordsC,List.map_set]
 rwa [wordsC]at this
theorem zero_cells(ws:List Int)(a n:Nat):(wordsC ws).take a++List.replicate n (.int .u64 0)++(wordsC ws).drop (a+n)=wordsC (zeroW ws a n):=by
 simp[wordsC,zeroW,List.map_take,List.map_drop]
theorem zeroW_len{ws:List Int}{a n:Nat}(h:a+n≤ws.length):(zeroW ws a n).length=ws.length:=by
 simp[zeroW];omega
theorem rep_words(n:Nat):(List.replicate n [Value.int .u64 0]).flatten=wordsC (List.replicate n 0):=by
 simp[wordsC]
theorem memPut_len(ws:List Int)(a v:Int):(memPut ws a v).length=ws.length:=by unfold memPut; split <;> simp
theorem memZero_len(ws:List Int)(a n:Int):(memZero ws a n).length=ws.length:=by
 unfold memZero
 split
 ·
  rename_i h;unfold memIn at h;exact zeroW_len (by omega)
 ·
  rfl
def pw (b:Int):Int:=((2^b.toNat:Nat):Int)
theorem pw_le{b:Int}(h:b≤16):1≤pw b∧pw b≤65536:=by
 have h1:0<2^b.toNat:=Nat.two_pow_pos _
 have h2:2^b.toNat≤2^16:=Nat.pow_le_pow_right (by omega) (by omega)
 unfold pw;omega
theorem sh1i{b:Int}(h0:0≤b)(h:b≤16):IntKind.i64.wrap (1*2^(min b.toNat IntKind.i64.bits))=pw b:=by
 have:=pw_le h
 have e:(1:Int)*2^(min b.toNat IntKind.i64.bits)=pw b:=by
  rw[Int.one_mul,show min b.toNat IntKind.i64.bits=b.toNat by show min b.toNat 64=_;omega];unfold pw;norm_cast
 rw[e];exact w64 (by omega) (by omega)
theorem shr_pw{a b:Int}(h0:0≤b)(h:b≤16):a.fdiv (2^(min b.toNat IntKind.i64.bits))=a/pw b:=by
 have e:(2:Int)^(min b.toNat IntKind.i64.bits)=pw b:=by
  rw[show min b.toNat IntKind.i64.bits=b.toNat by show min b.toNat 64=_;omega];unfold pw;norm_cast
 rw[e];exact Int.fdiv_eq_ediv_of_nonneg _ (by have:=pw_le h;omega)
theorem bits_i64{x:BitVec 64}{r:Nat}(h:x.toNat=r)(hr:r<2^63):IntKind.i64.wrap (x.toNat:Int)=(r:Int):=by
 rw[h];exact w64n rfl hr
theorem and_i64{a n:Nat}(ha:a<2^63)(hn:n≤62):bitsI .and .i64 (a:Int) ((2^n-1:Nat):Int)=((a%2^n:Nat):Int):=by
 have h1:2^n-1<2^64:=mask_le (by omega)
 have h2:a%2^n≤a:=Nat.mod_le _ _
 refine bits_i64 ?_ (by omega)
 show (BitVec.ofInt 64 (a:Int) &&& BitVec.ofInt 64 ((2^n-1:Nat):Int)).toNat=_
 rw[BitVec.toNat_and,bv_nat a (by omega),bv_nat _ h1,Nat.and_two_pow_sub_one_eq_mod]
theorem and_pw{a b:Int}(ha:0≤a)(ha2:a≤65536)(hb:b≤16):bitsI .and .i64 a (pw b-1)=a%pw b:=by
 obtain ⟨n,rfl⟩:∃n:Nat,a=(n:Int):=⟨a.toNat,by omega⟩;have:=and_i64 (a:=n) (n:=b.toNat) (by omega) (by omega)
 have e:pw b-1=((2^b.toNat-1:Nat):Int):=by unfold pw;have:=Nat.two_pow_pos b.toNat;omega
 rw[e,this];unfold pw;norm_cast
def inRangeS (s:Int×Int):Prop:=((s.2≥0∧s.2≤16)∧s.1≥0)∧s.1≤65536-pw s.2
instance (s:Int×Int):Decidable (inRangeS s):=by unfold inRangeS;infer_instance
def rightS (s:Int×Int):Prop:=inRangeS s∧s.1%pw s.2=0
instance (s:Int×Int):Decidable (rightS s):=by unfold rightS;infer_instance
def endS (s:Int×Int):Int:=s.1+pw s.2
def checkS (s:Int×Int) (words:Int):Int:=if ¬inRangeS s then 1 else if ¬rightS s then 9 else if endS s>words then 7 else 0
def inS (s t:Int×Int):Prop:=((rightS s∧rightS t)∧s.2≤t.2)∧s.1/pw t.2=t.1/pw t.2
instance (s t:Int×Int):Decidable (inS s t):=by unfold inS;infer_instance
def apartS (s t:Int×Int):Prop:=((rightS s∧rightS t)∧¬inS s t)∧¬inS t s
instance (s t:Int×Int):Decidable (apartS s t):=by unfold apartS;infer_instance
def bitsU (kind n:Int):Int×Int :=
  if kind=3∨kind=6∨kind=7∨kind=8 then (4,0) else if kind=4∨kind=5 then (1,0)
  else if kind=2 then (if n<1∨n>4 then (0,1) else (n+1,0)) else if kind=1 then (if n<0∨n>16 then (0,1) else (n,0)) else (0,2)
theorem or2{v:Nat}:(v*16+1) ||| 2=v*16+3:=by
 have h1:v*16+1=v*16 ||| 1:=by
  have:=Nat.two_pow_add_eq_or_of_lt (b:=1) (i:=4) (by omega) v
  rw[show (2:Nat)^4*v=v*16 by omega]at this;exact this
 have h2:v*16+3=v*16 ||| 3:=by
  have:=Nat.two_pow_add_eq_or_of_lt (b:=3) (i:=4) (by omega) v
  rw[show (2:Nat)^4*v=v*16 by omega]at this;exact this
 rw[h1,h2,Nat.or_assoc];rfl
theorem and2(w:Nat):w &&& 2=w/2%2*2:=by
 apply Nat.eq_of_testBit_eq;intro i;rw[Nat.testBit_and,show (2:Nat)=2^1 from rfl,Nat.testBit_two_pow,Nat.testBit_mul_two_pow]
 by_cases hi:1=i
 ·
  subst hi;simp[Nat.testBit_eq_decide_div_mod_eq]
 ·
  have h0:(w/2^1%2^1).testBit (i-1)=(decide (i=1) && (w/2^1).testBit (i-1))∨i=0:=by
   by_cases h:i=0
   ·
    exact .inr h
   ·
    left
    rw[Nat.testBit_mod_two_pow];have:(decide (i-1<1))=decide (i=1):=by rw[decide_eq_decide];omega
    rw[this]
  rcases h0 with h0 | h0
  ·
   rw[h0];simp[hi,Ne.symm hi]
  ·
   subst h0;simp
theorem PteM.ext_cells{a b:PteM}:a=b↔[Value.bool a.valid,.bool a.write,.int .i64 a.at_]=[Value.bool b.valid,.bool b.write,.int .i64 b.at_]:=by
 cases a;cases b;simp
theorem pte_kind(e:PteM):KindV [none,none,some .i64] [Value.bool e.valid,.bool e.write,.int .i64 e.at_]:=kind_b (kind_b (kind_i trivial))
def pteOf (w:Nat):PteM:=⟨decide (w%2=1),decide (w/2%2=1),((w/16%4096*16:Nat):Int)⟩
theorem packE_v{q:Nat}(wr:Bool)(h:q<4096):packE ⟨true,wr,((q*16:Nat):Int)⟩=0:=by
 unfold packE;rw[if_neg (by intro h;cases h),if_neg (by simp),if_neg (by dsimp only;omega)]
theorem packV_v{q:Nat}(wr:Bool)(h:q<4096):packV ⟨true,wr,((q*16:Nat):Int)⟩=((q*16:Nat):Int)+1+(if wr then 2 else 0):=by
 unfold packV;rw[packE_v wr h,if_pos rfl,if_neg (by intro h;cases h)]
theorem packV_n(wr:Bool)(a:Int):packV ⟨false,wr,a⟩=0:=by
 unfold packV packE
 by_cases h:(⟨false,wr,a⟩:PteM)=.zero
 ·
  rw[if_pos h,if_pos rfl,if_pos h]
 ·
  rw[if_neg h,if_pos rfl,if_neg (by decide)]
theorem pte_unp{w:Nat}(hw:w<2^64)(h0:w≠0):(packE (pteOf w)=0∧packV (pteOf w)=(w:Int))↔pteOk w:=by
 unfold pteOf pteOk;have hm:=Nat.mod_lt (w/16) (show 4096>0 by omega)
 by_cases h1:w%2=1
 ·
  rw[decide_eq_true h1,packE_v _ hm,packV_v _ hm]
  by_cases h2:w/2%2=1
  ·
   rw[decide_eq_true h2,if_pos rfl];omega
  ·
   rw[decide_eq_false h2,if_neg (by decide)];omega
 ·
  rw[decide_eq_false h1,packV_n]
  constructor
  ·
   rintro ⟨_,h⟩;omega
  ·
   rintro ⟨h,_⟩;exact absurd h h1
end
end Go.Proofs.YtmoeokkelkgnhaaGreat
