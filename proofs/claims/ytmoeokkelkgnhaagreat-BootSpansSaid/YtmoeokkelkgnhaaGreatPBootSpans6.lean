/- BootSpans. Laid together by pack.py out of the texts in wip. -/
import Derived.Test.YtmoeokkelkgnhaaGreatPBootSpans5
set_option linter.unusedVariables false
set_option linter.unusedSimpArgs false
set_option linter.unusedSectionVars false
set_option maxHeartbeats 64000000
namespace Go.Proofs.YtmoeokkelkgnhaaGreat
open Go.SL
open Go.Proofs.Tryz
section
def badC:List PanicEntry:=[{ v:=.iface 200 (.agg #[]),recovered:=false }]
abbrev outP (k:Nat):Value:=.pointer (some ⟨k,1,none⟩)
abbrev kP (k:Nat):Value:=.pointer (some ⟨k,0,none⟩)
section
variable(k:Nat)(rd:Bool)(bv:Value)(left:List UInt8)(h1:bv.oneCell' = true)
include k rd bv left h1
theorem tr_cc0:Tr prog 66 [outP k] ([(k,.cells [.bool rd,.pointer none,bv,sV left].toArray 107)]) (fun u L' => u=.tuple #[]∧L' = [(k,.cells [.bool rd,.pointer (some ⟨k,1,none⟩),bv,sV left].toArray 107)]):=by
 refine YR func66 ntmps66 fun W F=>?_
 refine zq [3,4,0,9,61,8] ?_;refine Yp ((pv_eql_nil rfl rfl).is (u:=.bool true) (by first | rfl | (simp;done))) ?_;refine zq [2,5,18,4,0,0] ?_;refine Yp (pv_toUnsafe rfl underlying272 rfl rfl) ?_;refine Yp (pv_same func123 (by kernel_rfl) (by kernel_rfl) (by kernel_rfl) (by kernel_rfl) rfl) ?_;refine Yp (pv_fromUnsafe rfl underlying272 (by kernel_rfl)) ?_;refine zq [9,61,25,2] ?_;exact zf ⟨rfl,rfl⟩
theorem tr_cc1:TrR prog 66 [outP k] ([(k,.cells [.bool rd,.pointer (some ⟨k,1,none⟩),bv,sV left].toArray 107)]) (.tuple #[]):=by
 refine YR func66 ntmps66 fun W F=>?_
 refine zq [3,4,0,9,61,8] ?_;refine Yp ((pv_eql_nil rfl rfl).is (u:=.bool false) (by first | rfl | (simp;done))) ?_;refine zq [2,5,17,3,4,0,9,61,8,0] ?_;refine Yp (pv_neq_same rfl rfl) ?_;refine zq [2,5,17,11] ?_;exact zf ⟨rfl,rfl⟩
end
section
variable(k:Nat)(left:List UInt8)
include k left
theorem tr_wbyte(bs:List UInt8)(pa:Option Addr)(ca:Nat)(Kb:Hp)(hb:Slc 5 1 (.slice pa bs.length ca) bs.length (bC bs) Kb)(hl:bs.length≤2^40)(b:UInt8):Tr prog 186 [outP k,.int .u8 (b.toNat:Int)] ((k,.cells [.bool false,.pointer (some ⟨k,1,none⟩),.slice pa bs.length ca,sV left].toArray 107)::Kb) (fun u L' => u=.nilIface∧∃pa' ca' Kb', Slc 5 1 (.slice pa' (bs++[b]).length ca') (bs++[b]).length (bC (bs++[b])) Kb' ∧ L' = (k,.cells [.bool false,.pointer (some ⟨k,1,none⟩),(.slice pa' (bs++[b]).length ca'),sV left].toArray 107)::Kb'):=by
 refine YR func186 ntmps186 fun W F=>?_
 refine zq [3,4,1,2,5,3,4,0] ?_;refine zC (tr_cc1 k false (.slice pa bs.length ca) left rfl) ?_;refine zq [2,5,3,4,0,0,9,61,8,0] ?_;refine Yq (ef_buildSlice1 (k:=1) rfl rfl rfl rfl rfl) fun b1=>?_
 refine Ops.ef rfl (ef_append (H:=Kb) (xs:=[.int .u8 (b.toNat:Int)]) rfl hb rfl ⟨rfl,trivial⟩ rfl rfl rfl (by omega) (by omega) rfl rfl) ?_;rintro _ _ ⟨u1,K1,hu1,rfl,rfl⟩;refine Ops.app ?_;have hut:Slc 5 1 u1 (bs++[b]).length (bC (bs++[b])) K1:=by rw[bC_app,Y3];exact hu1
 obtain ⟨pu,qu,rfl⟩:=hut.form;refine zq [9,61,25,2,5,3,4,1,2,5,10] ?_;exact zr (L' := (k,.cells [.bool false,.pointer (some ⟨k,1,none⟩),.slice pu (bs++[b]).length qu,sV left].toArray 107)::K1) ⟨rfl,pu,qu,K1,hut,rfl⟩
theorem tr_wstr(l:List UInt8)(h0:l≠[])(hl:l.length≤2^40):Tr prog 28 [outP k,sV l] ([(k,.cells [.bool false,.pointer none,.slice none 0 0,sV left].toArray 107)]) (fun u L' => u=.tuple #[.int .i64 l.length,.nilIface]∧∃pa' ca' Kb', Slc 5 1 (.slice pa' l.length ca') l.length (bC l) Kb' ∧ L' = (k,.cells [.bool false,.pointer (some ⟨k,1,none⟩),(.slice pa' l.length ca'),sV left].toArray 107)::Kb'):=by
 refine YR func28 ntmps28 fun W F=>?_
 refine zq [3,4,1,1,2,5,3,4,0] ?_;refine zD (tr_cc0 k false (.slice none 0 0) left rfl) ?_;rintro _ _ ⟨rfl,rfl⟩;refine Ops.app ?_;refine zq [2,5,3,4,0,0,9,61,8,0] ?_;refine Ops.ef rfl (ef_appendStr rfl rfl h0 (by omega) (by omega) rfl rfl) ?_;rintro _ _ ⟨u1,K1,hu1,rfl,rfl⟩;obtain ⟨pu,qu,rfl⟩:=hu1.form;refine zq [9,61,25,2,5,3,4,0] ?_;refine Yp (pv_str_len (T:=9) rfl rfl) ?_;refine zq [1,1,2,5,10] ?_;exact zr (L' := (k,.cells [.bool false,.pointer (some ⟨k,1,none⟩),.slice pu l.length qu,sV left].toArray 107)::K1) ⟨rfl,pu,qu,K1,hu1,rfl⟩
theorem tr_bstr(bs:List UInt8)(pa:Option Addr)(ca:Nat)(Kb:Hp)(hb:Slc 5 1 (.slice pa bs.length ca) bs.length (bC bs) Kb)(hl:bs.length≤2^40)(h0:bs≠[]):Tr prog 31 [outP k] ((k,.cells [.bool false,.pointer (some ⟨k,1,none⟩),.slice pa bs.length ca,sV left].toArray 107)::Kb) (fun u L' => u=sV bs∧L' = [(k,.cells [.bool false,.pointer (some ⟨k,1,none⟩),.slice pa bs.length ca,sV left].toArray 107)]):=by
 obtain ⟨b9,o9,rfl⟩:∃b9 o9,pa=some ⟨b9,o9,none⟩:=slc_some hb (by intro e;exact h0 (List.eq_nil_of_length_eq_zero e));have hca:ca≠0:=slc_cap hb (by intro e;exact h0 (List.eq_nil_of_length_eq_zero e))
 refine YR func31 ntmps31 fun W F=>?_
 refine zq [3,4,1,2,5,3] ?_;refine AnyH.start ([(k,.cells [.bool false,.pointer (some ⟨k,1,none⟩),.slice (some ⟨b9,o9,none⟩) bs.length ca,sV left].toArray 107)]:Hp) 12 rfl ?_;refine zd [0,1,1,3,2,6,3,2] ?_;refine Yh 4 rfl (pv_sliceData rfl hca) ?_;refine zd [5,1,6,3,7,6,8,2] ?_;refine Yh 9 rfl (pv_len_slice (T:=103) rfl rfl) ?_;refine YA 10 ?_;refine Yu rfl rfl (ef_unsafeString (H:=Kb) rfl hb rfl h0 (by omega) rfl (by kernel_rfl)) ?_;refine zd [11,5] ?_;refine YD ?_;refine zq [5,10] ?_;exact zr ⟨rfl,rfl⟩
theorem tr_wordW(bs:List UInt8)(pa:Option Addr)(ca:Nat)(Kb:Hp)(hb:Slc 5 1 (.slice pa bs.length ca) bs.length (bC bs) Kb)(hl:bs.length≤2^39)(vb vo:Nat)(cc:List Value)(Tv:TypeId)(v:Nat)(hv:nth cc vo=some (.int .u64 (v:Int)))(w:Nat)(h1:1≤w)(h8:w≤8):TrE prog 129 [kP k,.pointer (some ⟨vb,vo,none⟩),.int .i64 w] ((k,.cells [.bool false,.pointer (some ⟨k,1,none⟩),.slice pa bs.length ca,sV left].toArray 107)::(Kb++[(vb,.cells cc.toArray Tv)])) (fun u L' => u=.tuple #[]∧(w=8∨v<256^w)∧∃pa' ca' Kb', Slc 5 1 (.slice pa' (bs++leB w v).length ca') (bs++leB w v).length (bC (bs++leB w v)) Kb' ∧ L' = (k,.cells [.bool false,.pointer (some ⟨k,1,none⟩),(.slice pa' (bs++leB w v).length ca'),sV left].toArray 107)::(Kb' ++ [(vb,.cells cc.toArray Tv)])) (fun c L' => c=badC∧¬(w=8∨v<256^w)∧L' = []):=by
 refine YX func129 ntmps129 fun W F=>?_
 refine zq [3,3,4,0,9,6,8,39,2,5,18,3,3,4,0,42,0] ?_;refine Yc rfl rfl (fun hg=>pv_move rfl) ?_;refine Yc rfl rfl (fun hg=>Ys 16 rfl hg (pv_nilCheck rfl)) ?_;refine Yc rfl rfl (fun hg=>Ys 16 rfl hg (Ys 17 rfl hg (pv_load rfl rfl hv))) ?_;refine Yc rfl rfl (fun hg=>Ys 16 rfl hg (Ys 17 rfl hg (Ys 18 rfl hg (pv_move rfl)))) ?_;refine Yc rfl rfl (fun hg=>Ys 16 rfl hg (Ys 17 rfl hg (Ys 18 rfl hg (Ys 19 rfl hg (pv_mul rfl rfl (w64n (k:=8*w) (by omega) (by omega))))))) ?_;refine Yc rfl rfl (fun hg=>Ys 16 rfl hg (Ys 17 rfl hg (Ys 18 rfl hg (Ys 19 rfl hg (Ys 20 rfl hg (pv_shr rfl rfl (by omega) (shrB v w (by omega)))))))) ?_;refine Yc rfl rfl (fun hg=>Ys 16 rfl hg (Ys 17 rfl hg (Ys 18 rfl hg (Ys 19 rfl hg (Ys 20 rfl hg (Ys 21 rfl hg (pv_neq rfl rfl))))))) ?_;refine zq [46,2,5] ?_;refine Yd rfl (fun h23=>?_) (fun h23=>?_)
 ·
  refine zq [4,23,74] ?_;have hno:¬(w=8∨v<256^w):=by
   rintro (h | h)
   ·
    omega
   ·
    exact absurd (Nat.div_eq_of_lt h) (by omega)
  exact Ops.panic rfl ⟨[],⟨rfl,hno,rfl⟩,inferInstance⟩
 have hyes:(w=8∨v<256^w):=by
  by_cases h:w=8
  ·
   exact .inl h
  ·
   right
   have hq:v/256^w=0:=by omega
   exact (Nat.div_eq_zero_iff_lt (Nat.pow_pos (by decide))).1 hq
 refine zq [11,5,3,3,4,0,0,2,5,20] ?_;refine YM (σ:=Nat×List UInt8×Option Addr×Nat×Hp) [(0,_),(1,_),(26,_)] (fun s=>[(27,.int .i64 s.1)]) (fun s=>(k,.cells [.bool false,.pointer (some ⟨k,1,none⟩),.slice s.2.2.1 s.2.1.length s.2.2.2.1,sV left].toArray 107)::(s.2.2.2.2++((vb,.cells cc.toArray Tv)::F))) (fun s=>s.1≤w∧s.2.1=bs++leB s.1 v∧s.2.1.length=bs.length+s.1∧Slc 5 1 (.slice s.2.2.1 s.2.1.length s.2.2.2.1) s.2.1.length (bC s.2.1) s.2.2.2.2) (fun s=>w-s.1) (0,bs,pa,ca,Kb) ⟨Nat.zero_le _,by simp[leB],rfl,hb⟩ ?_;rintro ⟨i,e,pi,ci,Ki⟩ KK ⟨hi,he,hel,hsi⟩ hK;dsimp only[Y1,Y2]at hK ⊢;dsimp only at hi he hel hsi ⊢;refine zq [3,4,42,2,5,3] ?_;refine Yd rfl (fun h2=>?_) (fun h2=>?_)
 ·
  refine zq [11,5,3,20,3,4,0,1,2,5] ?_;refine AnyH.start ([(vb,.cells cc.toArray Tv)]:Hp) 11 rfl ?_;refine zd [0,1,1,3,2,0,3,1,4,3] ?_;refine Yh 5 rfl (pv_load rfl rfl hv) ?_;refine zd [6,1] ?_;refine Yh 7 rfl (pv_mul rfl rfl (w64n (k:=8*i) (by omega) (by omega))) ?_;refine Yh 8 rfl (pv_shr rfl rfl (by omega) (shrB v i (by omega))) ?_;refine Yh 9 rfl (pv_conv rfl (u8conv (v/256^i))) ?_;refine YA 10 ?_;refine Turn.ef rfl rfl (ef_call (tr_wbyte k left e pi ci Ki hsi (by omega) (UInt8.ofNat (v/256^i))) rfl rfl) ?_ ?_ <;> rintro _ _ ⟨_,_,⟨rfl,pa2,ca2,Kb2,hb2,rfl⟩,rfl,rfl⟩
  ·infer_instance
  refine AnyH.app ?_;refine YD ?_;refine zq [19,5,4] ?_;refine Ya rfl rfl (i+1) ?_;refine zq [0,2,49] ?_;refine Yy (hK (i+1,e++[UInt8.ofNat (v/256^i)],pa2,ca2,Kb2) ⟨by dsimp only;omega,by dsimp only;rw[leB_succ,he,Y7],by dsimp only;rw[Y3,hel];rfl,hb2⟩ (by dsimp only;omega))
 obtain rfl:i=w:=by omega
 refine zq [41,16,16,40,5,10,12] ?_;subst he;exact Ends.retE (L' := (k,.cells [.bool false,.pointer (some ⟨k,1,none⟩),.slice pi (bs++leB i v).length ci,sV left].toArray 107)::(Ki++[(vb,.cells cc.toArray Tv)])) (res0 rfl) ⟨rfl,hyes,pi,ci,Ki,hsi,rfl⟩
end
theorem tr_wordR(k:Nat)(adr bv:Value)(left:List UInt8)(hl:left.length≤2^40)(h1b:bv.oneCell' = true)(h1a:adr.oneCell' = true)(vb vo:Nat)(cc:List Value)(Tv:TypeId)(v:Nat)(hv:nth cc vo=some (.int .u64 (v:Int)))(w:Nat)(h1:1≤w)(h8:w≤8):TrE prog 129 [kP k,.pointer (some ⟨vb,vo,none⟩),.int .i64 w] ([(k,.cells [.bool true,adr,bv,sV left].toArray 107),(vb,.cells cc.toArray Tv)]) (fun u L' => u=.tuple #[]∧w≤left.length∧L' = [(k,.cells [.bool true,adr,bv,sV (left.drop w)].toArray 107),(vb,.cells (cc.set vo (.int .u64 (leV (left.take w):Nat))).toArray Tv)]) (fun c L' => c=badC∧left.length<w∧L' = []):=by
 have hvl:=nth_lt hv
 refine YX func129 ntmps129 fun W F=>?_
 refine zq [3,3,4,0,9,6,8,39,2,5,17,11,5,3,3,4,0,9,6,8] ?_;refine Yp (pv_str_len (T:=9) rfl rfl) ?_;refine zq [0,42,2,5] ?_;refine Yd rfl (fun h48=>?_) (fun h48=>?_)
 ·
  refine zq [4,23,74] ?_;exact Ops.panic rfl ⟨[],⟨rfl,by omega,rfl⟩,inferInstance⟩
 refine zq [11,5,3,4,0,9] ?_;refine Yo (ef_store1 (hset:=setL_set hvl) rfl rfl rfl rfl) ?_;refine zq [2,5,3,3,4,0,0,2,5,20] ?_;refine YM (σ:=Nat×Nat) [(0,_),(1,_),(2,_),(53,_)] (fun s=>[(54,.int .i64 s.1)]) (fun s=>(k,.cells [.bool true,adr,bv,sV left].toArray 107)::(vb,.cells (cc.set vo (.int .u64 (s.2:Int))).toArray Tv)::F) (fun s=>s.1≤w∧s.2=leV (left.take s.1)) (fun s=>w-s.1) (0,0) ⟨Nat.zero_le _,rfl⟩ ?_;rintro ⟨i,m⟩ KK ⟨hi,hm⟩ hK;dsimp only[Y1,Y2]at hK ⊢;dsimp only at hi hm ⊢;refine zq [3,4,42,2,5,3] ?_;refine Yd rfl (fun h2=>?_) (fun h2=>?_)
 ·
  obtain ⟨b,hb⟩:∃b,left[i]?=some b:=Y9;have ht:=leV_take hb
  have hlt:=leV_lt (left.take i)
  rw[List.length_take,Nat.min_eq_left (by omega),←hm]at hlt;rw[←hm]at ht;have hbt:=b.toNat_lt
  refine zq [11,5,3,20,3,4,0,1,2,5] ?_;refine AnyH.start ([(k,.cells [.bool true,adr,bv,sV left].toArray 107)]:Hp) 16 rfl ?_;refine zd [0,1,1,3,3,1,4,3,5,0,6,2,7,1] ?_;refine Yh 8 rfl (pv_str_index (i:=i) rfl rfl hb) ?_;refine Yh 9 rfl (pv_conv rfl (u64n (k:=b.toNat) rfl (by omega))) ?_;refine zd [10,1] ?_;refine Yh 11 rfl (pv_mul rfl rfl (w64n (k:=8*i) (by omega) (by omega))) ?_;refine Yh 12 rfl (pv_shl rfl rfl (by omega) (shlB b i (by omega))) ?_;refine YA 2 ?_;refine Yv rfl rfl (pv_load rfl rfl (nth_set hvl)) ?_;refine Yh 13 rfl (pv_or rfl rfl (orB hlt (by omega) (by omega))) ?_;refine zd [14,3] ?_;refine YA 15 ?_;refine Yu rfl rfl (ef_store1 (hset:=setL_set2 hvl) rfl rfl rfl rfl) ?_;refine YD ?_;refine zq [19,5,4] ?_;refine Ya rfl rfl (i+1) ?_;refine zq [0,2,49] ?_;refine Yy (hK (i+1,m+256^i*b.toNat) ⟨by dsimp only;omega,by dsimp only;rw[ht]⟩ (by dsimp only;omega))
 obtain rfl:i=w:=by omega
 refine zq [41,16,16,40,5,4,0,0,9,6,8,0] ?_;refine Yp (pv_str_from (i:=i) rfl rfl (by omega)) ?_;refine zq [9,6,25,2] ?_;subst hm;exact Ends.finE (L' := [(k,.cells [.bool true,adr,bv,sV (left.drop i)].toArray 107),(vb,.cells (cc.set vo (.int .u64 (leV (left.take i):Nat))).toArray Tv)]) (res0 rfl) ⟨rfl,by omega,rfl⟩
end
section
theorem tr_twoW(k:Nat)(left:List UInt8)(bs:List UInt8)(pa:Option Addr)(ca:Nat)(Kb:Hp)(hb:Slc 5 1 (.slice pa bs.length ca) bs.length (bC bs) Kb)(pb:Nat)(Tp:TypeId)(ps:List Value)(vb vo:Nat)(cc:List Value)(Tv:TypeId)(xs:List Int)(hps:ps=ptrsM vb vo xs.length)(hcc:∀j x,xs[j]?=some x→nth cc (vo+j)=some (.int .i64 x))(hxr:∀x,x∈xs→RgI x)(hxl:xs.length≤2^20)(hvo:vo≤cc.length)(hl:bs.length+2*xs.length≤2^39):TrE prog 126 [kP k,.slice (some ⟨pb,0,none⟩) xs.length xs.length] ((k,.cells [.bool false,.pointer (some ⟨k,1,none⟩),.slice pa bs.length ca,sV left].toArray 107)::(Kb++[(vb,.cells cc.toArray Tv),(pb,.cells ps.toArray Tp)])) (fun u L' => u=.tuple #[]∧okT xs∧∃pa' ca' Kb', Slc 5 1 (.slice pa' (bs++encT xs).length ca') (bs++encT xs).length (bC (bs++encT xs)) Kb' ∧ L' = (k,.cells [.bool false,.pointer (some ⟨k,1,none⟩),.slice pa' (bs++encT xs).length ca', sV left].toArray 107)::(Kb' ++ [(vb,.cells cc.toArray Tv),(pb,.cells ps.toArray Tp)])) (fun c L' => c=badC∧¬okT xs∧L' = []):=by
 refine YX func126 ntmps126 fun W F=>?_
 refine zq [3,4,0] ?_;refine Yp (pv_len_slice (T:=373) rfl rfl) ?_;refine zq [0,2,5,20] ?_;refine YM (σ:=Nat×List UInt8×Option Addr×Nat×Hp) [(0,_),(7,_),(8,_)] (fun s=>[(9,.int .i64 s.1)]) (fun s=>(k,.cells [.bool false,.pointer (some ⟨k,1,none⟩),.slice s.2.2.1 s.2.1.length s.2.2.2.1,sV left].toArray 107)::(s.2.2.2.2++((vb,.cells cc.toArray Tv)::((pb,.cells ps.toArray Tp)::F)))) (fun s=>s.1≤xs.length∧s.2.1=bs++encT (xs.take s.1)∧s.2.1.length=bs.length+2*s.1∧okT (xs.take s.1)∧Slc 5 1 (.slice s.2.2.1 s.2.1.length s.2.2.2.1) s.2.1.length (bC s.2.1) s.2.2.2.2) (fun s=>xs.length-s.1) (0,bs,pa,ca,Kb) ⟨Nat.zero_le _,by simp[encT],rfl,by intro x hx;simp at hx,hb⟩ ?_;rintro ⟨i,b2,pi,ci,Ki⟩ KK ⟨hi,he,hel,hok,hsi⟩ hK;dsimp only[Y1,Y2]at hK ⊢;dsimp only at hi he hel hok hsi ⊢;refine zq [3,4,42,2,5,3] ?_;refine Yd rfl (fun h1=>?_) (fun h1=>?_)
 ·
  obtain ⟨x,hx⟩:∃x,xs[i]?=some x:=Y9;have hpi:nth ps i=some (.pointer (some ⟨vb,vo+i,none⟩)):=by rw[hps];exact ptrsM_get vb _ vo i (by omega)
  have hrx:=hxr x (List.mem_of_getElem? hx)
  have hcx:=hcc i x hx
  refine zq [11,5,3,20,3,4] ?_;refine Yi rfl rfl (i) rfl ?_;refine Yp (pv_load rfl rfl (by rw[Nat.zero_add,Nat.mul_one];exact hpi)) ?_;refine zq [1,2,5,3,4,0,9] ?_;refine Yp (pv_load rfl rfl hcx) ?_;refine Yp (pv_conv rfl (uI_eq x)) ?_;refine Yq (ef_alloc1 tyZ50 rfl rfl) fun b1=>?_
  refine zq [25,2,5,3,4,0] ?_;refine Ops.efx rfl (efx_call (tr_wordW k left b2 pi ci Ki hsi (by omega) b1 0 [.int .u64 (uI x)] 50 (uI x) rfl 2 (by decide) (by decide)) rfl rfl) ?_ ?_
  ·
   rintro _ _ ⟨_,⟨rfl,hno,rfl⟩,rfl⟩;exact ⟨[],⟨rfl,fun hok=>hno (.inr ((uI_ok hrx).2 (hok x (List.mem_of_getElem? hx)))),rfl⟩,inferInstance⟩
  rintro _ _ ⟨_,_,⟨rfl,hok2,pa2,ca2,Kb2,hb2,rfl⟩,rfl,rfl⟩;refine Ops.app ?_;have hu:uI x<65536:=hok2.elim (fun h=>absurd h (by decide)) id
  have hxo:=(uI_ok hrx).1 hu
  have hxe:=uI_nn hxo.1 (by omega)
  refine zq [2,5,4,0,8] ?_;refine Yp (pv_conv rfl (r:=x) (by rw[hxe];exact w64 (by omega) (by omega))) ?_;refine zq [9] ?_;refine Yo (ef_store1 (hset:=setL_same hcx) rfl rfl rfl rfl) ?_;refine zq [2,19,5,4] ?_;refine Ya rfl rfl (i+1) ?_;refine zq [0,2,49] ?_;refine Yy (hK (i+1,b2++leB 2 (uI x),pa2,ca2,Kb2) ⟨by dsimp only;omega,by dsimp only;rw[encT_take hx,he,Y7],by dsimp only;rw[Y3,leB_len,hel];omega,okT_take hx hok hxo,hb2⟩ (by dsimp only;omega))
 obtain rfl:i=xs.length:=by omega
 refine zq [41,16,16,40] ?_;rw[List.take_length]at he hok;subst he;exact Ends.finE (L' := (k,.cells [.bool false,.pointer (some ⟨k,1,none⟩),.slice pi (bs++encT xs).length ci,sV left].toArray 107)::(Ki++[(vb,.cells cc.toArray Tv),(pb,.cells ps.toArray Tp)])) (res0 rfl) ⟨rfl,hok,pi,ci,Ki,hsi,rfl⟩
theorem tr_twoR(k:Nat)(adr bv:Value)(left:List UInt8)(hl:left.length≤2^40)(h1b:bv.oneCell' = true)(h1a:adr.oneCell' = true)(pb:Nat)(Tp:TypeId)(ps:List Value)(vb vo:Nat)(cc:List Value)(Tv:TypeId)(xs:List Int)(hps:ps=ptrsM vb vo xs.length)(hcc:∀j x,xs[j]?=some x→nth cc (vo+j)=some (.int .i64 x))(hxr:∀x,x∈xs→RgI x)(hxl:xs.length≤2^20)(hvo:vo≤cc.length):TrE prog 126 [kP k,.slice (some ⟨pb,0,none⟩) xs.length xs.length] ([(k,.cells [.bool true,adr,bv,sV left].toArray 107),(vb,.cells cc.toArray Tv),(pb,.cells ps.toArray Tp)]) (fun u L' => u=.tuple #[]∧2*xs.length≤left.length∧L' = [(k,.cells [.bool true,adr,bv,sV (left.drop (2*xs.length))].toArray 107),(vb,.cells (setAt cc vo (intC (rdTw xs.length left))).toArray Tv),(pb,.cells ps.toArray Tp)]) (fun c L' => c=badC∧left.length<2*xs.length∧L' = []):=by
 have hccl:vo+xs.length≤cc.length:=cc_len hcc hvo
 refine YX func126 ntmps126 fun W F=>?_
 refine zq [3,4,0] ?_;refine Yp (pv_len_slice (T:=373) rfl rfl) ?_;refine zq [0,2,5,20] ?_;refine YM (σ:=Nat×List UInt8×List Int×List Value) [(0,_),(7,_),(8,_)] (fun s=>[(9,.int .i64 s.1)]) (fun s=>(k,.cells [.bool true,adr,bv,sV s.2.1].toArray 107)::((vb,.cells s.2.2.2.toArray Tv)::((pb,.cells ps.toArray Tp)::F))) (fun s=>s.1≤xs.length∧2*s.1≤left.length∧s.2.1=left.drop (2*s.1)∧s.2.2.1=rdTw s.1 left∧s.2.2.1.length=s.1∧s.2.2.2=setAt cc vo (intC s.2.2.1)) (fun s=>xs.length-s.1) (0,left,[],cc) ⟨Nat.zero_le _,Nat.zero_le _,rfl,rfl,rfl,(setAt_nil cc vo).symm⟩ ?_;rintro ⟨i,lf,vs,c2⟩ KK ⟨hi,h2i,hlf,hvs,hvl,hc2⟩ hK;dsimp only[Y1,Y2]at hK ⊢;dsimp only at hi h2i hlf hvs hvl hc2 ⊢;refine zq [3,4,42,2,5,3] ?_;refine Yd rfl (fun h1=>?_) (fun h1=>?_)
 ·
  obtain ⟨x,hx⟩:∃x,xs[i]?=some x:=Y9;have hpi:nth ps i=some (.pointer (some ⟨vb,vo+i,none⟩)):=by rw[hps];exact ptrsM_get vb _ vo i (by omega)
  have hrx:=hxr x (List.mem_of_getElem? hx)
  have hcx:=hcc i x hx
  have hcx2:nth c2 (vo+i)=some (.int .i64 x):=by rw[hc2,nth_eq,setAt_get (by rw[intC_len,hvl];omega) (by rw[intC_len,hvl];omega),←nth_eq];exact hcx
  refine zq [11,5,3,20,3,4] ?_;refine Yi rfl rfl (i) rfl ?_;refine Yp (pv_load rfl rfl (by rw[Nat.zero_add,Nat.mul_one];exact hpi)) ?_;refine zq [1,2,5,3,4,0,9] ?_;refine Yp (pv_load rfl rfl hcx2) ?_;refine Yp (pv_conv rfl (uI_eq x)) ?_;refine Yq (ef_alloc1 tyZ50 rfl rfl) fun b1=>?_
  refine zq [25,2,5,3,4,0] ?_;refine Ops.efx rfl (efx_call (tr_wordR k adr bv lf (by rw[hlf,Y6];omega) h1b h1a b1 0 [.int .u64 (uI x)] 50 (uI x) rfl 2 (by decide) (by decide)) rfl rfl) ?_ ?_
  ·
   rintro _ _ ⟨_,⟨rfl,hno,rfl⟩,rfl⟩;exact ⟨[],⟨rfl,by rw[hlf,Y6]at hno;omega,rfl⟩,inferInstance⟩
  rintro _ _ ⟨_,_,⟨rfl,h2l,rfl⟩,rfl,rfl⟩;refine Ops.app ?_;rw[hlf,Y6]at h2l;have hv2:=leV_lt (lf.take 2)
  have hv3:leV (lf.take 2)<65536:=Nat.lt_of_lt_of_le hv2 (Nat.pow_le_pow_right (n:=256) (by decide) (List.length_take_le 2 lf))
  refine zq [2,5,4,0,8] ?_;refine Yp (pv_conv rfl (w64n (k:=leV (lf.take 2)) rfl (by omega))) ?_;refine zq [9] ?_;refine Yo (ef_store1 (hset:=setL_set (nth_lt hcx2)) rfl rfl rfl rfl) ?_;have hc3:c2.set (vo+i) (.int .i64 (leV (lf.take 2):Nat))=setAt cc vo (intC (vs++[(leV (lf.take 2):Int)])):=by rw[intC_snoc,setAt_succ (by rw[intC_len,hvl];omega),intC_len,hvl,hc2]
  refine zq [2,19,5,4] ?_;refine Ya rfl rfl (i+1) ?_;refine zq [0,2,49] ?_;refine Yy (hK (i+1,lf.drop 2,vs++[(leV (lf.take 2):Int)],c2.set (vo+i) (.int .i64 (leV (lf.take 2):Nat))) ⟨by dsimp only;omega,by dsimp only;omega,by dsimp only;rw[hlf,List.drop_drop];congr 1,by dsimp only;rw[rdTw_succ,hvs,hlf],by dsimp only;rw[Y3,hvl];rfl,hc3⟩ (by dsimp only;omega))
 obtain rfl:i=xs.length:=by omega
 refine zq [41,16,16,40] ?_;subst hlf;subst hc2;subst hvs
 exact Ends.finE (L' := [(k,.cells [.bool true,adr,bv,sV (left.drop (2*xs.length))].toArray 107),(vb,.cells (setAt cc vo (intC (rdTw xs.length left))).toArray Tv),(pb,.cells ps.toArray Tp)]) (res0 rfl) ⟨rfl,h2i,rfl⟩
end
section
theorem tr_flagW(k:Nat)(left:List UInt8)(bs:List UInt8)(pa:Option Addr)(ca:Nat)(Kb:Hp)(hb:Slc 5 1 (.slice pa bs.length ca) bs.length (bC bs) Kb)(hl:bs.length≤2^39)(vb vo:Nat)(cc:List Value)(Tv:TypeId)(bb:Bool)(hv:nth cc vo=some (.bool bb)):TrE prog 132 [kP k,.pointer (some ⟨vb,vo,none⟩)] ((k,.cells [.bool false,.pointer (some ⟨k,1,none⟩),.slice pa bs.length ca,sV left].toArray 107)::(Kb++[(vb,.cells cc.toArray Tv)])) (fun u L' => u=.tuple #[]∧∃pa' ca' Kb', Slc 5 1 (.slice pa' (bs++leB 1 (if bb=true then 1 else 0)).length ca') (bs++leB 1 (if bb=true then 1 else 0)).length (bC (bs++leB 1 (if bb=true then 1 else 0))) Kb' ∧ L' = (k,.cells [.bool false,.pointer (some ⟨k,1,none⟩),.slice pa' (bs++leB 1 (if bb=true then 1 else 0)).length ca', sV left].toArray 107)::(Kb' ++ [(vb,.cells cc.toArray Tv)])) (fun c L' => c=badC∧False∧L' = []):=by
 refine YX func132 ntmps132 fun W F=>?_
 refine Wr ?_;refine Yq (ef_alloc1 tyZ50 rfl rfl) fun b1=>?_
 refine zq [25,2,5,3,3,4,0,9] ?_;refine Yp (pv_load rfl rfl hv) ?_;refine On ?_;refine Wp.cond_t rfl (fun h1=>?_) (fun h1=>?_)
 ·
  obtain rfl:bb=true:=by assumption
  refine zq [4,25,2,5,3,4,0] ?_;refine Ops.efx rfl (efx_call (tr_wordW k left bs pa ca Kb hb hl b1 0 [.int .u64 1] 50 1 rfl 1 (by decide) (by decide)) rfl rfl) ?_ ?_
  ·
   rintro _ _ ⟨_,⟨rfl,hno,rfl⟩,rfl⟩;exact absurd (.inr (by decide)) hno
  rintro _ _ ⟨_,_,⟨rfl,_,pa2,ca2,Kb2,hb2,rfl⟩,rfl,rfl⟩;refine Ops.app ?_;refine zq [2,5,3,3,4,8] ?_;refine Yp ((pv_gtr rfl rfl).fls (by first | exact fun h=>h rfl | decide | omega | assumption)) ?_;refine zq [2,5,17,11,5,4,0,8,22,9] ?_;refine Yo (ef_store1 (hset:=setL_same hv) rfl rfl rfl rfl) ?_;refine Ops.nil ?_;exact Ends.finE (L' := (k,.cells [.bool false,.pointer (some ⟨k,1,none⟩),.slice pa2 (bs++leB 1 1).length ca2,sV left].toArray 107)::(Kb2++[(vb,.cells cc.toArray Tv)])) (res0 rfl) ⟨rfl,pa2,ca2,Kb2,hb2,rfl⟩
 obtain rfl:bb=false:=by assumption
 refine zq [11,5,3,4,0] ?_;refine Ops.efx rfl (efx_call (tr_wordW k left bs pa ca Kb hb hl b1 0 [.int .u64 0] 50 0 rfl 1 (by decide) (by decide)) rfl rfl) ?_ ?_
 ·
  rintro _ _ ⟨_,⟨rfl,hno,rfl⟩,rfl⟩;exact absurd (.inr (by decide)) hno
 rintro _ _ ⟨_,_,⟨rfl,_,pa2,ca2,Kb2,hb2,rfl⟩,rfl,rfl⟩;refine Ops.app ?_;refine zq [2,5,3,3,4,8] ?_;refine Yp ((pv_gtr rfl rfl).fls (by first | exact fun h=>h rfl | decide | omega | assumption)) ?_;refine zq [2,5,17,11,5,4,0,8,22,9] ?_;refine Yo (ef_store1 (hset:=setL_same hv) rfl rfl rfl rfl) ?_;refine Ops.nil ?_;exact Ends.finE (L' := (k,.cells [.bool false,.pointer (some ⟨k,1,none⟩),.slice pa2 (bs++leB 1 0).length ca2,sV left].toArray 107)::(Kb2++[(vb,.cells cc.toArray Tv)])) (res0 rfl) ⟨rfl,pa2,ca2,Kb2,hb2,rfl⟩
theorem tr_flagR(k:Nat)(adr bv:Value)(left:List UInt8)(hl:left.length≤2^40)(h1b:bv.oneCell' = true)(h1a:adr.oneCell' = true)(vb vo:Nat)(cc:List Value)(Tv:TypeId)(bb:Bool)(hv:nth cc vo=some (.bool bb)):TrE prog 132 [kP k,.pointer (some ⟨vb,vo,none⟩)] ([(k,.cells [.bool true,adr,bv,sV left].toArray 107),(vb,.cells cc.toArray Tv)]) (fun u L' => u=.tuple #[]∧∃x,rdF .flg left=some (x,left.drop 1)∧L' = [(k,.cells [.bool true,adr,bv,sV (left.drop 1)].toArray 107),(vb,.cells (cc.set vo (Fld.flg.cell x)).toArray Tv)]) (fun c L' => c=badC∧rdF .flg left=none∧L' = []):=by
 refine YX func132 ntmps132 fun W F=>?_
 refine Wr ?_;refine Yq (ef_alloc1 tyZ50 rfl rfl) fun b1=>?_
 refine zq [25,2,5,3,3,4,0,9] ?_;refine Yp (pv_load rfl rfl hv) ?_;refine On ?_;refine Wp.cond_t rfl (fun h1=>?_) (fun h1=>?_)
 ·
  obtain rfl:bb=true:=by assumption
  refine zq [4,25,2,5,3,4,0] ?_;refine Ops.efx rfl (efx_call (tr_wordR k adr bv left hl h1b h1a b1 0 [.int .u64 1] 50 1 rfl 1 (by decide) (by decide)) rfl rfl) ?_ ?_
  ·
   rintro _ _ ⟨_,⟨rfl,hno,rfl⟩,rfl⟩;exact ⟨[],⟨rfl,if_pos hno,rfl⟩,inferInstance⟩
  rintro _ _ ⟨_,_,⟨rfl,hlen,rfl⟩,rfl,rfl⟩;refine Ops.app ?_;have hlt:=leV_lt (left.take 1)
  refine zq [2,5,3,3,4,8,44,2,5] ?_;refine Yd rfl (fun h2=>?_) (fun h2=>?_)
  ·
   refine zq [4,23,74] ?_;exact Ops.panic rfl ⟨[],⟨rfl,rdF_bad hlen (by unfold Fld.dec;dsimp only[Fld.wid];rw[if_neg (by omega)]),rfl⟩,inferInstance⟩
  refine zq [11,5,4,0,8,22,9] ?_;refine Yo (ef_store1 (hset:=setL_set (nth_lt hv)) rfl rfl rfl rfl) ?_;refine Ops.nil ?_;have hx:rdF .flg left=some (((leV (left.take 1):Nat):Int),left.drop 1):=rdF_of hlen (by unfold Fld.dec;dsimp only[Fld.wid];rw[if_pos (by omega)])
  exact Ends.finE (L' := [(k,.cells [.bool true,adr,bv,sV (left.drop 1)].toArray 107),(vb,.cells (cc.set vo (.bool (decide (((leV (left.take 1):Nat):Int)=1)))).toArray Tv)]) (res0 rfl) ⟨rfl,_,hx,rfl⟩
 obtain rfl:bb=false:=by assumption
 refine zq [11,5,3,4,0] ?_;refine Ops.efx rfl (efx_call (tr_wordR k adr bv left hl h1b h1a b1 0 [.int .u64 0] 50 0 rfl 1 (by decide) (by decide)) rfl rfl) ?_ ?_
 ·
  rintro _ _ ⟨_,⟨rfl,hno,rfl⟩,rfl⟩;exact ⟨[],⟨rfl,if_pos hno,rfl⟩,inferInstance⟩
 rintro _ _ ⟨_,_,⟨rfl,hlen,rfl⟩,rfl,rfl⟩;refine Ops.app ?_;have hlt:=leV_lt (left.take 1)
 refine zq [2,5,3,3,4,8,44,2,5] ?_;refine Yd rfl (fun h3=>?_) (fun h3=>?_)
 ·
  refine zq [4,23,74] ?_;exact Ops.panic rfl ⟨[],⟨rfl,rdF_bad hlen (by unfold Fld.dec;dsimp only[Fld.wid];rw[if_neg (by omega)]),rfl⟩,inferInstance⟩
 refine zq [11,5,4,0,8,22,9] ?_;refine Yo (ef_store1 (hset:=setL_set (nth_lt hv)) rfl rfl rfl rfl) ?_;refine Ops.nil ?_;have hx:rdF .flg left=some (((leV (left.take 1):Nat):Int),left.drop 1):=rdF_of hlen (by unfold Fld.dec;dsimp only[Fld.wid];rw[if_pos (by omega)])
 exact Ends.finE (L' := [(k,.cells [.bool true,adr,bv,sV (left.drop 1)].toArray 107),(vb,.cells (cc.set vo (.bool (decide (((leV (left.take 1):Nat):Int)=1)))).toArray Tv)]) (res0 rfl) ⟨rfl,_,hx,rfl⟩
section
variable(cp:Nat)(k:Nat)(left:List UInt8)(bs:List UInt8)(pa:Option Addr)(ca:Nat)(Kb:Hp)(hb:Slc 5 1 (.slice pa bs.length ca) bs.length (bC bs) Kb)(hl:bs.length≤2^38)(eb off:Nat)(cc:List Value)(Te:TypeId)
include cp k left bs pa ca Kb hb hl eb off cc Te
theorem tr_allW1(a0 a1 a2:Int)(hrg:rgE fsO [a0,a1,a2])(hx:Lies cc off (cellsE fsO [a0,a1,a2])):TrE prog 125 [.pointer (some ⟨eb,off,none⟩),.pointer (some ⟨cp,0,none⟩)] ((cp,.cells [kP k].toArray 101)::((k,.cells [.bool false,.pointer (some ⟨k,1,none⟩),.slice pa bs.length ca,sV left].toArray 107)::(Kb++[(eb,.cells cc.toArray Te)]))) (fun u L' => u=.tuple #[]∧okE fsO [a0,a1,a2]∧∃pa' ca' Kb', Slc 5 1 (.slice pa' (bs++encE fsO [a0,a1,a2]).length ca') (bs++encE fsO [a0,a1,a2]).length (bC (bs++encE fsO [a0,a1,a2])) Kb' ∧ L' = (cp,.cells [kP k].toArray 101)::((k,.cells [.bool false,.pointer (some ⟨k,1,none⟩),.slice pa' (bs++encE fsO [a0,a1,a2]).length ca', sV left].toArray 107)::(Kb' ++ [(eb,.cells cc.toArray Te)]))) (fun c L' => c=badC∧¬okE fsO [a0,a1,a2]∧L' = []):=by
 have hrg0:=hrg
 simp only[fsO,rgE,Fld.rg,RgI]at hrg;have hcl:=hx.len (by simp[cellsE,fsO])
 simp only[cellsE,fsO,List.zipWith_cons_cons,List.zipWith_nil_left,Y4,Y5]at hcl;refine YX func125 ntmps125 fun W F=>?_
 refine Wp.seq ?_;refine AnyH.start ([(cp,.cells [kP k].toArray 101)]:Hp) 12 rfl ?_;refine zd [0,2,1,1,2,3,3,6,4,1,5,3,6,6,7,1,8,3,9,6] ?_;refine YA 10 ?_;refine Yw rfl rfl (ef_buildSliceN [.pointer none,.pointer none,.pointer none] [(0,1),(1,1),(2,1)] rfl (by kernel_rfl) (by first | decide | rfl) rfl rfl rfl) fun b1=>?_
 refine YA 11 ?_;refine Turn.efx rfl rfl (efx_call (tr_twoW k left (bs) pa ca Kb hb b1 278 [.pointer (some ⟨eb,off+0,none⟩),.pointer (some ⟨eb,off+1,none⟩),.pointer (some ⟨eb,off+2,none⟩)] eb (off+0) cc Te [a0,a1,a2] rfl (hx.ints [] rfl) (by intro y hy;simp only[List.mem_cons,List.not_mem_nil,or_false]at hy;unfold RgI;omega) (by simp) (by first | omega | (simp only[List.length_set];omega)) (by simp only[Y3,encT_len,leB_len,Y4,Y5];omega)) rfl rfl) ?_ ?_ ?_
 ·
  rintro _ _ ⟨_,⟨rfl,hno,rfl⟩,rfl⟩;exact ⟨[],⟨rfl,fun ho=>hno (by simp only[fsO,okE,Fld.ok]at ho;intro y hy;simp only[List.mem_cons,List.not_mem_nil,or_false]at hy;omega),rfl⟩,inferInstance⟩
 ·
  rintro _ _ ⟨_,_,⟨rfl,hok1,pa1,ca1,Kb1,hs1,rfl⟩,rfl,rfl⟩;infer_instance
 rintro _ _ ⟨_,_,⟨rfl,hok1,pa1,ca1,Kb1,hs1,rfl⟩,rfl,rfl⟩;refine AnyH.app ?_;refine YD ?_;refine zq [5,3,4,0,9,61] ?_;refine Yp (pv_load rfl rfl (hx.at_ 2 rfl)) ?_;refine zq [43,2,5] ?_;refine Yd rfl (fun h1=>?_) (fun h1=>?_)
 ·
  refine zq [4,23,74] ?_;exact Ops.panic rfl ⟨[],⟨rfl,fun ho=>by simp only[fsO,okE,Fld.ok]at ho;omega,rfl⟩,inferInstance⟩
 refine Wp.skip ?_;have hbe:bs++encE fsO [a0,a1,a2]=bs++encT [a0,a1,a2]:=by simp[fsO,encE,encT,Fld.enc]
 have hoe:okE fsO [a0,a1,a2]:=by simp only[fsO,okE,Fld.ok,and_true,true_and];simp only[okT,List.forall_mem_cons,List.not_mem_nil,false_implies,implies_true,and_true]at hok1;omega
 rw[hbe];exact Ends.finE (L' := (cp,.cells [kP k].toArray 101)::((k,.cells [.bool false,.pointer (some ⟨k,1,none⟩),.slice pa1 (bs++encT [a0,a1,a2]).length ca1,sV left].toArray 107)::(Kb1++[(eb,.cells cc.toArray Te)]))) (res0 rfl) ⟨rfl,hoe,pa1,ca1,Kb1,hs1,rfl⟩
theorem tr_allW2(a0 a1 a2 a3 a4 a5 a6 a7:Int)(hrg:rgE fsP [a0,a1,a2,a3,a4,a5,a6,a7])(hx:Lies cc off (cellsE fsP [a0,a1,a2,a3,a4,a5,a6,a7])):TrE prog 128 [.pointer (some ⟨eb,off,none⟩),.pointer (some ⟨cp,0,none⟩)] ((cp,.cells [kP k].toArray 101)::((k,.cells [.bool false,.pointer (some ⟨k,1,none⟩),.slice pa bs.length ca,sV left].toArray 107)::(Kb++[(eb,.cells cc.toArray Te)]))) (fun u L' => u=.tuple #[]∧okE fsP [a0,a1,a2,a3,a4,a5,a6,a7]∧∃pa' ca' Kb', Slc 5 1 (.slice pa' (bs++encE fsP [a0,a1,a2,a3,a4,a5,a6,a7]).length ca') (bs++encE fsP [a0,a1,a2,a3,a4,a5,a6,a7]).length (bC (bs++encE fsP [a0,a1,a2,a3,a4,a5,a6,a7])) Kb' ∧ L' = (cp,.cells [kP k].toArray 101)::((k,.cells [.bool false,.pointer (some ⟨k,1,none⟩),.slice pa' (bs++encE fsP [a0,a1,a2,a3,a4,a5,a6,a7]).length ca', sV left].toArray 107)::(Kb' ++ [(eb,.cells cc.toArray Te)]))) (fun c L' => c=badC∧¬okE fsP [a0,a1,a2,a3,a4,a5,a6,a7]∧L' = []):=by
 have hrg0:=hrg
 simp only[fsP,rgE,Fld.rg,RgI]at hrg;obtain ⟨n5,rfl⟩:∃q:Nat,a5=(q:Int):=⟨a5.toNat,by omega⟩;obtain ⟨n6,rfl⟩:∃q:Nat,a6=(q:Int):=⟨a6.toNat,by omega⟩;have hcl:=hx.len (by simp[cellsE,fsP])
 simp only[cellsE,fsP,List.zipWith_cons_cons,List.zipWith_nil_left,Y4,Y5]at hcl;refine YX func128 ntmps128 fun W F=>?_
 refine Wp.seq ?_;refine AnyH.start ([(cp,.cells [kP k].toArray 101)]:Hp) 23 rfl ?_;refine zd [0,2,1,1,2,3,3,6,4,6,5,1,6,3,7,6,8,6,9,1,10,3,11,6,12,6,13,1,14,3,15,6,16,6,17,1,18,3,19,6,20,6] ?_;refine YA 21 ?_;refine Yw rfl rfl (ef_buildSliceN [.pointer none,.pointer none,.pointer none,.pointer none,.pointer none] [(0,1),(1,1),(2,1),(3,1),(4,1)] rfl (by kernel_rfl) (by first | decide | rfl) rfl rfl rfl) fun b1=>?_
 refine YA 22 ?_;refine Turn.efx rfl rfl (efx_call (tr_twoW k left (bs) pa ca Kb hb b1 278 [.pointer (some ⟨eb,off+0+0,none⟩),.pointer (some ⟨eb,off+0+1,none⟩),.pointer (some ⟨eb,off+2+0,none⟩),.pointer (some ⟨eb,off+2+1,none⟩),.pointer (some ⟨eb,off+2+2,none⟩)] eb (off+0) cc Te [a0,a1,a2,a3,a4] rfl (hx.ints [] rfl) (by intro y hy;simp only[List.mem_cons,List.not_mem_nil,or_false]at hy;unfold RgI;omega) (by simp) (by first | omega | (simp only[List.length_set];omega)) (by simp only[Y3,encT_len,leB_len,Y4,Y5];omega)) rfl rfl) ?_ ?_ ?_
 ·
  rintro _ _ ⟨_,⟨rfl,hno,rfl⟩,rfl⟩;exact ⟨[],⟨rfl,fun ho=>hno (by simp only[fsP,okE,Fld.ok]at ho;intro y hy;simp only[List.mem_cons,List.not_mem_nil,or_false]at hy;omega),rfl⟩,inferInstance⟩
 ·
  rintro _ _ ⟨_,_,⟨rfl,hok1,pa1,ca1,Kb1,hs1,rfl⟩,rfl,rfl⟩;infer_instance
 rintro _ _ ⟨_,_,⟨rfl,hok1,pa1,ca1,Kb1,hs1,rfl⟩,rfl,rfl⟩;refine AnyH.app ?_;refine YD ?_;refine zq [5,3] ?_;refine AnyH.start ([(cp,.cells [kP k].toArray 101)]:Hp) 6 rfl ?_;refine zd [0,2,1,1,2,3,3,6,4,6] ?_;refine YA 5 ?_;refine Turn.efx rfl rfl (efx_call (tr_wordW k left (bs++encT [a0,a1,a2,a3,a4]) pa1 ca1 Kb1 hs1 (by simp only[Y3,encT_len,leB_len,Y4,Y5];omega) eb (off+2+3) cc Te n5 (hx.at_ 5 rfl) 4 (by decide) (by decide)) rfl rfl) ?_ ?_ ?_
 ·
  rintro _ _ ⟨_,⟨rfl,hno,rfl⟩,rfl⟩;exact ⟨[],⟨rfl,fun ho=>hno (by simp only[fsP,okE,Fld.ok]at ho;first | exact .inl rfl | (right;omega)),rfl⟩,inferInstance⟩
 ·
  rintro _ _ ⟨_,_,⟨rfl,hok2,pa2,ca2,Kb2,hs2,rfl⟩,rfl,rfl⟩;infer_instance
 rintro _ _ ⟨_,_,⟨rfl,hok2,pa2,ca2,Kb2,hs2,rfl⟩,rfl,rfl⟩;refine AnyH.app ?_;refine YD ?_;refine zq [5,3] ?_;refine AnyH.start ([(cp,.cells [kP k].toArray 101)]:Hp) 6 rfl ?_;refine zd [0,2,1,1,2,3,3,6,4,6] ?_;refine YA 5 ?_;refine Turn.efx rfl rfl (efx_call (tr_wordW k left (bs++encT [a0,a1,a2,a3,a4]++leB 4 n5) pa2 ca2 Kb2 hs2 (by simp only[Y3,encT_len,leB_len,Y4,Y5];omega) eb (off+2+4) cc Te n6 (hx.at_ 6 rfl) 4 (by decide) (by decide)) rfl rfl) ?_ ?_ ?_
 ·
  rintro _ _ ⟨_,⟨rfl,hno,rfl⟩,rfl⟩;exact ⟨[],⟨rfl,fun ho=>hno (by simp only[fsP,okE,Fld.ok]at ho;first | exact .inl rfl | (right;omega)),rfl⟩,inferInstance⟩
 ·
  rintro _ _ ⟨_,_,⟨rfl,hok3,pa3,ca3,Kb3,hs3,rfl⟩,rfl,rfl⟩;infer_instance
 rintro _ _ ⟨_,_,⟨rfl,hok3,pa3,ca3,Kb3,hs3,rfl⟩,rfl,rfl⟩;refine AnyH.app ?_;refine YD ?_;refine Ends.seq ?_;refine AnyH.start ([(cp,.cells [kP k].toArray 101)]:Hp) 7 rfl ?_;refine zd [0,2,1,1,2,3,3,6,4,6] ?_;refine YA 5 ?_;refine Yw rfl rfl (ef_buildSlice1 (k:=1) rfl rfl rfl rfl rfl) fun b2=>?_
 refine YA 6 ?_;refine Turn.efx rfl rfl (efx_call (tr_twoW k left (bs++encT [a0,a1,a2,a3,a4]++leB 4 n5++leB 4 n6) pa3 ca3 Kb3 hs3 b2 278 [.pointer (some ⟨eb,off+2+5,none⟩)] eb (off+7) cc Te [a7] rfl (hx.ints [.int .i64 a0,.int .i64 a1,.int .i64 a2,.int .i64 a3,.int .i64 a4,.int .u64 (n5:Int),.int .u64 (n6:Int)] rfl) (by intro y hy;simp only[List.mem_cons,List.not_mem_nil,or_false]at hy;unfold RgI;omega) (by simp) (by first | omega | (simp only[List.length_set];omega)) (by simp only[Y3,encT_len,leB_len,Y4,Y5];omega)) rfl rfl) ?_ ?_ ?_
 ·
  rintro _ _ ⟨_,⟨rfl,hno,rfl⟩,rfl⟩;exact ⟨[],⟨rfl,fun ho=>hno (by simp only[fsP,okE,Fld.ok]at ho;intro y hy;simp only[List.mem_cons,List.not_mem_nil,or_false]at hy;omega),rfl⟩,inferInstance⟩
 ·
  rintro _ _ ⟨_,_,⟨rfl,hok4,pa4,ca4,Kb4,hs4,rfl⟩,rfl,rfl⟩;infer_instance
 rintro _ _ ⟨_,_,⟨rfl,hok4,pa4,ca4,Kb4,hs4,rfl⟩,rfl,rfl⟩;refine AnyH.app ?_;refine YD ?_;have hbe:bs++encE fsP [a0,a1,a2,a3,a4,(n5:Int),(n6:Int),a7]=bs++encT [a0,a1,a2,a3,a4]++leB 4 n5++leB 4 n6++encT [a7]:=by simp[fsP,encE,encT,Fld.enc]
 have hoe:okE fsP [a0,a1,a2,a3,a4,(n5:Int),(n6:Int),a7]:=by simp only[fsP,okE,Fld.ok,and_true,true_and];simp only[okT,List.forall_mem_cons,List.not_mem_nil,false_implies,implies_true,and_true]at hok1;simp only[okT,List.forall_mem_cons,List.not_mem_nil,false_implies,implies_true,and_true]at hok4;omega
 rw[hbe];exact Ends.finE (L' := (cp,.cells [kP k].toArray 101)::((k,.cells [.bool false,.pointer (some ⟨k,1,none⟩),.slice pa4 (bs++encT [a0,a1,a2,a3,a4]++leB 4 n5++leB 4 n6++encT [a7]).length ca4,sV left].toArray 107)::(Kb4++[(eb,.cells cc.toArray Te)]))) (res0 rfl) ⟨rfl,hoe,pa4,ca4,Kb4,hs4,rfl⟩
theorem tr_allW3(a0 a1 a2 a3:Int)(hrg:rgE fsM [a0,a1,a2,a3])(hx:Lies cc off (cellsE fsM [a0,a1,a2,a3])):TrE prog 131 [.pointer (some ⟨eb,off,none⟩),.pointer (some ⟨cp,0,none⟩)] ((cp,.cells [kP k].toArray 101)::((k,.cells [.bool false,.pointer (some ⟨k,1,none⟩),.slice pa bs.length ca,sV left].toArray 107)::(Kb++[(eb,.cells cc.toArray Te)]))) (fun u L' => u=.tuple #[]∧okE fsM [a0,a1,a2,a3]∧∃pa' ca' Kb', Slc 5 1 (.slice pa' (bs++encE fsM [a0,a1,a2,a3]).length ca') (bs++encE fsM [a0,a1,a2,a3]).length (bC (bs++encE fsM [a0,a1,a2,a3])) Kb' ∧ L' = (cp,.cells [kP k].toArray 101)::((k,.cells [.bool false,.pointer (some ⟨k,1,none⟩),.slice pa' (bs++encE fsM [a0,a1,a2,a3]).length ca', sV left].toArray 107)::(Kb' ++ [(eb,.cells cc.toArray Te)]))) (fun c L' => c=badC∧¬okE fsM [a0,a1,a2,a3]∧L' = []):=by
 have hrg0:=hrg
 simp only[fsM,rgE,Fld.rg,RgI]at hrg;have hcl:=hx.len (by simp[cellsE,fsM])
 simp only[cellsE,fsM,List.zipWith_cons_cons,List.zipWith_nil_left,Y4,Y5]at hcl;refine YX func131 ntmps131 fun W F=>?_
 refine Wp.seq ?_;refine AnyH.start ([(cp,.cells [kP k].toArray 101)]:Hp) 12 rfl ?_;refine zd [0,2,1,1,2,3,3,6,4,1,5,3,6,6,7,1,8,3,9,6] ?_;refine YA 10 ?_;refine Yw rfl rfl (ef_buildSliceN [.pointer none,.pointer none,.pointer none] [(0,1),(1,1),(2,1)] rfl (by kernel_rfl) (by first | decide | rfl) rfl rfl rfl) fun b1=>?_
 refine YA 11 ?_;refine Turn.efx rfl rfl (efx_call (tr_twoW k left (bs) pa ca Kb hb b1 278 [.pointer (some ⟨eb,off+0,none⟩),.pointer (some ⟨eb,off+1,none⟩),.pointer (some ⟨eb,off+2,none⟩)] eb (off+0) cc Te [a0,a1,a2] rfl (hx.ints [] rfl) (by intro y hy;simp only[List.mem_cons,List.not_mem_nil,or_false]at hy;unfold RgI;omega) (by simp) (by first | omega | (simp only[List.length_set];omega)) (by simp only[Y3,encT_len,leB_len,Y4,Y5];omega)) rfl rfl) ?_ ?_ ?_
 ·
  rintro _ _ ⟨_,⟨rfl,hno,rfl⟩,rfl⟩;exact ⟨[],⟨rfl,fun ho=>hno (by simp only[fsM,okE,Fld.ok]at ho;intro y hy;simp only[List.mem_cons,List.not_mem_nil,or_false]at hy;omega),rfl⟩,inferInstance⟩
 ·
  rintro _ _ ⟨_,_,⟨rfl,hok1,pa1,ca1,Kb1,hs1,rfl⟩,rfl,rfl⟩;infer_instance
 rintro _ _ ⟨_,_,⟨rfl,hok1,pa1,ca1,Kb1,hs1,rfl⟩,rfl,rfl⟩;refine AnyH.app ?_;refine YD ?_;refine Ends.seq ?_;refine AnyH.start ([(cp,.cells [kP k].toArray 101)]:Hp) 5 rfl ?_;refine zd [0,2,1,1,2,3,3,6] ?_;refine YA 4 ?_;refine Turn.efx rfl rfl (efx_call (tr_flagW k left (bs++encT [a0,a1,a2]) pa1 ca1 Kb1 hs1 (by simp only[Y3,encT_len,leB_len,Y4,Y5];omega) eb (off+3) cc Te (decide (a3=1)) (hx.at_ 3 rfl)) rfl rfl) ?_ ?_ ?_
 ·
  rintro _ _ ⟨_,⟨rfl,hno,rfl⟩,rfl⟩;exact absurd hno id
 ·
  rintro _ _ ⟨_,_,⟨rfl,pa2,ca2,Kb2,hs2,rfl⟩,rfl,rfl⟩;infer_instance
 rintro _ _ ⟨_,_,⟨rfl,pa2,ca2,Kb2,hs2,rfl⟩,rfl,rfl⟩;refine AnyH.app ?_;refine YD ?_;have hbe:bs++encE fsM [a0,a1,a2,a3]=bs++encT [a0,a1,a2]++leB 1 (if decide (a3=1)=true then 1 else 0):=by simp[fsM,encE,encT,Fld.enc,flg_enc hrg.2.2.2.1]
 have hoe:okE fsM [a0,a1,a2,a3]:=by simp only[fsM,okE,Fld.ok,and_true,true_and];simp only[okT,List.forall_mem_cons,List.not_mem_nil,false_implies,implies_true,and_true]at hok1;omega
 rw[hbe];exact Ends.finE (L' := (cp,.cells [kP k].toArray 101)::((k,.cells [.bool false,.pointer (some ⟨k,1,none⟩),.slice pa2 (bs++encT [a0,a1,a2]++leB 1 (if decide (a3=1)=true then 1 else 0)).length ca2,sV left].toArray 107)::(Kb2++[(eb,.cells cc.toArray Te)]))) (res0 rfl) ⟨rfl,hoe,pa2,ca2,Kb2,hs2,rfl⟩
theorem tr_allW4(a0 a1 a2:Int)(hrg:rgE fsF [a0,a1,a2])(hx:Lies cc off (cellsE fsF [a0,a1,a2])):TrE prog 134 [.pointer (some ⟨eb,off,none⟩),.pointer (some ⟨cp,0,none⟩)] ((cp,.cells [kP k].toArray 101)::((k,.cells [.bool false,.pointer (some ⟨k,1,none⟩),.slice pa bs.length ca,sV left].toArray 107)::(Kb++[(eb,.cells cc.toArray Te)]))) (fun u L' => u=.tuple #[]∧okE fsF [a0,a1,a2]∧∃pa' ca' Kb', Slc 5 1 (.slice pa' (bs++encE fsF [a0,a1,a2]).length ca') (bs++encE fsF [a0,a1,a2]).length (bC (bs++encE fsF [a0,a1,a2])) Kb' ∧ L' = (cp,.cells [kP k].toArray 101)::((k,.cells [.bool false,.pointer (some ⟨k,1,none⟩),.slice pa' (bs++encE fsF [a0,a1,a2]).length ca', sV left].toArray 107)::(Kb' ++ [(eb,.cells cc.toArray Te)]))) (fun c L' => c=badC∧¬okE fsF [a0,a1,a2]∧L' = []):=by
 have hrg0:=hrg
 simp only[fsF,rgE,Fld.rg,RgI]at hrg;obtain ⟨n2,rfl⟩:∃q:Nat,a2=(q:Int):=⟨a2.toNat,by omega⟩;have hcl:=hx.len (by simp[cellsE,fsF])
 simp only[cellsE,fsF,List.zipWith_cons_cons,List.zipWith_nil_left,Y4,Y5]at hcl;refine YX func134 ntmps134 fun W F=>?_
 refine Wp.seq ?_;refine AnyH.start ([(cp,.cells [kP k].toArray 101)]:Hp) 9 rfl ?_;refine zd [0,2,1,1,2,3,3,6,4,1,5,3,6,6] ?_;refine YA 7 ?_;refine Yw rfl rfl (ef_buildSlice2 rfl rfl rfl rfl rfl rfl) fun b1=>?_
 refine YA 8 ?_;refine Turn.efx rfl rfl (efx_call (tr_twoW k left (bs) pa ca Kb hb b1 278 [.pointer (some ⟨eb,off+0,none⟩),.pointer (some ⟨eb,off+1,none⟩)] eb (off+0) cc Te [a0,a1] rfl (hx.ints [] rfl) (by intro y hy;simp only[List.mem_cons,List.not_mem_nil,or_false]at hy;unfold RgI;omega) (by simp) (by first | omega | (simp only[List.length_set];omega)) (by simp only[Y3,encT_len,leB_len,Y4,Y5];omega)) rfl rfl) ?_ ?_ ?_
 ·
  rintro _ _ ⟨_,⟨rfl,hno,rfl⟩,rfl⟩;exact ⟨[],⟨rfl,fun ho=>hno (by simp only[fsF,okE,Fld.ok]at ho;intro y hy;simp only[List.mem_cons,List.not_mem_nil,or_false]at hy;omega),rfl⟩,inferInstance⟩
 ·
  rintro _ _ ⟨_,_,⟨rfl,hok1,pa1,ca1,Kb1,hs1,rfl⟩,rfl,rfl⟩;infer_instance
 rintro _ _ ⟨_,_,⟨rfl,hok1,pa1,ca1,Kb1,hs1,rfl⟩,rfl,rfl⟩;refine AnyH.app ?_;refine YD ?_;refine Ends.seq ?_;refine AnyH.start ([(cp,.cells [kP k].toArray 101)]:Hp) 5 rfl ?_;refine zd [0,2,1,1,2,3,3,6] ?_;refine YA 4 ?_;refine Turn.efx rfl rfl (efx_call (tr_wordW k left (bs++encT [a0,a1]) pa1 ca1 Kb1 hs1 (by simp only[Y3,encT_len,leB_len,Y4,Y5];omega) eb (off+2) cc Te n2 (hx.at_ 2 rfl) 8 (by decide) (by decide)) rfl rfl) ?_ ?_ ?_
 ·
  rintro _ _ ⟨_,⟨rfl,hno,rfl⟩,rfl⟩;exact ⟨[],⟨rfl,fun ho=>hno (by simp only[fsF,okE,Fld.ok]at ho;first | exact .inl rfl | (right;omega)),rfl⟩,inferInstance⟩
 ·
  rintro _ _ ⟨_,_,⟨rfl,hok2,pa2,ca2,Kb2,hs2,rfl⟩,rfl,rfl⟩;infer_instance
 rintro _ _ ⟨_,_,⟨rfl,hok2,pa2,ca2,Kb2,hs2,rfl⟩,rfl,rfl⟩;refine AnyH.app ?_;refine YD ?_;have hbe:bs++encE fsF [a0,a1,(n2:Int)]=bs++encT [a0,a1]++leB 8 n2:=by simp[fsF,encE,encT,Fld.enc]
 have hoe:okE fsF [a0,a1,(n2:Int)]:=by simp only[fsF,okE,Fld.ok,and_true,true_and];simp only[okT,List.forall_mem_cons,List.not_mem_nil,false_implies,implies_true,and_true]at hok1;omega
 rw[hbe];exact Ends.finE (L' := (cp,.cells [kP k].toArray 101)::((k,.cells [.bool false,.pointer (some ⟨k,1,none⟩),.slice pa2 (bs++encT [a0,a1]++leB 8 n2).length ca2,sV left].toArray 107)::(Kb2++[(eb,.cells cc.toArray Te)]))) (res0 rfl) ⟨rfl,hoe,pa2,ca2,Kb2,hs2,rfl⟩
theorem tr_allW5(a0 a1 a2 a3 a4 a5 a6 a7:Int)(hrg:rgE fsT [a0,a1,a2,a3,a4,a5,a6,a7])(hx:Lies cc off (cellsE fsT [a0,a1,a2,a3,a4,a5,a6,a7])):TrE prog 136 [.pointer (some ⟨eb,off,none⟩),.pointer (some ⟨cp,0,none⟩)] ((cp,.cells [kP k].toArray 101)::((k,.cells [.bool false,.pointer (some ⟨k,1,none⟩),.slice pa bs.length ca,sV left].toArray 107)::(Kb++[(eb,.cells cc.toArray Te)]))) (fun u L' => u=.tuple #[]∧okE fsT [a0,a1,a2,a3,a4,a5,a6,a7]∧∃pa' ca' Kb', Slc 5 1 (.slice pa' (bs++encE fsT [a0,a1,a2,a3,a4,a5,a6,a7]).length ca') (bs++encE fsT [a0,a1,a2,a3,a4,a5,a6,a7]).length (bC (bs++encE fsT [a0,a1,a2,a3,a4,a5,a6,a7])) Kb' ∧ L' = (cp,.cells [kP k].toArray 101)::((k,.cells [.bool false,.pointer (some ⟨k,1,none⟩),.slice pa' (bs++encE fsT [a0,a1,a2,a3,a4,a5,a6,a7]).length ca', sV left].toArray 107)::(Kb' ++ [(eb,.cells cc.toArray Te)]))) (fun c L' => c=badC∧¬okE fsT [a0,a1,a2,a3,a4,a5,a6,a7]∧L' = []):=by
 have hrg0:=hrg
 simp only[fsT,rgE,Fld.rg,RgI]at hrg;obtain ⟨n5,rfl⟩:∃q:Nat,a5=(q:Int):=⟨a5.toNat,by omega⟩;have h7:=hx.at_ 7 rfl
 have h7l:=nth_lt h7
 have hx8:Lies (cc.set (off+7) (.int .i64 (a7+1))) (off+7) (intC [a7+1]++[]):=fun j v hv=>by
  match j,hv with
  | 0,hv=>cases hv;exact nth_set h7l
 have hcl:=hx.len (by simp[cellsE,fsT])
 simp only[cellsE,fsT,List.zipWith_cons_cons,List.zipWith_nil_left,Y4,Y5]at hcl;refine YX func136 ntmps136 fun W F=>?_
 refine Wp.seq ?_;refine AnyH.start ([(cp,.cells [kP k].toArray 101)]:Hp) 18 rfl ?_;refine zd [0,2,1,1,2,3,3,6,4,1,5,3,6,6,7,1,8,3,9,6,10,1,11,3,12,6,13,1,14,3,15,6] ?_;refine YA 16 ?_;refine Yw rfl rfl (ef_buildSliceN [.pointer none,.pointer none,.pointer none,.pointer none,.pointer none] [(0,1),(1,1),(2,1),(3,1),(4,1)] rfl (by kernel_rfl) (by first | decide | rfl) rfl rfl rfl) fun b1=>?_
 refine YA 17 ?_;refine Turn.efx rfl rfl (efx_call (tr_twoW k left (bs) pa ca Kb hb b1 278 [.pointer (some ⟨eb,off+0,none⟩),.pointer (some ⟨eb,off+1,none⟩),.pointer (some ⟨eb,off+2,none⟩),.pointer (some ⟨eb,off+3,none⟩),.pointer (some ⟨eb,off+4,none⟩)] eb (off+0) cc Te [a0,a1,a2,a3,a4] rfl (hx.ints [] rfl) (by intro y hy;simp only[List.mem_cons,List.not_mem_nil,or_false]at hy;unfold RgI;omega) (by simp) (by first | omega | (simp only[List.length_set];omega)) (by simp only[Y3,encT_len,leB_len,Y4,Y5];omega)) rfl rfl) ?_ ?_ ?_
 ·
  rintro _ _ ⟨_,⟨rfl,hno,rfl⟩,rfl⟩;exact ⟨[],⟨rfl,fun ho=>hno (by simp only[fsT,okE,Fld.ok]at ho;intro y hy;simp only[List.mem_cons,List.not_mem_nil,or_false]at hy;omega),rfl⟩,inferInstance⟩
 ·
  rintro _ _ ⟨_,_,⟨rfl,hok1,pa1,ca1,Kb1,hs1,rfl⟩,rfl,rfl⟩;infer_instance
 rintro _ _ ⟨_,_,⟨rfl,hok1,pa1,ca1,Kb1,hs1,rfl⟩,rfl,rfl⟩;refine AnyH.app ?_;refine YD ?_;refine zq [5,3] ?_;refine AnyH.start ([(cp,.cells [kP k].toArray 101)]:Hp) 5 rfl ?_;refine zd [0,2,1,1,2,3,3,6] ?_;refine YA 4 ?_;refine Turn.efx rfl rfl (efx_call (tr_wordW k left (bs++encT [a0,a1,a2,a3,a4]) pa1 ca1 Kb1 hs1 (by simp only[Y3,encT_len,leB_len,Y4,Y5];omega) eb (off+5) cc Te n5 (hx.at_ 5 rfl) 4 (by decide) (by decide)) rfl rfl) ?_ ?_ ?_
 ·
  rintro _ _ ⟨_,⟨rfl,hno,rfl⟩,rfl⟩;exact ⟨[],⟨rfl,fun ho=>hno (by simp only[fsT,okE,Fld.ok]at ho;first | exact .inl rfl | (right;omega)),rfl⟩,inferInstance⟩
 ·
  rintro _ _ ⟨_,_,⟨rfl,hok2,pa2,ca2,Kb2,hs2,rfl⟩,rfl,rfl⟩;infer_instance
 rintro _ _ ⟨_,_,⟨rfl,hok2,pa2,ca2,Kb2,hs2,rfl⟩,rfl,rfl⟩;refine AnyH.app ?_;refine YD ?_;refine zq [5,3] ?_;refine AnyH.start ([(cp,.cells [kP k].toArray 101)]:Hp) 6 rfl ?_;refine zd [0,2,1,1,2,3,3,6] ?_;refine YA 4 ?_;refine Yw rfl rfl (ef_buildSlice1 (k:=1) rfl rfl rfl rfl rfl) fun b2=>?_
 refine YA 5 ?_;refine Turn.efx rfl rfl (efx_call (tr_twoW k left (bs++encT [a0,a1,a2,a3,a4]++leB 4 n5) pa2 ca2 Kb2 hs2 b2 278 [.pointer (some ⟨eb,off+6,none⟩)] eb (off+6) cc Te [a6] rfl (hx.ints [.int .i64 a0,.int .i64 a1,.int .i64 a2,.int .i64 a3,.int .i64 a4,.int .u64 (n5:Int)] rfl) (by intro y hy;simp only[List.mem_cons,List.not_mem_nil,or_false]at hy;unfold RgI;omega) (by simp) (by first | omega | (simp only[List.length_set];omega)) (by simp only[Y3,encT_len,leB_len,Y4,Y5];omega)) rfl rfl) ?_ ?_ ?_
 ·
  rintro _ _ ⟨_,⟨rfl,hno,rfl⟩,rfl⟩;exact ⟨[],⟨rfl,fun ho=>hno (by simp only[fsT,okE,Fld.ok]at ho;intro y hy;simp only[List.mem_cons,List.not_mem_nil,or_false]at hy;omega),rfl⟩,inferInstance⟩
 ·
  rintro _ _ ⟨_,_,⟨rfl,hok3,pa3,ca3,Kb3,hs3,rfl⟩,rfl,rfl⟩;infer_instance
 rintro _ _ ⟨_,_,⟨rfl,hok3,pa3,ca3,Kb3,hs3,rfl⟩,rfl,rfl⟩;refine AnyH.app ?_;refine YD ?_;refine zq [5,3,3,4,0,9,61] ?_;refine Yp (pv_load rfl rfl (hx.at_ 7 rfl)) ?_;refine zq [44,2,5] ?_;refine Yd rfl (fun h1=>?_) (fun h1=>?_)
 ·
  refine zq [4,23,74] ?_;exact Ops.panic rfl ⟨[],⟨rfl,fun ho=>by simp only[fsT,okE,Fld.ok]at ho;omega,rfl⟩,inferInstance⟩
 have h7r:a7≤65534:=by omega
 refine zq [11,5,3,4,0,9,61] ?_;refine Yp (pv_load rfl rfl (hx.at_ 7 rfl)) ?_;refine Yp (pv_add rfl rfl (r:=a7+1) (w64 (by omega) (by omega))) ?_;refine zq [9,61] ?_;refine Yo (ef_store1 (hset:=setL_set h7l) rfl rfl rfl rfl) ?_;refine zq [2,5,3] ?_;refine AnyH.start ([(cp,.cells [kP k].toArray 101)]:Hp) 6 rfl ?_;refine zd [0,2,1,1,2,3,3,6] ?_;refine YA 4 ?_;refine Yw rfl rfl (ef_buildSlice1 (k:=1) rfl rfl rfl rfl rfl) fun b3=>?_
 refine YA 5 ?_;refine Turn.efx rfl rfl (efx_call (tr_twoW k left (bs++encT [a0,a1,a2,a3,a4]++leB 4 n5++encT [a6]) pa3 ca3 Kb3 hs3 b3 278 [.pointer (some ⟨eb,off+7,none⟩)] eb (off+7) (cc.set (off+7) (.int .i64 (a7+1))) Te [a7+1] rfl (hx8.ints [] rfl) (by intro y hy;simp only[List.mem_cons,List.not_mem_nil,or_false]at hy;unfold RgI;omega) (by simp) (by first | omega | (simp only[List.length_set];omega)) (by simp only[Y3,encT_len,leB_len,Y4,Y5];omega)) rfl rfl) ?_ ?_ ?_
 ·
  rintro _ _ ⟨_,⟨rfl,hno,rfl⟩,rfl⟩;exact ⟨[],⟨rfl,fun ho=>hno (by simp only[fsT,okE,Fld.ok]at ho;intro y hy;simp only[List.mem_cons,List.not_mem_nil,or_false]at hy;omega),rfl⟩,inferInstance⟩
 ·
  rintro _ _ ⟨_,_,⟨rfl,hok4,pa4,ca4,Kb4,hs4,rfl⟩,rfl,rfl⟩;infer_instance
 rintro _ _ ⟨_,_,⟨rfl,hok4,pa4,ca4,Kb4,hs4,rfl⟩,rfl,rfl⟩;refine AnyH.app ?_;refine YD ?_;refine zq [5,4,0,9,61] ?_;refine Yp (pv_load rfl rfl (nth_set h7l)) ?_;refine Yp (pv_sub rfl rfl (r:=a7) (by rw[show a7+1-1=a7 by omega];exact w64 (by omega) (by omega))) ?_;refine zq [9,61] ?_;refine Yo (ef_store1 (hset:=setL_set2s h7 h7l) rfl rfl rfl rfl) ?_;refine Ops.nil ?_;have hbe:bs++encE fsT [a0,a1,a2,a3,a4,(n5:Int),a6,a7]=bs++encT [a0,a1,a2,a3,a4]++leB 4 n5++encT [a6]++encT [a7+1]:=by simp[fsT,encE,encT,Fld.enc]
 have hoe:okE fsT [a0,a1,a2,a3,a4,(n5:Int),a6,a7]:=by simp only[fsT,okE,Fld.ok,and_true,true_and];simp only[okT,List.forall_mem_cons,List.not_mem_nil,false_implies,implies_true,and_true]at hok1;simp only[okT,List.forall_mem_cons,List.not_mem_nil,false_implies,implies_true,and_true]at hok3;simp only[okT,List.forall_mem_cons,List.not_mem_nil,false_implies,implies_true,and_true]at hok4;omega
 rw[hbe];exact Ends.finE (L' := (cp,.cells [kP k].toArray 101)::((k,.cells [.bool false,.pointer (some ⟨k,1,none⟩),.slice pa4 (bs++encT [a0,a1,a2,a3,a4]++leB 4 n5++encT [a6]++encT [a7+1]).length ca4,sV left].toArray 107)::(Kb4++[(eb,.cells cc.toArray Te)]))) (res0 rfl) ⟨rfl,hoe,pa4,ca4,Kb4,hs4,rfl⟩
theorem tr_allW6(a0 a1 a2 a3:Int)(hrg:rgE fsW [a0,a1,a2,a3])(hx:Lies cc off (cellsE fsW [a0,a1,a2,a3])):TrE prog 138 [.pointer (some ⟨eb,off,none⟩),.pointer (some ⟨cp,0,none⟩)] ((cp,.cells [kP k].toArray 101)::((k,.cells [.bool false,.pointer (some ⟨k,1,none⟩),.slice pa bs.length ca,sV left].toArray 107)::(Kb++[(eb,.cells cc.toArray Te)]))) (fun u L' => u=.tuple #[]∧okE fsW [a0,a1,a2,a3]∧∃pa' ca' Kb', Slc 5 1 (.slice pa' (bs++encE fsW [a0,a1,a2,a3]).length ca') (bs++encE fsW [a0,a1,a2,a3]).length (bC (bs++encE fsW [a0,a1,a2,a3])) Kb' ∧ L' = (cp,.cells [kP k].toArray 101)::((k,.cells [.bool false,.pointer (some ⟨k,1,none⟩),.slice pa' (bs++encE fsW [a0,a1,a2,a3]).length ca', sV left].toArray 107)::(Kb' ++ [(eb,.cells cc.toArray Te)]))) (fun c L' => c=badC∧¬okE fsW [a0,a1,a2,a3]∧L' = []):=by
 have hrg0:=hrg
 simp only[fsW,rgE,Fld.rg,RgI]at hrg;obtain ⟨n3,rfl⟩:∃q:Nat,a3=(q:Int):=⟨a3.toNat,by omega⟩;have hcl:=hx.len (by simp[cellsE,fsW])
 simp only[cellsE,fsW,List.zipWith_cons_cons,List.zipWith_nil_left,Y4,Y5]at hcl;refine YX func138 ntmps138 fun W F=>?_
 refine Wp.seq ?_;refine AnyH.start ([(cp,.cells [kP k].toArray 101)]:Hp) 12 rfl ?_;refine zd [0,2,1,1,2,3,3,6,4,1,5,3,6,6,7,1,8,3,9,6] ?_;refine YA 10 ?_;refine Yw rfl rfl (ef_buildSliceN [.pointer none,.pointer none,.pointer none] [(0,1),(1,1),(2,1)] rfl (by kernel_rfl) (by first | decide | rfl) rfl rfl rfl) fun b1=>?_
 refine YA 11 ?_;refine Turn.efx rfl rfl (efx_call (tr_twoW k left (bs) pa ca Kb hb b1 278 [.pointer (some ⟨eb,off+0,none⟩),.pointer (some ⟨eb,off+1,none⟩),.pointer (some ⟨eb,off+2,none⟩)] eb (off+0) cc Te [a0,a1,a2] rfl (hx.ints [] rfl) (by intro y hy;simp only[List.mem_cons,List.not_mem_nil,or_false]at hy;unfold RgI;omega) (by simp) (by first | omega | (simp only[List.length_set];omega)) (by simp only[Y3,encT_len,leB_len,Y4,Y5];omega)) rfl rfl) ?_ ?_ ?_
 ·
  rintro _ _ ⟨_,⟨rfl,hno,rfl⟩,rfl⟩;exact ⟨[],⟨rfl,fun ho=>hno (by simp only[fsW,okE,Fld.ok]at ho;intro y hy;simp only[List.mem_cons,List.not_mem_nil,or_false]at hy;omega),rfl⟩,inferInstance⟩
 ·
  rintro _ _ ⟨_,_,⟨rfl,hok1,pa1,ca1,Kb1,hs1,rfl⟩,rfl,rfl⟩;infer_instance
 rintro _ _ ⟨_,_,⟨rfl,hok1,pa1,ca1,Kb1,hs1,rfl⟩,rfl,rfl⟩;refine AnyH.app ?_;refine YD ?_;refine Ends.seq ?_;refine AnyH.start ([(cp,.cells [kP k].toArray 101)]:Hp) 5 rfl ?_;refine zd [0,2,1,1,2,3,3,6] ?_;refine YA 4 ?_;refine Turn.efx rfl rfl (efx_call (tr_wordW k left (bs++encT [a0,a1,a2]) pa1 ca1 Kb1 hs1 (by simp only[Y3,encT_len,leB_len,Y4,Y5];omega) eb (off+3) cc Te n3 (hx.at_ 3 rfl) 4 (by decide) (by decide)) rfl rfl) ?_ ?_ ?_
 ·
  rintro _ _ ⟨_,⟨rfl,hno,rfl⟩,rfl⟩;exact ⟨[],⟨rfl,fun ho=>hno (by simp only[fsW,okE,Fld.ok]at ho;first | exact .inl rfl | (right;omega)),rfl⟩,inferInstance⟩
 ·
  rintro _ _ ⟨_,_,⟨rfl,hok2,pa2,ca2,Kb2,hs2,rfl⟩,rfl,rfl⟩;infer_instance
 rintro _ _ ⟨_,_,⟨rfl,hok2,pa2,ca2,Kb2,hs2,rfl⟩,rfl,rfl⟩;refine AnyH.app ?_;refine YD ?_;have hbe:bs++encE fsW [a0,a1,a2,(n3:Int)]=bs++encT [a0,a1,a2]++leB 4 n3:=by simp[fsW,encE,encT,Fld.enc]
 have hoe:okE fsW [a0,a1,a2,(n3:Int)]:=by simp only[fsW,okE,Fld.ok,and_true,true_and];simp only[okT,List.forall_mem_cons,List.not_mem_nil,false_implies,implies_true,and_true]at hok1;omega
 rw[hbe];exact Ends.finE (L' := (cp,.cells [kP k].toArray 101)::((k,.cells [.bool false,.pointer (some ⟨k,1,none⟩),.slice pa2 (bs++encT [a0,a1,a2]++leB 4 n3).length ca2,sV left].toArray 107)::(Kb2++[(eb,.cells cc.toArray Te)]))) (res0 rfl) ⟨rfl,hoe,pa2,ca2,Kb2,hs2,rfl⟩
theorem tr_allW7(a0 a1:Int)(hrg:rgE fsS [a0,a1])(hx:Lies cc off (cellsE fsS [a0,a1])):TrE prog 140 [.pointer (some ⟨eb,off,none⟩),.pointer (some ⟨cp,0,none⟩)] ((cp,.cells [kP k].toArray 101)::((k,.cells [.bool false,.pointer (some ⟨k,1,none⟩),.slice pa bs.length ca,sV left].toArray 107)::(Kb++[(eb,.cells cc.toArray Te)]))) (fun u L' => u=.tuple #[]∧okE fsS [a0,a1]∧∃pa' ca' Kb', Slc 5 1 (.slice pa' (bs++encE fsS [a0,a1]).length ca') (bs++encE fsS [a0,a1]).length (bC (bs++encE fsS [a0,a1])) Kb' ∧ L' = (cp,.cells [kP k].toArray 101)::((k,.cells [.bool false,.pointer (some ⟨k,1,none⟩),.slice pa' (bs++encE fsS [a0,a1]).length ca', sV left].toArray 107)::(Kb' ++ [(eb,.cells cc.toArray Te)]))) (fun c L' => c=badC∧¬okE fsS [a0,a1]∧L' = []):=by
 have hrg0:=hrg
 simp only[fsS,rgE,Fld.rg,RgI]at hrg;have hcl:=hx.len (by simp[cellsE,fsS])
 simp only[cellsE,fsS,List.zipWith_cons_cons,List.zipWith_nil_left,Y4,Y5]at hcl;refine YX func140 ntmps140 fun W F=>?_
 refine AnyH.start ([(cp,.cells [kP k].toArray 101)]:Hp) 9 rfl ?_;refine zd [0,2,1,1,2,3,3,6,4,1,5,3,6,6] ?_;refine YA 7 ?_;refine Yw rfl rfl (ef_buildSlice2 rfl rfl rfl rfl rfl rfl) fun b1=>?_
 refine YA 8 ?_;refine Turn.efx rfl rfl (efx_call (tr_twoW k left (bs) pa ca Kb hb b1 278 [.pointer (some ⟨eb,off+0,none⟩),.pointer (some ⟨eb,off+1,none⟩)] eb (off+0) cc Te [a0,a1] rfl (hx.ints [] rfl) (by intro y hy;simp only[List.mem_cons,List.not_mem_nil,or_false]at hy;unfold RgI;omega) (by simp) (by first | omega | (simp only[List.length_set];omega)) (by simp only[Y3,encT_len,leB_len,Y4,Y5];omega)) rfl rfl) ?_ ?_ ?_
 ·
  rintro _ _ ⟨_,⟨rfl,hno,rfl⟩,rfl⟩;exact ⟨[],⟨rfl,fun ho=>hno (by simp only[fsS,okE,Fld.ok]at ho;intro y hy;simp only[List.mem_cons,List.not_mem_nil,or_false]at hy;omega),rfl⟩,inferInstance⟩
 ·
  rintro _ _ ⟨_,_,⟨rfl,hok1,pa1,ca1,Kb1,hs1,rfl⟩,rfl,rfl⟩;infer_instance
 rintro _ _ ⟨_,_,⟨rfl,hok1,pa1,ca1,Kb1,hs1,rfl⟩,rfl,rfl⟩;refine AnyH.app ?_;refine YD ?_;have hbe:bs++encE fsS [a0,a1]=bs++encT [a0,a1]:=by simp[fsS,encE,encT,Fld.enc]
 have hoe:okE fsS [a0,a1]:=by simp only[fsS,okE,Fld.ok,and_true,true_and];simp only[okT,List.forall_mem_cons,List.not_mem_nil,false_implies,implies_true,and_true]at hok1;omega
 rw[hbe];exact Ends.finE (L' := (cp,.cells [kP k].toArray 101)::((k,.cells [.bool false,.pointer (some ⟨k,1,none⟩),.slice pa1 (bs++encT [a0,a1]).length ca1,sV left].toArray 107)::(Kb1++[(eb,.cells cc.toArray Te)]))) (res0 rfl) ⟨rfl,hoe,pa1,ca1,Kb1,hs1,rfl⟩
end
end
section
section
variable(cp:Nat)(k:Nat)(adr bv:Value)(left:List UInt8)(hl:left.length≤2^40)(h1b:bv.oneCell' = true)(h1a:adr.oneCell' = true)(eb off:Nat)(cc:List Value)(Te:TypeId)
include cp k adr bv left hl h1b h1a eb off cc Te
theorem tr_allR1(hx:Lies cc off (cellsE fsO [0,0,0])):TrE prog 125 [.pointer (some ⟨eb,off,none⟩),.pointer (some ⟨cp,0,none⟩)] ((cp,.cells [kP k].toArray 101)::((k,.cells [.bool true,adr,bv,sV left].toArray 107)::[(eb,.cells cc.toArray Te)])) (fun u L' => u=.tuple #[]∧∃e' left', rdE fsO left=some (e', left')∧L' = (cp,.cells [kP k].toArray 101)::((k,.cells [.bool true,adr,bv,sV left'].toArray 107)::[(eb,.cells (setAt cc off (cellsE fsO e')).toArray Te)])) (fun c L' => c=badC∧rdE fsO left=none∧L' = []):=by
 have hcl:=hx.len (by simp[cellsE,fsO])
 simp only[cellsE,fsO,List.zipWith_cons_cons,List.zipWith_nil_left,Y4,Y5]at hcl;refine YX func125 ntmps125 fun W F=>?_
 refine Wp.seq ?_;refine AnyH.start ([(cp,.cells [kP k].toArray 101)]:Hp) 12 rfl ?_;refine zd [0,2,1,1,2,3,3,6,4,1,5,3,6,6,7,1,8,3,9,6] ?_;refine YA 10 ?_;refine Yw rfl rfl (ef_buildSliceN [.pointer none,.pointer none,.pointer none] [(0,1),(1,1),(2,1)] rfl (by kernel_rfl) (by first | decide | rfl) rfl rfl rfl) fun b1=>?_
 refine YA 11 ?_;refine Turn.efx rfl rfl (efx_call (tr_twoR k adr bv left (by (try simp only[Y6]);omega) h1b h1a b1 278 [.pointer (some ⟨eb,off+0,none⟩),.pointer (some ⟨eb,off+1,none⟩),.pointer (some ⟨eb,off+2,none⟩)] eb (off+0) cc Te ([0,0,0]:List Int) rfl (hx.ints [] rfl) (by intro y hy;simp only[List.mem_cons,List.not_mem_nil,or_false]at hy;unfold RgI;omega) (by simp) (by omega)) rfl rfl) ?_ ?_ ?_
 ·
  rintro _ _ ⟨_,⟨rfl,hno,rfl⟩,rfl⟩;exact ⟨[],⟨rfl,(rdE_short (by simp only[widE,fsO,Fld.wid,List.map_cons,List.map_nil,List.sum_cons,List.sum_nil];(try simp only[Y6,Y4,Y5]at hno);omega)),rfl⟩,inferInstance⟩
 ·
  rintro _ _ ⟨_,_,⟨rfl,hl1,rfl⟩,rfl,rfl⟩;infer_instance
 rintro _ _ ⟨_,_,⟨rfl,hl1,rfl⟩,rfl,rfl⟩;refine AnyH.app ?_
 (try simp only[Y6,Y4,Y5]at hl1)
 rw[show (left.drop (2*([0,0,0]:List Int).length))=(((left.drop 2).drop 2).drop 2) by simp[List.drop_drop]];refine YD ?_;refine zq [5,3,4,0,9,61] ?_;refine Yp (pv_load rfl rfl (nth_setAt_in (j:=2) (by omega) rfl)) ?_;refine zq [43,2,5] ?_;refine Yd rfl (fun h1=>?_) (fun h1=>?_)
 ·
  refine zq [4,23,74] ?_;exact Ops.panic rfl ⟨[],⟨rfl,(rdE_none (rdF_of (s:=left) (by simp only[Y6,Fld.wid];omega) rfl) (rdE_none (rdF_of (s:=(left.drop 2)) (by simp only[Y6,Fld.wid];omega) rfl) (rdE_none' (rdF_bad (s:=((left.drop 2).drop 2)) (by simp only[Y6,Fld.wid];omega) (if_neg (by simp only[Fld.wid];omega)))))),rfl⟩,inferInstance⟩
 refine Wp.skip ?_;have hc:(setAt cc (off+0) (intC (rdTw ([0,0,0]:List Int).length left)))=setAt cc off (cellsE fsO [((leV (left.take 2):Nat):Int),((leV ((left.drop 2).take 2):Nat):Int),((leV (((left.drop 2).drop 2).take 2):Nat):Int)]):=rfl
 have hr:rdE fsO left=some ([((leV (left.take 2):Nat):Int),((leV ((left.drop 2).take 2):Nat):Int),((leV (((left.drop 2).drop 2).take 2):Nat):Int)],(((left.drop 2).drop 2).drop 2)):=(rdE_some (rdF_of (s:=left) (by simp only[Y6,Fld.wid];omega) rfl) (rdE_some (rdF_of (s:=(left.drop 2)) (by simp only[Y6,Fld.wid];omega) rfl) (rdE_some (rdF_of (s:=((left.drop 2).drop 2)) (by simp only[Y6,Fld.wid];omega) (if_pos (by simp only[Fld.wid];omega))) rfl)))
 rw[hc];exact Ends.finE (L' := (cp,.cells [kP k].toArray 101)::((k,.cells [.bool true,adr,bv,sV (((left.drop 2).drop 2).drop 2)].toArray 107)::[(eb,.cells (setAt cc off (cellsE fsO [((leV (left.take 2):Nat):Int),((leV ((left.drop 2).take 2):Nat):Int),((leV (((left.drop 2).drop 2).take 2):Nat):Int)])).toArray Te)])) (res0 rfl) ⟨rfl,_,_,hr,rfl⟩
theorem tr_allR2(hx:Lies cc off (cellsE fsP [0,0,0,0,0,0,0,0])):TrE prog 128 [.pointer (some ⟨eb,off,none⟩),.pointer (some ⟨cp,0,none⟩)] ((cp,.cells [kP k].toArray 101)::((k,.cells [.bool true,adr,bv,sV left].toArray 107)::[(eb,.cells cc.toArray Te)])) (fun u L' => u=.tuple #[]∧∃e' left', rdE fsP left=some (e', left')∧L' = (cp,.cells [kP k].toArray 101)::((k,.cells [.bool true,adr,bv,sV left'].toArray 107)::[(eb,.cells (setAt cc off (cellsE fsP e')).toArray Te)])) (fun c L' => c=badC∧rdE fsP left=none∧L' = []):=by
 have hcl:=hx.len (by simp[cellsE,fsP])
 simp only[cellsE,fsP,List.zipWith_cons_cons,List.zipWith_nil_left,Y4,Y5]at hcl;refine YX func128 ntmps128 fun W F=>?_
 refine Wp.seq ?_;refine AnyH.start ([(cp,.cells [kP k].toArray 101)]:Hp) 23 rfl ?_;refine zd [0,2,1,1,2,3,3,6,4,6,5,1,6,3,7,6,8,6,9,1,10,3,11,6,12,6,13,1,14,3,15,6,16,6,17,1,18,3,19,6,20,6] ?_;refine YA 21 ?_;refine Yw rfl rfl (ef_buildSliceN [.pointer none,.pointer none,.pointer none,.pointer none,.pointer none] [(0,1),(1,1),(2,1),(3,1),(4,1)] rfl (by kernel_rfl) (by first | decide | rfl) rfl rfl rfl) fun b1=>?_
 refine YA 22 ?_;refine Turn.efx rfl rfl (efx_call (tr_twoR k adr bv left (by (try simp only[Y6]);omega) h1b h1a b1 278 [.pointer (some ⟨eb,off+0+0,none⟩),.pointer (some ⟨eb,off+0+1,none⟩),.pointer (some ⟨eb,off+2+0,none⟩),.pointer (some ⟨eb,off+2+1,none⟩),.pointer (some ⟨eb,off+2+2,none⟩)] eb (off+0) cc Te ([0,0,0,0,0]:List Int) rfl (hx.ints [] rfl) (by intro y hy;simp only[List.mem_cons,List.not_mem_nil,or_false]at hy;unfold RgI;omega) (by simp) (by omega)) rfl rfl) ?_ ?_ ?_
 ·
  rintro _ _ ⟨_,⟨rfl,hno,rfl⟩,rfl⟩;exact ⟨[],⟨rfl,(rdE_short (by simp only[widE,fsP,Fld.wid,List.map_cons,List.map_nil,List.sum_cons,List.sum_nil];(try simp only[Y6,Y4,Y5]at hno);omega)),rfl⟩,inferInstance⟩
 ·
  rintro _ _ ⟨_,_,⟨rfl,hl1,rfl⟩,rfl,rfl⟩;infer_instance
 rintro _ _ ⟨_,_,⟨rfl,hl1,rfl⟩,rfl,rfl⟩;refine AnyH.app ?_
 (try simp only[Y6,Y4,Y5]at hl1)
 rw[show (left.drop (2*([0,0,0,0,0]:List Int).length))=(((((left.drop 2).drop 2).drop 2).drop 2).drop 2) by simp[List.drop_drop]];refine YD ?_;refine zq [5,3] ?_;refine AnyH.start ([(cp,.cells [kP k].toArray 101)]:Hp) 6 rfl ?_;refine zd [0,2,1,1,2,3,3,6,4,6] ?_;refine YA 5 ?_;refine Turn.efx rfl rfl (efx_call (tr_wordR k adr bv (((((left.drop 2).drop 2).drop 2).drop 2).drop 2) (by (try simp only[Y6]);omega) h1b h1a eb (off+2+3) (setAt cc (off+0) (intC (rdTw ([0,0,0,0,0]:List Int).length left))) Te 0 (by rw[nth_setAt (Nat.le_trans (m:=cc.length) (by simp only[intC_len,rdTw_len,Y4,Y5];omega) (Nat.le_of_eq (Eq.symm rfl))) (by simp only[intC_len,rdTw_len,Y4,Y5];omega)];exact hx.at_ 5 rfl) 4 (by decide) (by decide)) rfl rfl) ?_ ?_ ?_
 ·
  rintro _ _ ⟨_,⟨rfl,hno,rfl⟩,rfl⟩;exact ⟨[],⟨rfl,(rdE_short (by simp only[widE,fsP,Fld.wid,List.map_cons,List.map_nil,List.sum_cons,List.sum_nil];(try simp only[Y6,Y4,Y5]at hno);omega)),rfl⟩,inferInstance⟩
 ·
  rintro _ _ ⟨_,_,⟨rfl,hl2,rfl⟩,rfl,rfl⟩;infer_instance
 rintro _ _ ⟨_,_,⟨rfl,hl2,rfl⟩,rfl,rfl⟩;refine AnyH.app ?_
 (try simp only[Y6]at hl2)
 refine YD ?_;refine zq [5,3] ?_;refine AnyH.start ([(cp,.cells [kP k].toArray 101)]:Hp) 6 rfl ?_;refine zd [0,2,1,1,2,3,3,6,4,6] ?_;refine YA 5 ?_;refine Turn.efx rfl rfl (efx_call (tr_wordR k adr bv ((((((left.drop 2).drop 2).drop 2).drop 2).drop 2).drop 4) (by (try simp only[Y6]);omega) h1b h1a eb (off+2+4) ((setAt cc (off+0) (intC (rdTw ([0,0,0,0,0]:List Int).length left))).set (off+2+3) (.int .u64 (leV ((((((left.drop 2).drop 2).drop 2).drop 2).drop 2).take 4):Nat))) Te 0 (by rw[nth_set_ne (by omega),nth_setAt (Nat.le_trans (m:=cc.length) (by simp only[intC_len,rdTw_len,Y4,Y5];omega) (Nat.le_of_eq (Eq.symm rfl))) (by simp only[intC_len,rdTw_len,Y4,Y5];omega)];exact hx.at_ 6 rfl) 4 (by decide) (by decide)) rfl rfl) ?_ ?_ ?_
 ·
  rintro _ _ ⟨_,⟨rfl,hno,rfl⟩,rfl⟩;exact ⟨[],⟨rfl,(rdE_short (by simp only[widE,fsP,Fld.wid,List.map_cons,List.map_nil,List.sum_cons,List.sum_nil];(try simp only[Y6,Y4,Y5]at hno);omega)),rfl⟩,inferInstance⟩
 ·
  rintro _ _ ⟨_,_,⟨rfl,hl3,rfl⟩,rfl,rfl⟩;infer_instance
 rintro _ _ ⟨_,_,⟨rfl,hl3,rfl⟩,rfl,rfl⟩;refine AnyH.app ?_
 (try simp only[Y6]at hl3)
 refine YD ?_;refine Ends.seq ?_;refine AnyH.start ([(cp,.cells [kP k].toArray 101)]:Hp) 7 rfl ?_;refine zd [0,2,1,1,2,3,3,6,4,6] ?_;refine YA 5 ?_;refine Yw rfl rfl (ef_buildSlice1 (k:=1) rfl rfl rfl rfl rfl) fun b2=>?_
 refine YA 6 ?_;refine Turn.efx rfl rfl (efx_call (tr_twoR k adr bv (((((((left.drop 2).drop 2).drop 2).drop 2).drop 2).drop 4).drop 4) (by (try simp only[Y6]);omega) h1b h1a b2 278 [.pointer (some ⟨eb,off+2+5,none⟩)] eb (off+7) (((setAt cc (off+0) (intC (rdTw ([0,0,0,0,0]:List Int).length left))).set (off+2+3) (.int .u64 (leV ((((((left.drop 2).drop 2).drop 2).drop 2).drop 2).take 4):Nat))).set (off+2+4) (.int .u64 (leV (((((((left.drop 2).drop 2).drop 2).drop 2).drop 2).drop 4).take 4):Nat))) Te ([0]:List Int) rfl (one_hcc (by rw[nth_set_ne (by omega),nth_set_ne (by omega),nth_setAt (Nat.le_trans (m:=cc.length) (by simp only[intC_len,rdTw_len,Y4,Y5];omega) (Nat.le_of_eq (Eq.symm rfl))) (by simp only[intC_len,rdTw_len,Y4,Y5];omega)];exact hx.at_ 7 rfl)) (by intro y hy;simp only[List.mem_cons,List.not_mem_nil,or_false]at hy;unfold RgI;omega) (by simp) (Nat.le_trans (m:=cc.length) (by omega) (Nat.le_of_eq (Eq.symm (len_set' (len_set' (len_setAt' (k:=5) rfl (by simp only[Y3,intC_len,rdTw_len,Y4,Y5]) (by omega)))))))) rfl rfl) ?_ ?_ ?_
 ·
  rintro _ _ ⟨_,⟨rfl,hno,rfl⟩,rfl⟩;exact ⟨[],⟨rfl,(rdE_short (by simp only[widE,fsP,Fld.wid,List.map_cons,List.map_nil,List.sum_cons,List.sum_nil];(try simp only[Y6,Y4,Y5]at hno);omega)),rfl⟩,inferInstance⟩
 ·
  rintro _ _ ⟨_,_,⟨rfl,hl4,rfl⟩,rfl,rfl⟩;infer_instance
 rintro _ _ ⟨_,_,⟨rfl,hl4,rfl⟩,rfl,rfl⟩;refine AnyH.app ?_
 (try simp only[Y6,Y4,Y5]at hl4)
 rw[show ((((((((left.drop 2).drop 2).drop 2).drop 2).drop 2).drop 4).drop 4).drop (2*([0]:List Int).length))=((((((((left.drop 2).drop 2).drop 2).drop 2).drop 2).drop 4).drop 4).drop 2) by simp[List.drop_drop]];refine YD ?_;have hc:(setAt (((setAt cc (off+0) (intC (rdTw ([0,0,0,0,0]:List Int).length left))).set (off+2+3) (.int .u64 (leV ((((((left.drop 2).drop 2).drop 2).drop 2).drop 2).take 4):Nat))).set (off+2+4) (.int .u64 (leV (((((((left.drop 2).drop 2).drop 2).drop 2).drop 2).drop 4).take 4):Nat))) (off+7) (intC (rdTw ([0]:List Int).length (((((((left.drop 2).drop 2).drop 2).drop 2).drop 2).drop 4).drop 4))))=setAt cc off (cellsE fsP [((leV (left.take 2):Nat):Int),((leV ((left.drop 2).take 2):Nat):Int),((leV (((left.drop 2).drop 2).take 2):Nat):Int),((leV ((((left.drop 2).drop 2).drop 2).take 2):Nat):Int),((leV (((((left.drop 2).drop 2).drop 2).drop 2).take 2):Nat):Int),((leV ((((((left.drop 2).drop 2).drop 2).drop 2).drop 2).take 4):Nat):Int),((leV (((((((left.drop 2).drop 2).drop 2).drop 2).drop 2).drop 4).take 4):Nat):Int),((leV ((((((((left.drop 2).drop 2).drop 2).drop 2).drop 2).drop 4).drop 4).take 2):Nat):Int)]):=(setAt_at' (k:=7) (set_at' (k:=6) (set_at' (k:=5) rfl (by simp only[Y3,intC_len,rdTw_len,Y4,Y5]) rfl (by omega)) (by simp only[Y3,intC_len,rdTw_len,Y4,Y5]) rfl (by omega)) (by simp only[Y3,intC_len,rdTw_len,Y4,Y5]) rfl (by simp only[intC_len,rdTw_len,Y4,Y5];omega))
 have hr:rdE fsP left=some ([((leV (left.take 2):Nat):Int),((leV ((left.drop 2).take 2):Nat):Int),((leV (((left.drop 2).drop 2).take 2):Nat):Int),((leV ((((left.drop 2).drop 2).drop 2).take 2):Nat):Int),((leV (((((left.drop 2).drop 2).drop 2).drop 2).take 2):Nat):Int),((leV ((((((left.drop 2).drop 2).drop 2).drop 2).drop 2).take 4):Nat):Int),((leV (((((((left.drop 2).drop 2).drop 2).drop 2).drop 2).drop 4).take 4):Nat):Int),((leV ((((((((left.drop 2).drop 2).drop 2).drop 2).drop 2).drop 4).drop 4).take 2):Nat):Int)],((((((((left.drop 2).drop 2).drop 2).drop 2).drop 2).drop 4).drop 4).drop 2)):=(rdE_some (rdF_of (s:=left) (by simp only[Y6,Fld.wid];omega) rfl) (rdE_some (rdF_of (s:=(left.drop 2)) (by simp only[Y6,Fld.wid];omega) rfl) (rdE_some (rdF_of (s:=((left.drop 2).drop 2)) (by simp only[Y6,Fld.wid];omega) rfl) (rdE_some (rdF_of (s:=(((left.drop 2).drop 2).drop 2)) (by simp only[Y6,Fld.wid];omega) rfl) (rdE_some (rdF_of (s:=((((left.drop 2).drop 2).drop 2).drop 2)) (by simp only[Y6,Fld.wid];omega) rfl) (rdE_some (rdF_of (s:=(((((left.drop 2).drop 2).drop 2).drop 2).drop 2)) (by simp only[Y6,Fld.wid];omega) rfl) (rdE_some (rdF_of (s:=((((((left.drop 2).drop 2).drop 2).drop 2).drop 2).drop 4)) (by simp only[Y6,Fld.wid];omega) rfl) (rdE_some (rdF_of (s:=(((((((left.drop 2).drop 2).drop 2).drop 2).drop 2).drop 4).drop 4)) (by simp only[Y6,Fld.wid];omega) rfl) rfl))))))))
 rw[hc];exact Ends.finE (L' := (cp,.cells [kP k].toArray 101)::((k,.cells [.bool true,adr,bv,sV ((((((((left.drop 2).drop 2).drop 2).drop 2).drop 2).drop 4).drop 4).drop 2)].toArray 107)::[(eb,.cells (setAt cc off (cellsE fsP [((leV (left.take 2):Nat):Int),((leV ((left.drop 2).take 2):Nat):Int),((leV (((left.drop 2).drop 2).take 2):Nat):Int),((leV ((((left.drop 2).drop 2).drop 2).take 2):Nat):Int),((leV (((((left.drop 2).drop 2).drop 2).drop 2).take 2):Nat):Int),((leV ((((((left.drop 2).drop 2).drop 2).drop 2).drop 2).take 4):Nat):Int),((leV (((((((left.drop 2).drop 2).drop 2).drop 2).drop 2).drop 4).take 4):Nat):Int),((leV ((((((((left.drop 2).drop 2).drop 2).drop 2).drop 2).drop 4).drop 4).take 2):Nat):Int)])).toArray Te)])) (res0 rfl) ⟨rfl,_,_,hr,rfl⟩
theorem tr_allR3(hx:Lies cc off (cellsE fsM [0,0,0,0])):TrE prog 131 [.pointer (some ⟨eb,off,none⟩),.pointer (some ⟨cp,0,none⟩)] ((cp,.cells [kP k].toArray 101)::((k,.cells [.bool true,adr,bv,sV left].toArray 107)::[(eb,.cells cc.toArray Te)])) (fun u L' => u=.tuple #[]∧∃e' left', rdE fsM left=some (e', left')∧L' = (cp,.cells [kP k].toArray 101)::((k,.cells [.bool true,adr,bv,sV left'].toArray 107)::[(eb,.cells (setAt cc off (cellsE fsM e')).toArray Te)])) (fun c L' => c=badC∧rdE fsM left=none∧L' = []):=by
 have hcl:=hx.len (by simp[cellsE,fsM])
 simp only[cellsE,fsM,List.zipWith_cons_cons,List.zipWith_nil_left,Y4,Y5]at hcl;refine YX func131 ntmps131 fun W F=>?_
 refine Wp.seq ?_;refine AnyH.start ([(cp,.cells [kP k].toArray 101)]:Hp) 12 rfl ?_;refine zd [0,2,1,1,2,3,3,6,4,1,5,3,6,6,7,1,8,3,9,6] ?_;refine YA 10 ?_;refine Yw rfl rfl (ef_buildSliceN [.pointer none,.pointer none,.pointer none] [(0,1),(1,1),(2,1)] rfl (by kernel_rfl) (by first | decide | rfl) rfl rfl rfl) fun b1=>?_
 refine YA 11 ?_;refine Turn.efx rfl rfl (efx_call (tr_twoR k adr bv left (by (try simp only[Y6]);omega) h1b h1a b1 278 [.pointer (some ⟨eb,off+0,none⟩),.pointer (some ⟨eb,off+1,none⟩),.pointer (some ⟨eb,off+2,none⟩)] eb (off+0) cc Te ([0,0,0]:List Int) rfl (hx.ints [] rfl) (by intro y hy;simp only[List.mem_cons,List.not_mem_nil,or_false]at hy;unfold RgI;omega) (by simp) (by omega)) rfl rfl) ?_ ?_ ?_
 ·
  rintro _ _ ⟨_,⟨rfl,hno,rfl⟩,rfl⟩;exact ⟨[],⟨rfl,(rdE_short (by simp only[widE,fsM,Fld.wid,List.map_cons,List.map_nil,List.sum_cons,List.sum_nil];(try simp only[Y6,Y4,Y5]at hno);omega)),rfl⟩,inferInstance⟩
 ·
  rintro _ _ ⟨_,_,⟨rfl,hl1,rfl⟩,rfl,rfl⟩;infer_instance
 rintro _ _ ⟨_,_,⟨rfl,hl1,rfl⟩,rfl,rfl⟩;refine AnyH.app ?_
 (try simp only[Y6,Y4,Y5]at hl1)
 rw[show (left.drop (2*([0,0,0]:List Int).length))=(((left.drop 2).drop 2).drop 2) by simp[List.drop_drop]];refine YD ?_;refine Ends.seq ?_;refine AnyH.start ([(cp,.cells [kP k].toArray 101)]:Hp) 5 rfl ?_;refine zd [0,2,1,1,2,3,3,6] ?_;refine YA 4 ?_;refine Turn.efx rfl rfl (efx_call (tr_flagR k adr bv (((left.drop 2).drop 2).drop 2) (by (try simp only[Y6]);omega) h1b h1a eb (off+3) (setAt cc (off+0) (intC (rdTw ([0,0,0]:List Int).length left))) Te (decide ((0:Int)=1)) (by rw[nth_setAt (Nat.le_trans (m:=cc.length) (by simp only[intC_len,rdTw_len,Y4,Y5];omega) (Nat.le_of_eq (Eq.symm rfl))) (by simp only[intC_len,rdTw_len,Y4,Y5];omega)];exact hx.at_ 3 rfl)) rfl rfl) ?_ ?_ ?_
 ·
  rintro _ _ ⟨_,⟨rfl,hno,rfl⟩,rfl⟩;exact ⟨[],⟨rfl,(rdE_none (rdF_of (s:=left) (by simp only[Y6,Fld.wid];omega) rfl) (rdE_none (rdF_of (s:=(left.drop 2)) (by simp only[Y6,Fld.wid];omega) rfl) (rdE_none (rdF_of (s:=((left.drop 2).drop 2)) (by simp only[Y6,Fld.wid];omega) rfl) (rdE_none' hno)))),rfl⟩,inferInstance⟩
 ·
  rintro _ _ ⟨_,_,⟨rfl,xf,hxf,rfl⟩,rfl,rfl⟩;infer_instance
 rintro _ _ ⟨_,_,⟨rfl,xf,hxf,rfl⟩,rfl,rfl⟩;refine AnyH.app ?_;have hlf:=(rdF_len hxf).1
 simp only[Y6,Fld.wid]at hlf;refine YD ?_;have hc:((setAt cc (off+0) (intC (rdTw ([0,0,0]:List Int).length left))).set (off+3) (Fld.flg.cell xf))=setAt cc off (cellsE fsM [((leV (left.take 2):Nat):Int),((leV ((left.drop 2).take 2):Nat):Int),((leV (((left.drop 2).drop 2).take 2):Nat):Int),xf]):=(set_at' (k:=3) rfl (by simp only[Y3,intC_len,rdTw_len,Y4,Y5]) rfl (by omega))
 have hr:rdE fsM left=some ([((leV (left.take 2):Nat):Int),((leV ((left.drop 2).take 2):Nat):Int),((leV (((left.drop 2).drop 2).take 2):Nat):Int),xf],((((left.drop 2).drop 2).drop 2).drop 1)):=(rdE_some (rdF_of (s:=left) (by simp only[Y6,Fld.wid];omega) rfl) (rdE_some (rdF_of (s:=(left.drop 2)) (by simp only[Y6,Fld.wid];omega) rfl) (rdE_some (rdF_of (s:=((left.drop 2).drop 2)) (by simp only[Y6,Fld.wid];omega) rfl) (rdE_some hxf rfl))))
 rw[hc];exact Ends.finE (L' := (cp,.cells [kP k].toArray 101)::((k,.cells [.bool true,adr,bv,sV ((((left.drop 2).drop 2).drop 2).drop 1)].toArray 107)::[(eb,.cells (setAt cc off (cellsE fsM [((leV (left.take 2):Nat):Int),((leV ((left.drop 2).take 2):Nat):Int),((leV (((left.drop 2).drop 2).take 2):Nat):Int),xf])).toArray Te)])) (res0 rfl) ⟨rfl,_,_,hr,rfl⟩
theorem tr_allR4(hx:Lies cc off (cellsE fsF [0,0,0])):TrE prog 134 [.pointer (some ⟨eb,off,none⟩),.pointer (some ⟨cp,0,none⟩)] ((cp,.cells [kP k].toArray 101)::((k,.cells [.bool true,adr,bv,sV left].toArray 107)::[(eb,.cells cc.toArray Te)])) (fun u L' => u=.tuple #[]∧∃e' left', rdE fsF left=some (e', left')∧L' = (cp,.cells [kP k].toArray 101)::((k,.cells [.bool true,adr,bv,sV left'].toArray 107)::[(eb,.cells (setAt cc off (cellsE fsF e')).toArray Te)])) (fun c L' => c=badC∧rdE fsF left=none∧L' = []):=by
 have hcl:=hx.len (by simp[cellsE,fsF])
 simp only[cellsE,fsF,List.zipWith_cons_cons,List.zipWith_nil_left,Y4,Y5]at hcl;refine YX func134 ntmps134 fun W F=>?_
 refine Wp.seq ?_;refine AnyH.start ([(cp,.cells [kP k].toArray 101)]:Hp) 9 rfl ?_;refine zd [0,2,1,1,2,3,3,6,4,1,5,3,6,6] ?_;refine YA 7 ?_;refine Yw rfl rfl (ef_buildSlice2 rfl rfl rfl rfl rfl rfl) fun b1=>?_
 refine YA 8 ?_;refine Turn.efx rfl rfl (efx_call (tr_twoR k adr bv left (by (try simp only[Y6]);omega) h1b h1a b1 278 [.pointer (some ⟨eb,off+0,none⟩),.pointer (some ⟨eb,off+1,none⟩)] eb (off+0) cc Te ([0,0]:List Int) rfl (hx.ints [] rfl) (by intro y hy;simp only[List.mem_cons,List.not_mem_nil,or_false]at hy;unfold RgI;omega) (by simp) (by omega)) rfl rfl) ?_ ?_ ?_
 ·
  rintro _ _ ⟨_,⟨rfl,hno,rfl⟩,rfl⟩;exact ⟨[],⟨rfl,(rdE_short (by simp only[widE,fsF,Fld.wid,List.map_cons,List.map_nil,List.sum_cons,List.sum_nil];(try simp only[Y6,Y4,Y5]at hno);omega)),rfl⟩,inferInstance⟩
 ·
  rintro _ _ ⟨_,_,⟨rfl,hl1,rfl⟩,rfl,rfl⟩;infer_instance
 rintro _ _ ⟨_,_,⟨rfl,hl1,rfl⟩,rfl,rfl⟩;refine AnyH.app ?_
 (try simp only[Y6,Y4,Y5]at hl1)
 rw[show (left.drop (2*([0,0]:List Int).length))=((left.drop 2).drop 2) by simp[List.drop_drop]];refine YD ?_;refine Ends.seq ?_;refine AnyH.start ([(cp,.cells [kP k].toArray 101)]:Hp) 5 rfl ?_;refine zd [0,2,1,1,2,3,3,6] ?_;refine YA 4 ?_;refine Turn.efx rfl rfl (efx_call (tr_wordR k adr bv ((left.drop 2).drop 2) (by (try simp only[Y6]);omega) h1b h1a eb (off+2) (setAt cc (off+0) (intC (rdTw ([0,0]:List Int).length left))) Te 0 (by rw[nth_setAt (Nat.le_trans (m:=cc.length) (by simp only[intC_len,rdTw_len,Y4,Y5];omega) (Nat.le_of_eq (Eq.symm rfl))) (by simp only[intC_len,rdTw_len,Y4,Y5];omega)];exact hx.at_ 2 rfl) 8 (by decide) (by decide)) rfl rfl) ?_ ?_ ?_
 ·
  rintro _ _ ⟨_,⟨rfl,hno,rfl⟩,rfl⟩;exact ⟨[],⟨rfl,(rdE_short (by simp only[widE,fsF,Fld.wid,List.map_cons,List.map_nil,List.sum_cons,List.sum_nil];(try simp only[Y6,Y4,Y5]at hno);omega)),rfl⟩,inferInstance⟩
 ·
  rintro _ _ ⟨_,_,⟨rfl,hl2,rfl⟩,rfl,rfl⟩;infer_instance
 rintro _ _ ⟨_,_,⟨rfl,hl2,rfl⟩,rfl,rfl⟩;refine AnyH.app ?_
 (try simp only[Y6]at hl2)
 refine YD ?_;have hc:((setAt cc (off+0) (intC (rdTw ([0,0]:List Int).length left))).set (off+2) (.int .u64 (leV (((left.drop 2).drop 2).take 8):Nat)))=setAt cc off (cellsE fsF [((leV (left.take 2):Nat):Int),((leV ((left.drop 2).take 2):Nat):Int),((leV (((left.drop 2).drop 2).take 8):Nat):Int)]):=(set_at' (k:=2) rfl (by simp only[Y3,intC_len,rdTw_len,Y4,Y5]) rfl (by omega))
 have hr:rdE fsF left=some ([((leV (left.take 2):Nat):Int),((leV ((left.drop 2).take 2):Nat):Int),((leV (((left.drop 2).drop 2).take 8):Nat):Int)],(((left.drop 2).drop 2).drop 8)):=(rdE_some (rdF_of (s:=left) (by simp only[Y6,Fld.wid];omega) rfl) (rdE_some (rdF_of (s:=(left.drop 2)) (by simp only[Y6,Fld.wid];omega) rfl) (rdE_some (rdF_of (s:=((left.drop 2).drop 2)) (by simp only[Y6,Fld.wid];omega) rfl) rfl)))
 rw[hc];exact Ends.finE (L' := (cp,.cells [kP k].toArray 101)::((k,.cells [.bool true,adr,bv,sV (((left.drop 2).drop 2).drop 8)].toArray 107)::[(eb,.cells (setAt cc off (cellsE fsF [((leV (left.take 2):Nat):Int),((leV ((left.drop 2).take 2):Nat):Int),((leV (((left.drop 2).drop 2).take 8):Nat):Int)])).toArray Te)])) (res0 rfl) ⟨rfl,_,_,hr,rfl⟩
theorem tr_allR5(hx:Lies cc off (cellsE fsT [0,0,0,0,0,0,0,0])):TrE prog 136 [.pointer (some ⟨eb,off,none⟩),.pointer (some ⟨cp,0,none⟩)] ((cp,.cells [kP k].toArray 101)::((k,.cells [.bool true,adr,bv,sV left].toArray 107)::[(eb,.cells cc.toArray Te)])) (fun u L' => u=.tuple #[]∧∃e' left', rdE fsT left=some (e', left')∧L' = (cp,.cells [kP k].toArray 101)::((k,.cells [.bool true,adr,bv,sV left'].toArray 107)::[(eb,.cells (setAt cc off (cellsE fsT e')).toArray Te)])) (fun c L' => c=badC∧rdE fsT left=none∧L' = []):=by
 have hcl:=hx.len (by simp[cellsE,fsT])
 simp only[cellsE,fsT,List.zipWith_cons_cons,List.zipWith_nil_left,Y4,Y5]at hcl
 skip
 refine YX func136 ntmps136 fun W F=>?_
 refine Wp.seq ?_;refine AnyH.start ([(cp,.cells [kP k].toArray 101)]:Hp) 18 rfl ?_;refine zd [0,2,1,1,2,3,3,6,4,1,5,3,6,6,7,1,8,3,9,6,10,1,11,3,12,6,13,1,14,3,15,6] ?_;refine YA 16 ?_;refine Yw rfl rfl (ef_buildSliceN [.pointer none,.pointer none,.pointer none,.pointer none,.pointer none] [(0,1),(1,1),(2,1),(3,1),(4,1)] rfl (by kernel_rfl) (by first | decide | rfl) rfl rfl rfl) fun b1=>?_
 refine YA 17 ?_;refine Turn.efx rfl rfl (efx_call (tr_twoR k adr bv left (by (try simp only[Y6]);omega) h1b h1a b1 278 [.pointer (some ⟨eb,off+0,none⟩),.pointer (some ⟨eb,off+1,none⟩),.pointer (some ⟨eb,off+2,none⟩),.pointer (some ⟨eb,off+3,none⟩),.pointer (some ⟨eb,off+4,none⟩)] eb (off+0) cc Te ([0,0,0,0,0]:List Int) rfl (hx.ints [] rfl) (by intro y hy;simp only[List.mem_cons,List.not_mem_nil,or_false]at hy;unfold RgI;omega) (by simp) (by omega)) rfl rfl) ?_ ?_ ?_
 ·
  rintro _ _ ⟨_,⟨rfl,hno,rfl⟩,rfl⟩;exact ⟨[],⟨rfl,(rdE_short (by simp only[widE,fsT,Fld.wid,List.map_cons,List.map_nil,List.sum_cons,List.sum_nil];(try simp only[Y6,Y4,Y5]at hno);omega)),rfl⟩,inferInstance⟩
 ·
  rintro _ _ ⟨_,_,⟨rfl,hl1,rfl⟩,rfl,rfl⟩;infer_instance
 rintro _ _ ⟨_,_,⟨rfl,hl1,rfl⟩,rfl,rfl⟩;refine AnyH.app ?_
 (try simp only[Y6,Y4,Y5]at hl1)
 rw[show (left.drop (2*([0,0,0,0,0]:List Int).length))=(((((left.drop 2).drop 2).drop 2).drop 2).drop 2) by simp[List.drop_drop]];refine YD ?_;refine zq [5,3] ?_;refine AnyH.start ([(cp,.cells [kP k].toArray 101)]:Hp) 5 rfl ?_;refine zd [0,2,1,1,2,3,3,6] ?_;refine YA 4 ?_;refine Turn.efx rfl rfl (efx_call (tr_wordR k adr bv (((((left.drop 2).drop 2).drop 2).drop 2).drop 2) (by (try simp only[Y6]);omega) h1b h1a eb (off+5) (setAt cc (off+0) (intC (rdTw ([0,0,0,0,0]:List Int).length left))) Te 0 (by rw[nth_setAt (Nat.le_trans (m:=cc.length) (by simp only[intC_len,rdTw_len,Y4,Y5];omega) (Nat.le_of_eq (Eq.symm rfl))) (by simp only[intC_len,rdTw_len,Y4,Y5];omega)];exact hx.at_ 5 rfl) 4 (by decide) (by decide)) rfl rfl) ?_ ?_ ?_
 ·
  rintro _ _ ⟨_,⟨rfl,hno,rfl⟩,rfl⟩;exact ⟨[],⟨rfl,(rdE_short (by simp only[widE,fsT,Fld.wid,List.map_cons,List.map_nil,List.sum_cons,List.sum_nil];(try simp only[Y6,Y4,Y5]at hno);omega)),rfl⟩,inferInstance⟩
 ·
  rintro _ _ ⟨_,_,⟨rfl,hl2,rfl⟩,rfl,rfl⟩;infer_instance
 rintro _ _ ⟨_,_,⟨rfl,hl2,rfl⟩,rfl,rfl⟩;refine AnyH.app ?_
 (try simp only[Y6]at hl2)
 refine YD ?_;refine zq [5,3] ?_;refine AnyH.start ([(cp,.cells [kP k].toArray 101)]:Hp) 6 rfl ?_;refine zd [0,2,1,1,2,3,3,6] ?_;refine YA 4 ?_;refine Yw rfl rfl (ef_buildSlice1 (k:=1) rfl rfl rfl rfl rfl) fun b2=>?_
 refine YA 5 ?_;refine Turn.efx rfl rfl (efx_call (tr_twoR k adr bv ((((((left.drop 2).drop 2).drop 2).drop 2).drop 2).drop 4) (by (try simp only[Y6]);omega) h1b h1a b2 278 [.pointer (some ⟨eb,off+6,none⟩)] eb (off+6) ((setAt cc (off+0) (intC (rdTw ([0,0,0,0,0]:List Int).length left))).set (off+5) (.int .u64 (leV ((((((left.drop 2).drop 2).drop 2).drop 2).drop 2).take 4):Nat))) Te ([0]:List Int) rfl (one_hcc (by rw[nth_set_ne (by omega),nth_setAt (Nat.le_trans (m:=cc.length) (by simp only[intC_len,rdTw_len,Y4,Y5];omega) (Nat.le_of_eq (Eq.symm rfl))) (by simp only[intC_len,rdTw_len,Y4,Y5];omega)];exact hx.at_ 6 rfl)) (by intro y hy;simp only[List.mem_cons,List.not_mem_nil,or_false]at hy;unfold RgI;omega) (by simp) (Nat.le_trans (m:=cc.length) (by omega) (Nat.le_of_eq (Eq.symm (len_set' (len_setAt' (k:=5) rfl (by simp only[Y3,intC_len,rdTw_len,Y4,Y5]) (by omega))))))) rfl rfl) ?_ ?_ ?_
 ·
  rintro _ _ ⟨_,⟨rfl,hno,rfl⟩,rfl⟩;exact ⟨[],⟨rfl,(rdE_short (by simp only[widE,fsT,Fld.wid,List.map_cons,List.map_nil,List.sum_cons,List.sum_nil];(try simp only[Y6,Y4,Y5]at hno);omega)),rfl⟩,inferInstance⟩
 ·
  rintro _ _ ⟨_,_,⟨rfl,hl3,rfl⟩,rfl,rfl⟩;infer_instance
 rintro _ _ ⟨_,_,⟨rfl,hl3,rfl⟩,rfl,rfl⟩;refine AnyH.app ?_
 (try simp only[Y6,Y4,Y5]at hl3)
 rw[show (((((((left.drop 2).drop 2).drop 2).drop 2).drop 2).drop 4).drop (2*([0]:List Int).length))=(((((((left.drop 2).drop 2).drop 2).drop 2).drop 2).drop 4).drop 2) by simp[List.drop_drop]];refine YD ?_;refine zq [5,3,3,4,0,9,61] ?_;refine Yp (pv_load rfl rfl (by rw[nth_setAt (Nat.le_trans (m:=cc.length) (by simp only[intC_len,rdTw_len,Y4,Y5];omega) (Nat.le_of_eq (Eq.symm (len_set' (len_setAt' (k:=5) rfl (by simp only[Y3,intC_len,rdTw_len,Y4,Y5]) (by omega)))))) (by simp only[intC_len,rdTw_len,Y4,Y5];omega),nth_set_ne (by omega),nth_setAt (Nat.le_trans (m:=cc.length) (by simp only[intC_len,rdTw_len,Y4,Y5];omega) (Nat.le_of_eq (Eq.symm rfl))) (by simp only[intC_len,rdTw_len,Y4,Y5];omega)];exact hx.at_ 7 rfl)) ?_;refine Yp ((pv_gtr rfl rfl).fls (by first | exact fun h=>h rfl | decide | omega | assumption)) ?_;refine zq [2,5,17,11,5,3,4,0,9,61] ?_;refine Yp (pv_load rfl rfl (by rw[nth_setAt (Nat.le_trans (m:=cc.length) (by simp only[intC_len,rdTw_len,Y4,Y5];omega) (Nat.le_of_eq (Eq.symm (len_set' (len_setAt' (k:=5) rfl (by simp only[Y3,intC_len,rdTw_len,Y4,Y5]) (by omega)))))) (by simp only[intC_len,rdTw_len,Y4,Y5];omega),nth_set_ne (by omega),nth_setAt (Nat.le_trans (m:=cc.length) (by simp only[intC_len,rdTw_len,Y4,Y5];omega) (Nat.le_of_eq (Eq.symm rfl))) (by simp only[intC_len,rdTw_len,Y4,Y5];omega)];exact hx.at_ 7 rfl)) ?_;refine Yp (pv_add rfl rfl (r:=1) (w64 (by omega) (by omega))) ?_;refine zq [9,61] ?_;refine Yo (ef_store1 (hset:=setL_set (nth_lt (by rw[nth_setAt (Nat.le_trans (m:=cc.length) (by simp only[intC_len,rdTw_len,Y4,Y5];omega) (Nat.le_of_eq (Eq.symm (len_set' (len_setAt' (k:=5) rfl (by simp only[Y3,intC_len,rdTw_len,Y4,Y5]) (by omega)))))) (by simp only[intC_len,rdTw_len,Y4,Y5];omega),nth_set_ne (by omega),nth_setAt (Nat.le_trans (m:=cc.length) (by simp only[intC_len,rdTw_len,Y4,Y5];omega) (Nat.le_of_eq (Eq.symm rfl))) (by simp only[intC_len,rdTw_len,Y4,Y5];omega)];exact hx.at_ 7 rfl))) rfl rfl rfl rfl) ?_;refine zq [2,5,3] ?_;refine AnyH.start ([(cp,.cells [kP k].toArray 101)]:Hp) 6 rfl ?_;refine zd [0,2,1,1,2,3,3,6] ?_;refine YA 4 ?_;refine Yw rfl rfl (ef_buildSlice1 (k:=1) rfl rfl rfl rfl rfl) fun b3=>?_
 refine YA 5 ?_;refine Turn.efx rfl rfl (efx_call (tr_twoR k adr bv (((((((left.drop 2).drop 2).drop 2).drop 2).drop 2).drop 4).drop 2) (by (try simp only[Y6]);omega) h1b h1a b3 278 [.pointer (some ⟨eb,off+7,none⟩)] eb (off+7) ((setAt ((setAt cc (off+0) (intC (rdTw ([0,0,0,0,0]:List Int).length left))).set (off+5) (.int .u64 (leV ((((((left.drop 2).drop 2).drop 2).drop 2).drop 2).take 4):Nat))) (off+6) (intC (rdTw ([0]:List Int).length ((((((left.drop 2).drop 2).drop 2).drop 2).drop 2).drop 4)))).set (off+7) (.int .i64 1)) Te ([1]:List Int) rfl (one_hcc (nth_set (Nat.lt_of_lt_of_eq (m:=cc.length) (by omega) (Eq.symm (len_setAt' (k:=1) (len_set' (len_setAt' (k:=5) rfl (by simp only[Y3,intC_len,rdTw_len,Y4,Y5]) (by omega))) (by simp only[Y3,intC_len,rdTw_len,Y4,Y5]) (by omega)))))) (by intro y hy;simp only[List.mem_cons,List.not_mem_nil,or_false]at hy;unfold RgI;omega) (by simp) (Nat.le_trans (m:=cc.length) (by omega) (Nat.le_of_eq (Eq.symm (len_set' (len_setAt' (k:=1) (len_set' (len_setAt' (k:=5) rfl (by simp only[Y3,intC_len,rdTw_len,Y4,Y5]) (by omega))) (by simp only[Y3,intC_len,rdTw_len,Y4,Y5]) (by omega))))))) rfl rfl) ?_ ?_ ?_
 ·
  rintro _ _ ⟨_,⟨rfl,hno,rfl⟩,rfl⟩;exact ⟨[],⟨rfl,(rdE_short (by simp only[widE,fsT,Fld.wid,List.map_cons,List.map_nil,List.sum_cons,List.sum_nil];(try simp only[Y6,Y4,Y5]at hno);omega)),rfl⟩,inferInstance⟩
 ·
  rintro _ _ ⟨_,_,⟨rfl,hl4,rfl⟩,rfl,rfl⟩;infer_instance
 rintro _ _ ⟨_,_,⟨rfl,hl4,rfl⟩,rfl,rfl⟩;refine AnyH.app ?_
 (try simp only[Y6,Y4,Y5]at hl4)
 rw[show ((((((((left.drop 2).drop 2).drop 2).drop 2).drop 2).drop 4).drop 2).drop (2*([1]:List Int).length))=((((((((left.drop 2).drop 2).drop 2).drop 2).drop 2).drop 4).drop 2).drop 2) by simp[List.drop_drop]];refine YD ?_;refine zq [5,4,0,9,61] ?_;refine Yp (pv_load rfl rfl (nth_setAt_in (j:=0) (Nat.le_trans (m:=cc.length) (by omega) (Nat.le_of_eq (Eq.symm (len_set' (len_setAt' (k:=1) (len_set' (len_setAt' (k:=5) rfl (by simp only[Y3,intC_len,rdTw_len,Y4,Y5]) (by omega))) (by simp only[Y3,intC_len,rdTw_len,Y4,Y5]) (by omega)))))) rfl)) ?_;refine Yp (pv_sub rfl rfl (r:=((leV ((((((((left.drop 2).drop 2).drop 2).drop 2).drop 2).drop 4).drop 2).take 2):Nat):Int)-1) (by have:=leV2 (((((((left.drop 2).drop 2).drop 2).drop 2).drop 2).drop 4).drop 2);exact w64 (by omega) (by omega))) ?_;refine zq [9,61] ?_;refine Yo (ef_store1 (hset:=setL_set (Nat.lt_of_lt_of_eq (m:=cc.length) (by omega) (Eq.symm (len_setAt' (k:=1) (len_set' (len_setAt' (k:=1) (len_set' (len_setAt' (k:=5) rfl (by simp only[Y3,intC_len,rdTw_len,Y4,Y5]) (by omega))) (by simp only[Y3,intC_len,rdTw_len,Y4,Y5]) (by omega))) (by simp only[Y3,intC_len,rdTw_len,Y4,Y5]) (by omega))))) rfl rfl rfl rfl) ?_;refine Ops.nil ?_;have hc:((setAt ((setAt ((setAt cc (off+0) (intC (rdTw ([0,0,0,0,0]:List Int).length left))).set (off+5) (.int .u64 (leV ((((((left.drop 2).drop 2).drop 2).drop 2).drop 2).take 4):Nat))) (off+6) (intC (rdTw ([0]:List Int).length ((((((left.drop 2).drop 2).drop 2).drop 2).drop 2).drop 4)))).set (off+7) (.int .i64 1)) (off+7) (intC (rdTw ([1]:List Int).length (((((((left.drop 2).drop 2).drop 2).drop 2).drop 2).drop 4).drop 2)))).set (off+7) (.int .i64 (((leV ((((((((left.drop 2).drop 2).drop 2).drop 2).drop 2).drop 4).drop 2).take 2):Nat):Int)-1)))=setAt cc off (cellsE fsT [((leV (left.take 2):Nat):Int),((leV ((left.drop 2).take 2):Nat):Int),((leV (((left.drop 2).drop 2).take 2):Nat):Int),((leV ((((left.drop 2).drop 2).drop 2).take 2):Nat):Int),((leV (((((left.drop 2).drop 2).drop 2).drop 2).take 2):Nat):Int),((leV ((((((left.drop 2).drop 2).drop 2).drop 2).drop 2).take 4):Nat):Int),((leV (((((((left.drop 2).drop 2).drop 2).drop 2).drop 2).drop 4).take 2):Nat):Int),((leV ((((((((left.drop 2).drop 2).drop 2).drop 2).drop 2).drop 4).drop 2).take 2):Nat):Int)-1]):=(set_last' (setAt_last' (set_at' (setAt_at' (k:=6) (set_at' (k:=5) rfl (by simp only[Y3,intC_len,rdTw_len,Y4,Y5]) rfl (by omega)) (by simp only[Y3,intC_len,rdTw_len,Y4,Y5]) rfl (by simp only[intC_len,rdTw_len,Y4,Y5];omega)) (by simp only[Y3,intC_len,rdTw_len,Y4,Y5]) rfl (by omega)) (by simp only[Y3,intC_len,rdTw_len,Y4,Y5]) rfl (by omega)) (by simp only[Y3,intC_len,rdTw_len,Y4,Y5]) rfl (by omega))
 have hr:rdE fsT left=some ([((leV (left.take 2):Nat):Int),((leV ((left.drop 2).take 2):Nat):Int),((leV (((left.drop 2).drop 2).take 2):Nat):Int),((leV ((((left.drop 2).drop 2).drop 2).take 2):Nat):Int),((leV (((((left.drop 2).drop 2).drop 2).drop 2).take 2):Nat):Int),((leV ((((((left.drop 2).drop 2).drop 2).drop 2).drop 2).take 4):Nat):Int),((leV (((((((left.drop 2).drop 2).drop 2).drop 2).drop 2).drop 4).take 2):Nat):Int),((leV ((((((((left.drop 2).drop 2).drop 2).drop 2).drop 2).drop 4).drop 2).take 2):Nat):Int)-1],((((((((left.drop 2).drop 2).drop 2).drop 2).drop 2).drop 4).drop 2).drop 2)):=(rdE_some (rdF_of (s:=left) (by simp only[Y6,Fld.wid];omega) rfl) (rdE_some (rdF_of (s:=(left.drop 2)) (by simp only[Y6,Fld.wid];omega) rfl) (rdE_some (rdF_of (s:=((left.drop 2).drop 2)) (by simp only[Y6,Fld.wid];omega) rfl) (rdE_some (rdF_of (s:=(((left.drop 2).drop 2).drop 2)) (by simp only[Y6,Fld.wid];omega) rfl) (rdE_some (rdF_of (s:=((((left.drop 2).drop 2).drop 2).drop 2)) (by simp only[Y6,Fld.wid];omega) rfl) (rdE_some (rdF_of (s:=(((((left.drop 2).drop 2).drop 2).drop 2).drop 2)) (by simp only[Y6,Fld.wid];omega) rfl) (rdE_some (rdF_of (s:=((((((left.drop 2).drop 2).drop 2).drop 2).drop 2).drop 4)) (by simp only[Y6,Fld.wid];omega) rfl) (rdE_some (rdF_of (s:=(((((((left.drop 2).drop 2).drop 2).drop 2).drop 2).drop 4).drop 2)) (by simp only[Y6,Fld.wid];omega) rfl) rfl))))))))
 rw[hc];exact Ends.finE (L' := (cp,.cells [kP k].toArray 101)::((k,.cells [.bool true,adr,bv,sV ((((((((left.drop 2).drop 2).drop 2).drop 2).drop 2).drop 4).drop 2).drop 2)].toArray 107)::[(eb,.cells (setAt cc off (cellsE fsT [((leV (left.take 2):Nat):Int),((leV ((left.drop 2).take 2):Nat):Int),((leV (((left.drop 2).drop 2).take 2):Nat):Int),((leV ((((left.drop 2).drop 2).drop 2).take 2):Nat):Int),((leV (((((left.drop 2).drop 2).drop 2).drop 2).take 2):Nat):Int),((leV ((((((left.drop 2).drop 2).drop 2).drop 2).drop 2).take 4):Nat):Int),((leV (((((((left.drop 2).drop 2).drop 2).drop 2).drop 2).drop 4).take 2):Nat):Int),((leV ((((((((left.drop 2).drop 2).drop 2).drop 2).drop 2).drop 4).drop 2).take 2):Nat):Int)-1])).toArray Te)])) (res0 rfl) ⟨rfl,_,_,hr,rfl⟩
theorem tr_allR6(hx:Lies cc off (cellsE fsW [0,0,0,0])):TrE prog 138 [.pointer (some ⟨eb,off,none⟩),.pointer (some ⟨cp,0,none⟩)] ((cp,.cells [kP k].toArray 101)::((k,.cells [.bool true,adr,bv,sV left].toArray 107)::[(eb,.cells cc.toArray Te)])) (fun u L' => u=.tuple #[]∧∃e' left', rdE fsW left=some (e', left')∧L' = (cp,.cells [kP k].toArray 101)::((k,.cells [.bool true,adr,bv,sV left'].toArray 107)::[(eb,.cells (setAt cc off (cellsE fsW e')).toArray Te)])) (fun c L' => c=badC∧rdE fsW left=none∧L' = []):=by
 have hcl:=hx.len (by simp[cellsE,fsW])
 simp only[cellsE,fsW,List.zipWith_cons_cons,List.zipWith_nil_left,Y4,Y5]at hcl;refine YX func138 ntmps138 fun W F=>?_
 refine Wp.seq ?_;refine AnyH.start ([(cp,.cells [kP k].toArray 101)]:Hp) 12 rfl ?_;refine zd [0,2,1,1,2,3,3,6,4,1,5,3,6,6,7,1,8,3,9,6] ?_;refine YA 10 ?_;refine Yw rfl rfl (ef_buildSliceN [.pointer none,.pointer none,.pointer none] [(0,1),(1,1),(2,1)] rfl (by kernel_rfl) (by first | decide | rfl) rfl rfl rfl) fun b1=>?_
 refine YA 11 ?_;refine Turn.efx rfl rfl (efx_call (tr_twoR k adr bv left (by (try simp only[Y6]);omega) h1b h1a b1 278 [.pointer (some ⟨eb,off+0,none⟩),.pointer (some ⟨eb,off+1,none⟩),.pointer (some ⟨eb,off+2,none⟩)] eb (off+0) cc Te ([0,0,0]:List Int) rfl (hx.ints [] rfl) (by intro y hy;simp only[List.mem_cons,List.not_mem_nil,or_false]at hy;unfold RgI;omega) (by simp) (by omega)) rfl rfl) ?_ ?_ ?_
 ·
  rintro _ _ ⟨_,⟨rfl,hno,rfl⟩,rfl⟩;exact ⟨[],⟨rfl,(rdE_short (by simp only[widE,fsW,Fld.wid,List.map_cons,List.map_nil,List.sum_cons,List.sum_nil];(try simp only[Y6,Y4,Y5]at hno);omega)),rfl⟩,inferInstance⟩
 ·
  rintro _ _ ⟨_,_,⟨rfl,hl1,rfl⟩,rfl,rfl⟩;infer_instance
 rintro _ _ ⟨_,_,⟨rfl,hl1,rfl⟩,rfl,rfl⟩;refine AnyH.app ?_
 (try simp only[Y6,Y4,Y5]at hl1)
 rw[show (left.drop (2*([0,0,0]:List Int).length))=(((left.drop 2).drop 2).drop 2) by simp[List.drop_drop]];refine YD ?_;refine Ends.seq ?_;refine AnyH.start ([(cp,.cells [kP k].toArray 101)]:Hp) 5 rfl ?_;refine zd [0,2,1,1,2,3,3,6] ?_;refine YA 4 ?_;refine Turn.efx rfl rfl (efx_call (tr_wordR k adr bv (((left.drop 2).drop 2).drop 2) (by (try simp only[Y6]);omega) h1b h1a eb (off+3) (setAt cc (off+0) (intC (rdTw ([0,0,0]:List Int).length left))) Te 0 (by rw[nth_setAt (Nat.le_trans (m:=cc.length) (by simp only[intC_len,rdTw_len,Y4,Y5];omega) (Nat.le_of_eq (Eq.symm rfl))) (by simp only[intC_len,rdTw_len,Y4,Y5];omega)];exact hx.at_ 3 rfl) 4 (by decide) (by decide)) rfl rfl) ?_ ?_ ?_
 ·
  rintro _ _ ⟨_,⟨rfl,hno,rfl⟩,rfl⟩;exact ⟨[],⟨rfl,(rdE_short (by simp only[widE,fsW,Fld.wid,List.map_cons,List.map_nil,List.sum_cons,List.sum_nil];(try simp only[Y6,Y4,Y5]at hno);omega)),rfl⟩,inferInstance⟩
 ·
  rintro _ _ ⟨_,_,⟨rfl,hl2,rfl⟩,rfl,rfl⟩;infer_instance
 rintro _ _ ⟨_,_,⟨rfl,hl2,rfl⟩,rfl,rfl⟩;refine AnyH.app ?_
 (try simp only[Y6]at hl2)
 refine YD ?_;have hc:((setAt cc (off+0) (intC (rdTw ([0,0,0]:List Int).length left))).set (off+3) (.int .u64 (leV ((((left.drop 2).drop 2).drop 2).take 4):Nat)))=setAt cc off (cellsE fsW [((leV (left.take 2):Nat):Int),((leV ((left.drop 2).take 2):Nat):Int),((leV (((left.drop 2).drop 2).take 2):Nat):Int),((leV ((((left.drop 2).drop 2).drop 2).take 4):Nat):Int)]):=(set_at' (k:=3) rfl (by simp only[Y3,intC_len,rdTw_len,Y4,Y5]) rfl (by omega))
 have hr:rdE fsW left=some ([((leV (left.take 2):Nat):Int),((leV ((left.drop 2).take 2):Nat):Int),((leV (((left.drop 2).drop 2).take 2):Nat):Int),((leV ((((left.drop 2).drop 2).drop 2).take 4):Nat):Int)],((((left.drop 2).drop 2).drop 2).drop 4)):=(rdE_some (rdF_of (s:=left) (by simp only[Y6,Fld.wid];omega) rfl) (rdE_some (rdF_of (s:=(left.drop 2)) (by simp only[Y6,Fld.wid];omega) rfl) (rdE_some (rdF_of (s:=((left.drop 2).drop 2)) (by simp only[Y6,Fld.wid];omega) rfl) (rdE_some (rdF_of (s:=(((left.drop 2).drop 2).drop 2)) (by simp only[Y6,Fld.wid];omega) rfl) rfl))))
 rw[hc];exact Ends.finE (L' := (cp,.cells [kP k].toArray 101)::((k,.cells [.bool true,adr,bv,sV ((((left.drop 2).drop 2).drop 2).drop 4)].toArray 107)::[(eb,.cells (setAt cc off (cellsE fsW [((leV (left.take 2):Nat):Int),((leV ((left.drop 2).take 2):Nat):Int),((leV (((left.drop 2).drop 2).take 2):Nat):Int),((leV ((((left.drop 2).drop 2).drop 2).take 4):Nat):Int)])).toArray Te)])) (res0 rfl) ⟨rfl,_,_,hr,rfl⟩
theorem tr_allR7(hx:Lies cc off (cellsE fsS [0,0])):TrE prog 140 [.pointer (some ⟨eb,off,none⟩),.pointer (some ⟨cp,0,none⟩)] ((cp,.cells [kP k].toArray 101)::((k,.cells [.bool true,adr,bv,sV left].toArray 107)::[(eb,.cells cc.toArray Te)])) (fun u L' => u=.tuple #[]∧∃e' left', rdE fsS left=some (e', left')∧L' = (cp,.cells [kP k].toArray 101)::((k,.cells [.bool true,adr,bv,sV left'].toArray 107)::[(eb,.cells (setAt cc off (cellsE fsS e')).toArray Te)])) (fun c L' => c=badC∧rdE fsS left=none∧L' = []):=by
 have hcl:=hx.len (by simp[cellsE,fsS])
 simp only[cellsE,fsS,List.zipWith_cons_cons,List.zipWith_nil_left,Y4,Y5]at hcl;refine YX func140 ntmps140 fun W F=>?_
 refine AnyH.start ([(cp,.cells [kP k].toArray 101)]:Hp) 9 rfl ?_;refine zd [0,2,1,1,2,3,3,6,4,1,5,3,6,6] ?_;refine YA 7 ?_;refine Yw rfl rfl (ef_buildSlice2 rfl rfl rfl rfl rfl rfl) fun b1=>?_
 refine YA 8 ?_;refine Turn.efx rfl rfl (efx_call (tr_twoR k adr bv left (by (try simp only[Y6]);omega) h1b h1a b1 278 [.pointer (some ⟨eb,off+0,none⟩),.pointer (some ⟨eb,off+1,none⟩)] eb (off+0) cc Te ([0,0]:List Int) rfl (hx.ints [] rfl) (by intro y hy;simp only[List.mem_cons,List.not_mem_nil,or_false]at hy;unfold RgI;omega) (by simp) (by omega)) rfl rfl) ?_ ?_ ?_
 ·
  rintro _ _ ⟨_,⟨rfl,hno,rfl⟩,rfl⟩;exact ⟨[],⟨rfl,(rdE_short (by simp only[widE,fsS,Fld.wid,List.map_cons,List.map_nil,List.sum_cons,List.sum_nil];(try simp only[Y6,Y4,Y5]at hno);omega)),rfl⟩,inferInstance⟩
 ·
  rintro _ _ ⟨_,_,⟨rfl,hl1,rfl⟩,rfl,rfl⟩;infer_instance
 rintro _ _ ⟨_,_,⟨rfl,hl1,rfl⟩,rfl,rfl⟩;refine AnyH.app ?_
 (try simp only[Y6,Y4,Y5]at hl1)
 rw[show (left.drop (2*([0,0]:List Int).length))=((left.drop 2).drop 2) by simp[List.drop_drop]];refine YD ?_;have hc:(setAt cc (off+0) (intC (rdTw ([0,0]:List Int).length left)))=setAt cc off (cellsE fsS [((leV (left.take 2):Nat):Int),((leV ((left.drop 2).take 2):Nat):Int)]):=rfl
 have hr:rdE fsS left=some ([((leV (left.take 2):Nat):Int),((leV ((left.drop 2).take 2):Nat):Int)],((left.drop 2).drop 2)):=(rdE_some (rdF_of (s:=left) (by simp only[Y6,Fld.wid];omega) rfl) (rdE_some (rdF_of (s:=(left.drop 2)) (by simp only[Y6,Fld.wid];omega) rfl) rfl))
 rw[hc];exact Ends.finE (L' := (cp,.cells [kP k].toArray 101)::((k,.cells [.bool true,adr,bv,sV ((left.drop 2).drop 2)].toArray 107)::[(eb,.cells (setAt cc off (cellsE fsS [((leV (left.take 2):Nat):Int),((leV ((left.drop 2).take 2):Nat):Int)])).toArray Te)])) (res0 rfl) ⟨rfl,_,_,hr,rfl⟩
end
end
end Go.Proofs.YtmoeokkelkgnhaaGreat
