/- BootSpans. Laid together by pack.py out of the texts in wip. -/
import Derived.Test.YtmoeokkelkgnhaaGreatPBootSpans6
set_option linter.unusedVariables false
set_option linter.unusedSimpArgs false
set_option linter.unusedSectionVars false
set_option maxHeartbeats 64000000
namespace Go.Proofs.YtmoeokkelkgnhaaGreat
open Go.SL
open Go.Proofs.Tryz
section
section
variable(cp:Nat)(k:Nat)
include cp k
theorem tr_elW1(left:List UInt8)(bs:List UInt8)(pa:Option Addr)(ca:Nat)(Kb:Hp)(hb:Slc 5 1 (.slice pa bs.length ca) bs.length (bC bs) Kb)(hl:bs.length≤2^38)(eb off:Nat)(cc:List Value)(Te:TypeId)(e:El fsO)(hx:Lies cc off (cE fsO e)):
    TrE prog 125 [.pointer (some ⟨eb,off,none⟩),.pointer (some ⟨cp,0,none⟩)] ((cp,.cells [kP k].toArray 101)::((k,.cells [.bool false,.pointer (some ⟨k,1,none⟩),.slice pa bs.length ca,sV left].toArray 107)::(Kb++[(eb,.cells cc.toArray Te)]))) (fun u L' => u=.tuple #[]∧okE fsO e.1∧∃pa' ca' Kb', Slc 5 1 (.slice pa' (bs++encE fsO e.1).length ca') (bs++encE fsO e.1).length (bC (bs++encE fsO e.1)) Kb' ∧ L' = (cp,.cells [kP k].toArray 101)::((k,.cells [.bool false,.pointer (some ⟨k,1,none⟩),.slice pa' (bs++encE fsO e.1).length ca', sV left].toArray 107)::(Kb' ++ [(eb,.cells cc.toArray Te)]))) (fun c L' => c=badC∧¬okE fsO e.1∧L' = []):=by
  obtain ⟨a0,a1,a2,he⟩:=El.three rfl e;unfold cE at hx;have hr:=e.rg
  rw[he]at hx hr ⊢;exact tr_allW1 cp k left bs pa ca Kb hb hl eb off cc Te a0 a1 a2 hr hx
theorem tr_elR1(adr bv:Value)(left:List UInt8)(hl:left.length≤2^40)(h1b:bv.oneCell' = true)(h1a:adr.oneCell' = true)(eb off:Nat)(cc:List Value)(Te:TypeId)(hx:Lies cc off (cE fsO (zEl fsO))):
    TrE prog 125 [.pointer (some ⟨eb,off,none⟩),.pointer (some ⟨cp,0,none⟩)] ((cp,.cells [kP k].toArray 101)::((k,.cells [.bool true,adr,bv,sV left].toArray 107)::[(eb,.cells cc.toArray Te)])) (fun u L' => u=.tuple #[]∧∃e' left', rdE fsO left=some (e', left')∧L' = (cp,.cells [kP k].toArray 101)::((k,.cells [.bool true,adr,bv,sV left'].toArray 107)::[(eb,.cells (setAt cc off (cE fsO (mkEl fsO e'))).toArray Te)])) (fun c L' => c=badC∧rdE fsO left=none∧L' = []) :=
  (tr_allR1 cp k adr bv left hl h1b h1a eb off cc Te hx).mono (fun u L' h=>by obtain ⟨hu,e', l', h1,h2⟩:=h;exact ⟨hu,e', l', h1,by rw[rdE_cE h1];exact h2⟩) (fun c L' h=>h)
theorem tr_listW1(left:List UInt8)(bs:List UInt8)(pa:Option Addr)(ca:Nat)(Kb:Hp)(hb:Slc 5 1 (.slice pa bs.length ca) bs.length (bC bs) Kb)(hl:bs.length≤2^37)(d o:Nat)(dc:List Value)(Td:TypeId)(v:Value)(hv:nth dc o=some v)(L:List (El fsO))(H:Hp)(hs:Slc 116 3 v L.length (cel (cE fsO) L) H):TrE prog 124 [kP k,.pointer (some ⟨d,o,none⟩),.int .i64 64,.func (.func 125) #[] #[.pointer (some ⟨cp,0,none⟩)]] ((cp,.cells [kP k].toArray 101)::((k,.cells [.bool false,.pointer (some ⟨k,1,none⟩),.slice pa bs.length ca,sV left].toArray 107)::(Kb++((d,.cells dc.toArray Td)::H)))) (fun u L' => u=.tuple #[]∧okL fsO 64 L∧∃pa' ca' Kb', Slc 5 1 (.slice pa' (bs++encL fsO L).length ca') (bs++encL fsO L).length (bC (bs++encL fsO L)) Kb' ∧ L' = (cp,.cells [kP k].toArray 101)::((k,.cells [.bool false,.pointer (some ⟨k,1,none⟩),.slice pa' (bs++encL fsO L).length ca', sV left].toArray 107)::(Kb' ++ ((d,.cells dc.toArray Td)::H)))) (fun c L' => c=badC∧¬okL fsO 64 L∧L' = []):=by
 obtain ⟨sa,sc,rfl⟩:=hs.form;have hw:widE fsO≤20:=by decide
 have hll:L.length≤64→L.length<9223372036854775807:=fun h=>by omega
 refine YX func124 ntmps124 fun W F=>?_
 refine zq [3,4,0,9] ?_;refine Yp (pv_load rfl rfl hv) ?_;refine Yp (pv_len_slice (T:=36) rfl rfl) ?_;refine Yq (ef_alloc1 tyZ3 rfl rfl) fun b1=>?_
 refine zq [25,2,5,3,3,4,8,0,44,2,5] ?_;refine Yd rfl (fun h1=>?_) (fun h1=>?_)
 ·
  refine zq [4,23,74] ?_;exact Ops.panic rfl ⟨[],⟨rfl,fun ho=>by have:=ho.1;omega,rfl⟩,inferInstance⟩
 have hmost:L.length≤64:=by omega
 refine zq [11,5,3,4,0] ?_;refine Yq (ef_buildSlice1 (k:=1) rfl rfl rfl rfl rfl) fun b2=>?_
 refine Ops.efx rfl (efx_call (tr_twoW k left bs pa ca Kb hb b2 278 [.pointer (some ⟨b1,0,none⟩)] b1 0 [.int .i64 (L.length:Int)] 3 [(L.length:Int)] rfl (one_hcc rfl) (by intro y hy;simp only[List.mem_cons,List.not_mem_nil,or_false]at hy;unfold RgI;omega) (by simp) (by simp) (by simp only[Y4,Y5];omega)) rfl rfl) ?_ ?_
 ·
  rintro _ _ ⟨_,⟨rfl,hno,rfl⟩,rfl⟩;exact ⟨[],⟨rfl,fun ho=>hno (by intro y hy;simp only[List.mem_cons,List.not_mem_nil,or_false]at hy;omega),rfl⟩,inferInstance⟩
 rintro _ _ ⟨_,_,⟨rfl,hok1,pa1,ca1,Kb1,hs1,rfl⟩,rfl,rfl⟩;refine Ops.app ?_;rw[encT1 (by omega)]at hs1 ⊢;refine zq [2,5,3,3,4,8,0,44,2,5] ?_;refine Yd rfl (fun h2=>by omega) (fun h2=>?_);refine zq [11,5,3,3,4,0,9,6,8,2,5,17,11,5,3,4,8,0,2,5,20] ?_;refine YM (σ:=Nat×List UInt8×Option Addr×Nat×Hp) [(0,_),(1,_),(3,_),(33,_)] (fun s=>[(34,.int .i64 s.1)]) (fun s=>(cp,.cells [kP k].toArray 101)::((k,.cells [.bool false,.pointer (some ⟨k,1,none⟩),.slice s.2.2.1 s.2.1.length s.2.2.2.1,sV left].toArray 107)::(s.2.2.2.2++((d,.cells dc.toArray Td)::(H++((b1,.cells [.int .i64 L.length].toArray 3)::F)))))) (fun s=>s.1≤L.length∧s.2.1=bs++leB 2 L.length++encI fsO (L.take s.1)∧s.2.1.length=bs.length+2+s.1*widE fsO∧(∀e,e∈L.take s.1→okE fsO e.1)∧Slc 5 1 (.slice s.2.2.1 s.2.1.length s.2.2.2.1) s.2.1.length (bC s.2.1) s.2.2.2.2) (fun s=>L.length-s.1) (0,bs++leB 2 L.length,pa1,ca1,Kb1) ⟨Nat.zero_le _,by simp[encI],by simp[leB_len],by intro x hx;simp at hx,hs1⟩ ?_;rintro ⟨i,b9,pi,ci,Ki⟩ KK ⟨hi,he9,hel,hok,hsi⟩ hK;dsimp only[Y1,Y2]at hK ⊢;dsimp only at hi he9 hel hok hsi ⊢;have hwi:i*widE fsO≤i*20:=Nat.mul_le_mul_left _ hw
 refine zq [3,4,42,2,5,3] ?_;refine Yd rfl (fun h3=>?_) (fun h3=>?_)
 ·
  obtain ⟨e,he⟩:∃e,L[i]?=some e:=Y9;obtain ⟨eb,eo,cc,cap,hva,rfl,hx,_⟩:=slc_el hs he (by decide);cases hva;refine zq [11,5,3,20,3,4,0,1,2,5,3,3,4,0,9,6,8,2,5,17,11,5,4,0,0,9] ?_;refine Yp (pv_load rfl rfl hv) ?_;refine zq [0] ?_;refine Yi rfl rfl (i) rfl ?_;refine Ops.efx rfl (efx_callf rfl rfl (tr_elW1 cp k left b9 pi ci Ki hsi (by omega) eb (eo+i*3) cc 116 e hx) rfl) ?_ ?_
  ·
   rintro _ _ ⟨_,⟨rfl,hno,rfl⟩,rfl⟩;exact ⟨[],⟨rfl,fun ho=>hno (ho.2 e (List.mem_of_getElem? he)),rfl⟩,inferInstance⟩
  rintro _ _ ⟨_,_,⟨rfl,hoke,pa3,ca3,Kb3,hs3,rfl⟩,rfl,rfl⟩;refine Ops.app ?_;refine zq [2,19,5,4] ?_;refine Ya rfl rfl (i+1) ?_;refine zq [0,2,49] ?_;refine Yy (hK (i+1,b9++encE fsO e.1,pa3,ca3,Kb3) ⟨by dsimp only;omega,by dsimp only;rw[encI_take he,he9,Y7],by dsimp only;rw[Y3,encE_len e.len,hel,Nat.add_mul];omega,all_take he hok hoke,hs3⟩ (by dsimp only;omega))
 obtain rfl:i=L.length:=by omega
 refine zq [41,16,16,40] ?_;rw[List.take_length]at he9 hok;have hbe:bs++encL fsO L=b9:=by rw[he9,encL,Y7]
 rw[hbe];exact Ends.finE (L' := (cp,.cells [kP k].toArray 101)::((k,.cells [.bool false,.pointer (some ⟨k,1,none⟩),.slice pi b9.length ci,sV left].toArray 107)::(Ki++((d,.cells dc.toArray Td)::H)))) (res0 rfl) ⟨rfl,⟨hmost,hok⟩,pi,ci,Ki,hsi,rfl⟩
theorem tr_elW2(left:List UInt8)(bs:List UInt8)(pa:Option Addr)(ca:Nat)(Kb:Hp)(hb:Slc 5 1 (.slice pa bs.length ca) bs.length (bC bs) Kb)(hl:bs.length≤2^38)(eb off:Nat)(cc:List Value)(Te:TypeId)(e:El fsP)(hx:Lies cc off (cE fsP e)):
    TrE prog 128 [.pointer (some ⟨eb,off,none⟩),.pointer (some ⟨cp,0,none⟩)] ((cp,.cells [kP k].toArray 101)::((k,.cells [.bool false,.pointer (some ⟨k,1,none⟩),.slice pa bs.length ca,sV left].toArray 107)::(Kb++[(eb,.cells cc.toArray Te)]))) (fun u L' => u=.tuple #[]∧okE fsP e.1∧∃pa' ca' Kb', Slc 5 1 (.slice pa' (bs++encE fsP e.1).length ca') (bs++encE fsP e.1).length (bC (bs++encE fsP e.1)) Kb' ∧ L' = (cp,.cells [kP k].toArray 101)::((k,.cells [.bool false,.pointer (some ⟨k,1,none⟩),.slice pa' (bs++encE fsP e.1).length ca', sV left].toArray 107)::(Kb' ++ [(eb,.cells cc.toArray Te)]))) (fun c L' => c=badC∧¬okE fsP e.1∧L' = []):=by
  obtain ⟨a0,a1,a2,a3,a4,a5,a6,a7,he⟩:=El.eight rfl e;unfold cE at hx;have hr:=e.rg
  rw[he]at hx hr ⊢;exact tr_allW2 cp k left bs pa ca Kb hb hl eb off cc Te a0 a1 a2 a3 a4 a5 a6 a7 hr hx
theorem tr_elR2(adr bv:Value)(left:List UInt8)(hl:left.length≤2^40)(h1b:bv.oneCell' = true)(h1a:adr.oneCell' = true)(eb off:Nat)(cc:List Value)(Te:TypeId)(hx:Lies cc off (cE fsP (zEl fsP))):
    TrE prog 128 [.pointer (some ⟨eb,off,none⟩),.pointer (some ⟨cp,0,none⟩)] ((cp,.cells [kP k].toArray 101)::((k,.cells [.bool true,adr,bv,sV left].toArray 107)::[(eb,.cells cc.toArray Te)])) (fun u L' => u=.tuple #[]∧∃e' left', rdE fsP left=some (e', left')∧L' = (cp,.cells [kP k].toArray 101)::((k,.cells [.bool true,adr,bv,sV left'].toArray 107)::[(eb,.cells (setAt cc off (cE fsP (mkEl fsP e'))).toArray Te)])) (fun c L' => c=badC∧rdE fsP left=none∧L' = []) :=
  (tr_allR2 cp k adr bv left hl h1b h1a eb off cc Te hx).mono (fun u L' h=>by obtain ⟨hu,e', l', h1,h2⟩:=h;exact ⟨hu,e', l', h1,by rw[rdE_cE h1];exact h2⟩) (fun c L' h=>h)
theorem tr_listW2(left:List UInt8)(bs:List UInt8)(pa:Option Addr)(ca:Nat)(Kb:Hp)(hb:Slc 5 1 (.slice pa bs.length ca) bs.length (bC bs) Kb)(hl:bs.length≤2^37)(d o:Nat)(dc:List Value)(Td:TypeId)(v:Value)(hv:nth dc o=some v)(L:List (El fsP))(H:Hp)(hs:Slc 65 8 v L.length (cel (cE fsP) L) H):TrE prog 127 [kP k,.pointer (some ⟨d,o,none⟩),.int .i64 256,.func (.func 128) #[] #[.pointer (some ⟨cp,0,none⟩)]] ((cp,.cells [kP k].toArray 101)::((k,.cells [.bool false,.pointer (some ⟨k,1,none⟩),.slice pa bs.length ca,sV left].toArray 107)::(Kb++((d,.cells dc.toArray Td)::H)))) (fun u L' => u=.tuple #[]∧okL fsP 256 L∧∃pa' ca' Kb', Slc 5 1 (.slice pa' (bs++encL fsP L).length ca') (bs++encL fsP L).length (bC (bs++encL fsP L)) Kb' ∧ L' = (cp,.cells [kP k].toArray 101)::((k,.cells [.bool false,.pointer (some ⟨k,1,none⟩),.slice pa' (bs++encL fsP L).length ca', sV left].toArray 107)::(Kb' ++ ((d,.cells dc.toArray Td)::H)))) (fun c L' => c=badC∧¬okL fsP 256 L∧L' = []):=by
 obtain ⟨sa,sc,rfl⟩:=hs.form;have hw:widE fsP≤20:=by decide
 have hll:L.length≤256→L.length<9223372036854775807:=fun h=>by omega
 refine YX func127 ntmps127 fun W F=>?_
 refine zq [3,4,0,9] ?_;refine Yp (pv_load rfl rfl hv) ?_;refine Yp (pv_len_slice (T:=37) rfl rfl) ?_;refine Yq (ef_alloc1 tyZ3 rfl rfl) fun b1=>?_
 refine zq [25,2,5,3,3,4,8,0,44,2,5] ?_;refine Yd rfl (fun h1=>?_) (fun h1=>?_)
 ·
  refine zq [4,23,74] ?_;exact Ops.panic rfl ⟨[],⟨rfl,fun ho=>by have:=ho.1;omega,rfl⟩,inferInstance⟩
 have hmost:L.length≤256:=by omega
 refine zq [11,5,3,4,0] ?_;refine Yq (ef_buildSlice1 (k:=1) rfl rfl rfl rfl rfl) fun b2=>?_
 refine Ops.efx rfl (efx_call (tr_twoW k left bs pa ca Kb hb b2 278 [.pointer (some ⟨b1,0,none⟩)] b1 0 [.int .i64 (L.length:Int)] 3 [(L.length:Int)] rfl (one_hcc rfl) (by intro y hy;simp only[List.mem_cons,List.not_mem_nil,or_false]at hy;unfold RgI;omega) (by simp) (by simp) (by simp only[Y4,Y5];omega)) rfl rfl) ?_ ?_
 ·
  rintro _ _ ⟨_,⟨rfl,hno,rfl⟩,rfl⟩;exact ⟨[],⟨rfl,fun ho=>hno (by intro y hy;simp only[List.mem_cons,List.not_mem_nil,or_false]at hy;omega),rfl⟩,inferInstance⟩
 rintro _ _ ⟨_,_,⟨rfl,hok1,pa1,ca1,Kb1,hs1,rfl⟩,rfl,rfl⟩;refine Ops.app ?_;rw[encT1 (by omega)]at hs1 ⊢;refine zq [2,5,3,3,4,8,0,44,2,5] ?_;refine Yd rfl (fun h2=>by omega) (fun h2=>?_);refine zq [11,5,3,3,4,0,9,6,8,2,5,17,11,5,3,4,8,0,2,5,20] ?_;refine YM (σ:=Nat×List UInt8×Option Addr×Nat×Hp) [(0,_),(1,_),(3,_),(33,_)] (fun s=>[(34,.int .i64 s.1)]) (fun s=>(cp,.cells [kP k].toArray 101)::((k,.cells [.bool false,.pointer (some ⟨k,1,none⟩),.slice s.2.2.1 s.2.1.length s.2.2.2.1,sV left].toArray 107)::(s.2.2.2.2++((d,.cells dc.toArray Td)::(H++((b1,.cells [.int .i64 L.length].toArray 3)::F)))))) (fun s=>s.1≤L.length∧s.2.1=bs++leB 2 L.length++encI fsP (L.take s.1)∧s.2.1.length=bs.length+2+s.1*widE fsP∧(∀e,e∈L.take s.1→okE fsP e.1)∧Slc 5 1 (.slice s.2.2.1 s.2.1.length s.2.2.2.1) s.2.1.length (bC s.2.1) s.2.2.2.2) (fun s=>L.length-s.1) (0,bs++leB 2 L.length,pa1,ca1,Kb1) ⟨Nat.zero_le _,by simp[encI],by simp[leB_len],by intro x hx;simp at hx,hs1⟩ ?_;rintro ⟨i,b9,pi,ci,Ki⟩ KK ⟨hi,he9,hel,hok,hsi⟩ hK;dsimp only[Y1,Y2]at hK ⊢;dsimp only at hi he9 hel hok hsi ⊢;have hwi:i*widE fsP≤i*20:=Nat.mul_le_mul_left _ hw
 refine zq [3,4,42,2,5,3] ?_;refine Yd rfl (fun h3=>?_) (fun h3=>?_)
 ·
  obtain ⟨e,he⟩:∃e,L[i]?=some e:=Y9;obtain ⟨eb,eo,cc,cap,hva,rfl,hx,_⟩:=slc_el hs he (by decide);cases hva;refine zq [11,5,3,20,3,4,0,1,2,5,3,3,4,0,9,6,8,2,5,17,11,5,4,0,0,9] ?_;refine Yp (pv_load rfl rfl hv) ?_;refine zq [0] ?_;refine Yi rfl rfl (i) rfl ?_;refine Ops.efx rfl (efx_callf rfl rfl (tr_elW2 cp k left b9 pi ci Ki hsi (by omega) eb (eo+i*8) cc 65 e hx) rfl) ?_ ?_
  ·
   rintro _ _ ⟨_,⟨rfl,hno,rfl⟩,rfl⟩;exact ⟨[],⟨rfl,fun ho=>hno (ho.2 e (List.mem_of_getElem? he)),rfl⟩,inferInstance⟩
  rintro _ _ ⟨_,_,⟨rfl,hoke,pa3,ca3,Kb3,hs3,rfl⟩,rfl,rfl⟩;refine Ops.app ?_;refine zq [2,19,5,4] ?_;refine Ya rfl rfl (i+1) ?_;refine zq [0,2,49] ?_;refine Yy (hK (i+1,b9++encE fsP e.1,pa3,ca3,Kb3) ⟨by dsimp only;omega,by dsimp only;rw[encI_take he,he9,Y7],by dsimp only;rw[Y3,encE_len e.len,hel,Nat.add_mul];omega,all_take he hok hoke,hs3⟩ (by dsimp only;omega))
 obtain rfl:i=L.length:=by omega
 refine zq [41,16,16,40] ?_;rw[List.take_length]at he9 hok;have hbe:bs++encL fsP L=b9:=by rw[he9,encL,Y7]
 rw[hbe];exact Ends.finE (L' := (cp,.cells [kP k].toArray 101)::((k,.cells [.bool false,.pointer (some ⟨k,1,none⟩),.slice pi b9.length ci,sV left].toArray 107)::(Ki++((d,.cells dc.toArray Td)::H)))) (res0 rfl) ⟨rfl,⟨hmost,hok⟩,pi,ci,Ki,hsi,rfl⟩
theorem tr_elW3(left:List UInt8)(bs:List UInt8)(pa:Option Addr)(ca:Nat)(Kb:Hp)(hb:Slc 5 1 (.slice pa bs.length ca) bs.length (bC bs) Kb)(hl:bs.length≤2^38)(eb off:Nat)(cc:List Value)(Te:TypeId)(e:El fsM)(hx:Lies cc off (cE fsM e)):
    TrE prog 131 [.pointer (some ⟨eb,off,none⟩),.pointer (some ⟨cp,0,none⟩)] ((cp,.cells [kP k].toArray 101)::((k,.cells [.bool false,.pointer (some ⟨k,1,none⟩),.slice pa bs.length ca,sV left].toArray 107)::(Kb++[(eb,.cells cc.toArray Te)]))) (fun u L' => u=.tuple #[]∧okE fsM e.1∧∃pa' ca' Kb', Slc 5 1 (.slice pa' (bs++encE fsM e.1).length ca') (bs++encE fsM e.1).length (bC (bs++encE fsM e.1)) Kb' ∧ L' = (cp,.cells [kP k].toArray 101)::((k,.cells [.bool false,.pointer (some ⟨k,1,none⟩),.slice pa' (bs++encE fsM e.1).length ca', sV left].toArray 107)::(Kb' ++ [(eb,.cells cc.toArray Te)]))) (fun c L' => c=badC∧¬okE fsM e.1∧L' = []):=by
  obtain ⟨a0,a1,a2,a3,he⟩:=El.four rfl e;unfold cE at hx;have hr:=e.rg
  rw[he]at hx hr ⊢;exact tr_allW3 cp k left bs pa ca Kb hb hl eb off cc Te a0 a1 a2 a3 hr hx
theorem tr_elR3(adr bv:Value)(left:List UInt8)(hl:left.length≤2^40)(h1b:bv.oneCell' = true)(h1a:adr.oneCell' = true)(eb off:Nat)(cc:List Value)(Te:TypeId)(hx:Lies cc off (cE fsM (zEl fsM))):
    TrE prog 131 [.pointer (some ⟨eb,off,none⟩),.pointer (some ⟨cp,0,none⟩)] ((cp,.cells [kP k].toArray 101)::((k,.cells [.bool true,adr,bv,sV left].toArray 107)::[(eb,.cells cc.toArray Te)])) (fun u L' => u=.tuple #[]∧∃e' left', rdE fsM left=some (e', left')∧L' = (cp,.cells [kP k].toArray 101)::((k,.cells [.bool true,adr,bv,sV left'].toArray 107)::[(eb,.cells (setAt cc off (cE fsM (mkEl fsM e'))).toArray Te)])) (fun c L' => c=badC∧rdE fsM left=none∧L' = []) :=
  (tr_allR3 cp k adr bv left hl h1b h1a eb off cc Te hx).mono (fun u L' h=>by obtain ⟨hu,e', l', h1,h2⟩:=h;exact ⟨hu,e', l', h1,by rw[rdE_cE h1];exact h2⟩) (fun c L' h=>h)
theorem tr_listW3(left:List UInt8)(bs:List UInt8)(pa:Option Addr)(ca:Nat)(Kb:Hp)(hb:Slc 5 1 (.slice pa bs.length ca) bs.length (bC bs) Kb)(hl:bs.length≤2^37)(d o:Nat)(dc:List Value)(Td:TypeId)(v:Value)(hv:nth dc o=some v)(L:List (El fsM))(H:Hp)(hs:Slc 69 4 v L.length (cel (cE fsM) L) H):TrE prog 130 [kP k,.pointer (some ⟨d,o,none⟩),.int .i64 64,.func (.func 131) #[] #[.pointer (some ⟨cp,0,none⟩)]] ((cp,.cells [kP k].toArray 101)::((k,.cells [.bool false,.pointer (some ⟨k,1,none⟩),.slice pa bs.length ca,sV left].toArray 107)::(Kb++((d,.cells dc.toArray Td)::H)))) (fun u L' => u=.tuple #[]∧okL fsM 64 L∧∃pa' ca' Kb', Slc 5 1 (.slice pa' (bs++encL fsM L).length ca') (bs++encL fsM L).length (bC (bs++encL fsM L)) Kb' ∧ L' = (cp,.cells [kP k].toArray 101)::((k,.cells [.bool false,.pointer (some ⟨k,1,none⟩),.slice pa' (bs++encL fsM L).length ca', sV left].toArray 107)::(Kb' ++ ((d,.cells dc.toArray Td)::H)))) (fun c L' => c=badC∧¬okL fsM 64 L∧L' = []):=by
 obtain ⟨sa,sc,rfl⟩:=hs.form;have hw:widE fsM≤20:=by decide
 have hll:L.length≤64→L.length<9223372036854775807:=fun h=>by omega
 refine YX func130 ntmps130 fun W F=>?_
 refine zq [3,4,0,9] ?_;refine Yp (pv_load rfl rfl hv) ?_;refine Yp (pv_len_slice (T:=38) rfl rfl) ?_;refine Yq (ef_alloc1 tyZ3 rfl rfl) fun b1=>?_
 refine zq [25,2,5,3,3,4,8,0,44,2,5] ?_;refine Yd rfl (fun h1=>?_) (fun h1=>?_)
 ·
  refine zq [4,23,74] ?_;exact Ops.panic rfl ⟨[],⟨rfl,fun ho=>by have:=ho.1;omega,rfl⟩,inferInstance⟩
 have hmost:L.length≤64:=by omega
 refine zq [11,5,3,4,0] ?_;refine Yq (ef_buildSlice1 (k:=1) rfl rfl rfl rfl rfl) fun b2=>?_
 refine Ops.efx rfl (efx_call (tr_twoW k left bs pa ca Kb hb b2 278 [.pointer (some ⟨b1,0,none⟩)] b1 0 [.int .i64 (L.length:Int)] 3 [(L.length:Int)] rfl (one_hcc rfl) (by intro y hy;simp only[List.mem_cons,List.not_mem_nil,or_false]at hy;unfold RgI;omega) (by simp) (by simp) (by simp only[Y4,Y5];omega)) rfl rfl) ?_ ?_
 ·
  rintro _ _ ⟨_,⟨rfl,hno,rfl⟩,rfl⟩;exact ⟨[],⟨rfl,fun ho=>hno (by intro y hy;simp only[List.mem_cons,List.not_mem_nil,or_false]at hy;omega),rfl⟩,inferInstance⟩
 rintro _ _ ⟨_,_,⟨rfl,hok1,pa1,ca1,Kb1,hs1,rfl⟩,rfl,rfl⟩;refine Ops.app ?_;rw[encT1 (by omega)]at hs1 ⊢;refine zq [2,5,3,3,4,8,0,44,2,5] ?_;refine Yd rfl (fun h2=>by omega) (fun h2=>?_);refine zq [11,5,3,3,4,0,9,6,8,2,5,17,11,5,3,4,8,0,2,5,20] ?_;refine YM (σ:=Nat×List UInt8×Option Addr×Nat×Hp) [(0,_),(1,_),(3,_),(33,_)] (fun s=>[(34,.int .i64 s.1)]) (fun s=>(cp,.cells [kP k].toArray 101)::((k,.cells [.bool false,.pointer (some ⟨k,1,none⟩),.slice s.2.2.1 s.2.1.length s.2.2.2.1,sV left].toArray 107)::(s.2.2.2.2++((d,.cells dc.toArray Td)::(H++((b1,.cells [.int .i64 L.length].toArray 3)::F)))))) (fun s=>s.1≤L.length∧s.2.1=bs++leB 2 L.length++encI fsM (L.take s.1)∧s.2.1.length=bs.length+2+s.1*widE fsM∧(∀e,e∈L.take s.1→okE fsM e.1)∧Slc 5 1 (.slice s.2.2.1 s.2.1.length s.2.2.2.1) s.2.1.length (bC s.2.1) s.2.2.2.2) (fun s=>L.length-s.1) (0,bs++leB 2 L.length,pa1,ca1,Kb1) ⟨Nat.zero_le _,by simp[encI],by simp[leB_len],by intro x hx;simp at hx,hs1⟩ ?_;rintro ⟨i,b9,pi,ci,Ki⟩ KK ⟨hi,he9,hel,hok,hsi⟩ hK;dsimp only[Y1,Y2]at hK ⊢;dsimp only at hi he9 hel hok hsi ⊢;have hwi:i*widE fsM≤i*20:=Nat.mul_le_mul_left _ hw
 refine zq [3,4,42,2,5,3] ?_;refine Yd rfl (fun h3=>?_) (fun h3=>?_)
 ·
  obtain ⟨e,he⟩:∃e,L[i]?=some e:=Y9;obtain ⟨eb,eo,cc,cap,hva,rfl,hx,_⟩:=slc_el hs he (by decide);cases hva;refine zq [11,5,3,20,3,4,0,1,2,5,3,3,4,0,9,6,8,2,5,17,11,5,4,0,0,9] ?_;refine Yp (pv_load rfl rfl hv) ?_;refine zq [0] ?_;refine Yi rfl rfl (i) rfl ?_;refine Ops.efx rfl (efx_callf rfl rfl (tr_elW3 cp k left b9 pi ci Ki hsi (by omega) eb (eo+i*4) cc 69 e hx) rfl) ?_ ?_
  ·
   rintro _ _ ⟨_,⟨rfl,hno,rfl⟩,rfl⟩;exact ⟨[],⟨rfl,fun ho=>hno (ho.2 e (List.mem_of_getElem? he)),rfl⟩,inferInstance⟩
  rintro _ _ ⟨_,_,⟨rfl,hoke,pa3,ca3,Kb3,hs3,rfl⟩,rfl,rfl⟩;refine Ops.app ?_;refine zq [2,19,5,4] ?_;refine Ya rfl rfl (i+1) ?_;refine zq [0,2,49] ?_;refine Yy (hK (i+1,b9++encE fsM e.1,pa3,ca3,Kb3) ⟨by dsimp only;omega,by dsimp only;rw[encI_take he,he9,Y7],by dsimp only;rw[Y3,encE_len e.len,hel,Nat.add_mul];omega,all_take he hok hoke,hs3⟩ (by dsimp only;omega))
 obtain rfl:i=L.length:=by omega
 refine zq [41,16,16,40] ?_;rw[List.take_length]at he9 hok;have hbe:bs++encL fsM L=b9:=by rw[he9,encL,Y7]
 rw[hbe];exact Ends.finE (L' := (cp,.cells [kP k].toArray 101)::((k,.cells [.bool false,.pointer (some ⟨k,1,none⟩),.slice pi b9.length ci,sV left].toArray 107)::(Ki++((d,.cells dc.toArray Td)::H)))) (res0 rfl) ⟨rfl,⟨hmost,hok⟩,pi,ci,Ki,hsi,rfl⟩
theorem tr_elW4(left:List UInt8)(bs:List UInt8)(pa:Option Addr)(ca:Nat)(Kb:Hp)(hb:Slc 5 1 (.slice pa bs.length ca) bs.length (bC bs) Kb)(hl:bs.length≤2^38)(eb off:Nat)(cc:List Value)(Te:TypeId)(e:El fsF)(hx:Lies cc off (cE fsF e)):
    TrE prog 134 [.pointer (some ⟨eb,off,none⟩),.pointer (some ⟨cp,0,none⟩)] ((cp,.cells [kP k].toArray 101)::((k,.cells [.bool false,.pointer (some ⟨k,1,none⟩),.slice pa bs.length ca,sV left].toArray 107)::(Kb++[(eb,.cells cc.toArray Te)]))) (fun u L' => u=.tuple #[]∧okE fsF e.1∧∃pa' ca' Kb', Slc 5 1 (.slice pa' (bs++encE fsF e.1).length ca') (bs++encE fsF e.1).length (bC (bs++encE fsF e.1)) Kb' ∧ L' = (cp,.cells [kP k].toArray 101)::((k,.cells [.bool false,.pointer (some ⟨k,1,none⟩),.slice pa' (bs++encE fsF e.1).length ca', sV left].toArray 107)::(Kb' ++ [(eb,.cells cc.toArray Te)]))) (fun c L' => c=badC∧¬okE fsF e.1∧L' = []):=by
  obtain ⟨a0,a1,a2,he⟩:=El.three rfl e;unfold cE at hx;have hr:=e.rg
  rw[he]at hx hr ⊢;exact tr_allW4 cp k left bs pa ca Kb hb hl eb off cc Te a0 a1 a2 hr hx
theorem tr_elR4(adr bv:Value)(left:List UInt8)(hl:left.length≤2^40)(h1b:bv.oneCell' = true)(h1a:adr.oneCell' = true)(eb off:Nat)(cc:List Value)(Te:TypeId)(hx:Lies cc off (cE fsF (zEl fsF))):
    TrE prog 134 [.pointer (some ⟨eb,off,none⟩),.pointer (some ⟨cp,0,none⟩)] ((cp,.cells [kP k].toArray 101)::((k,.cells [.bool true,adr,bv,sV left].toArray 107)::[(eb,.cells cc.toArray Te)])) (fun u L' => u=.tuple #[]∧∃e' left', rdE fsF left=some (e', left')∧L' = (cp,.cells [kP k].toArray 101)::((k,.cells [.bool true,adr,bv,sV left'].toArray 107)::[(eb,.cells (setAt cc off (cE fsF (mkEl fsF e'))).toArray Te)])) (fun c L' => c=badC∧rdE fsF left=none∧L' = []) :=
  (tr_allR4 cp k adr bv left hl h1b h1a eb off cc Te hx).mono (fun u L' h=>by obtain ⟨hu,e', l', h1,h2⟩:=h;exact ⟨hu,e', l', h1,by rw[rdE_cE h1];exact h2⟩) (fun c L' h=>h)
theorem tr_listW4(left:List UInt8)(bs:List UInt8)(pa:Option Addr)(ca:Nat)(Kb:Hp)(hb:Slc 5 1 (.slice pa bs.length ca) bs.length (bC bs) Kb)(hl:bs.length≤2^37)(d o:Nat)(dc:List Value)(Td:TypeId)(v:Value)(hv:nth dc o=some v)(L:List (El fsF))(H:Hp)(hs:Slc 119 3 v L.length (cel (cE fsF) L) H):TrE prog 133 [kP k,.pointer (some ⟨d,o,none⟩),.int .i64 512,.func (.func 134) #[] #[.pointer (some ⟨cp,0,none⟩)]] ((cp,.cells [kP k].toArray 101)::((k,.cells [.bool false,.pointer (some ⟨k,1,none⟩),.slice pa bs.length ca,sV left].toArray 107)::(Kb++((d,.cells dc.toArray Td)::H)))) (fun u L' => u=.tuple #[]∧okL fsF 512 L∧∃pa' ca' Kb', Slc 5 1 (.slice pa' (bs++encL fsF L).length ca') (bs++encL fsF L).length (bC (bs++encL fsF L)) Kb' ∧ L' = (cp,.cells [kP k].toArray 101)::((k,.cells [.bool false,.pointer (some ⟨k,1,none⟩),.slice pa' (bs++encL fsF L).length ca', sV left].toArray 107)::(Kb' ++ ((d,.cells dc.toArray Td)::H)))) (fun c L' => c=badC∧¬okL fsF 512 L∧L' = []):=by
 obtain ⟨sa,sc,rfl⟩:=hs.form;have hw:widE fsF≤20:=by decide
 have hll:L.length≤512→L.length<9223372036854775807:=fun h=>by omega
 refine YX func133 ntmps133 fun W F=>?_
 refine zq [3,4,0,9] ?_;refine Yp (pv_load rfl rfl hv) ?_;refine Yp (pv_len_slice (T:=39) rfl rfl) ?_;refine Yq (ef_alloc1 tyZ3 rfl rfl) fun b1=>?_
 refine zq [25,2,5,3,3,4,8,0,44,2,5] ?_;refine Yd rfl (fun h1=>?_) (fun h1=>?_)
 ·
  refine zq [4,23,74] ?_;exact Ops.panic rfl ⟨[],⟨rfl,fun ho=>by have:=ho.1;omega,rfl⟩,inferInstance⟩
 have hmost:L.length≤512:=by omega
 refine zq [11,5,3,4,0] ?_;refine Yq (ef_buildSlice1 (k:=1) rfl rfl rfl rfl rfl) fun b2=>?_
 refine Ops.efx rfl (efx_call (tr_twoW k left bs pa ca Kb hb b2 278 [.pointer (some ⟨b1,0,none⟩)] b1 0 [.int .i64 (L.length:Int)] 3 [(L.length:Int)] rfl (one_hcc rfl) (by intro y hy;simp only[List.mem_cons,List.not_mem_nil,or_false]at hy;unfold RgI;omega) (by simp) (by simp) (by simp only[Y4,Y5];omega)) rfl rfl) ?_ ?_
 ·
  rintro _ _ ⟨_,⟨rfl,hno,rfl⟩,rfl⟩;exact ⟨[],⟨rfl,fun ho=>hno (by intro y hy;simp only[List.mem_cons,List.not_mem_nil,or_false]at hy;omega),rfl⟩,inferInstance⟩
 rintro _ _ ⟨_,_,⟨rfl,hok1,pa1,ca1,Kb1,hs1,rfl⟩,rfl,rfl⟩;refine Ops.app ?_;rw[encT1 (by omega)]at hs1 ⊢;refine zq [2,5,3,3,4,8,0,44,2,5] ?_;refine Yd rfl (fun h2=>by omega) (fun h2=>?_);refine zq [11,5,3,3,4,0,9,6,8,2,5,17,11,5,3,4,8,0,2,5,20] ?_;refine YM (σ:=Nat×List UInt8×Option Addr×Nat×Hp) [(0,_),(1,_),(3,_),(33,_)] (fun s=>[(34,.int .i64 s.1)]) (fun s=>(cp,.cells [kP k].toArray 101)::((k,.cells [.bool false,.pointer (some ⟨k,1,none⟩),.slice s.2.2.1 s.2.1.length s.2.2.2.1,sV left].toArray 107)::(s.2.2.2.2++((d,.cells dc.toArray Td)::(H++((b1,.cells [.int .i64 L.length].toArray 3)::F)))))) (fun s=>s.1≤L.length∧s.2.1=bs++leB 2 L.length++encI fsF (L.take s.1)∧s.2.1.length=bs.length+2+s.1*widE fsF∧(∀e,e∈L.take s.1→okE fsF e.1)∧Slc 5 1 (.slice s.2.2.1 s.2.1.length s.2.2.2.1) s.2.1.length (bC s.2.1) s.2.2.2.2) (fun s=>L.length-s.1) (0,bs++leB 2 L.length,pa1,ca1,Kb1) ⟨Nat.zero_le _,by simp[encI],by simp[leB_len],by intro x hx;simp at hx,hs1⟩ ?_;rintro ⟨i,b9,pi,ci,Ki⟩ KK ⟨hi,he9,hel,hok,hsi⟩ hK;dsimp only[Y1,Y2]at hK ⊢;dsimp only at hi he9 hel hok hsi ⊢;have hwi:i*widE fsF≤i*20:=Nat.mul_le_mul_left _ hw
 refine zq [3,4,42,2,5,3] ?_;refine Yd rfl (fun h3=>?_) (fun h3=>?_)
 ·
  obtain ⟨e,he⟩:∃e,L[i]?=some e:=Y9;obtain ⟨eb,eo,cc,cap,hva,rfl,hx,_⟩:=slc_el hs he (by decide);cases hva;refine zq [11,5,3,20,3,4,0,1,2,5,3,3,4,0,9,6,8,2,5,17,11,5,4,0,0,9] ?_;refine Yp (pv_load rfl rfl hv) ?_;refine zq [0] ?_;refine Yi rfl rfl (i) rfl ?_;refine Ops.efx rfl (efx_callf rfl rfl (tr_elW4 cp k left b9 pi ci Ki hsi (by omega) eb (eo+i*3) cc 119 e hx) rfl) ?_ ?_
  ·
   rintro _ _ ⟨_,⟨rfl,hno,rfl⟩,rfl⟩;exact ⟨[],⟨rfl,fun ho=>hno (ho.2 e (List.mem_of_getElem? he)),rfl⟩,inferInstance⟩
  rintro _ _ ⟨_,_,⟨rfl,hoke,pa3,ca3,Kb3,hs3,rfl⟩,rfl,rfl⟩;refine Ops.app ?_;refine zq [2,19,5,4] ?_;refine Ya rfl rfl (i+1) ?_;refine zq [0,2,49] ?_;refine Yy (hK (i+1,b9++encE fsF e.1,pa3,ca3,Kb3) ⟨by dsimp only;omega,by dsimp only;rw[encI_take he,he9,Y7],by dsimp only;rw[Y3,encE_len e.len,hel,Nat.add_mul];omega,all_take he hok hoke,hs3⟩ (by dsimp only;omega))
 obtain rfl:i=L.length:=by omega
 refine zq [41,16,16,40] ?_;rw[List.take_length]at he9 hok;have hbe:bs++encL fsF L=b9:=by rw[he9,encL,Y7]
 rw[hbe];exact Ends.finE (L' := (cp,.cells [kP k].toArray 101)::((k,.cells [.bool false,.pointer (some ⟨k,1,none⟩),.slice pi b9.length ci,sV left].toArray 107)::(Ki++((d,.cells dc.toArray Td)::H)))) (res0 rfl) ⟨rfl,⟨hmost,hok⟩,pi,ci,Ki,hsi,rfl⟩
theorem tr_elW5(left:List UInt8)(bs:List UInt8)(pa:Option Addr)(ca:Nat)(Kb:Hp)(hb:Slc 5 1 (.slice pa bs.length ca) bs.length (bC bs) Kb)(hl:bs.length≤2^38)(eb off:Nat)(cc:List Value)(Te:TypeId)(e:El fsT)(hx:Lies cc off (cE fsT e)):
    TrE prog 136 [.pointer (some ⟨eb,off,none⟩),.pointer (some ⟨cp,0,none⟩)] ((cp,.cells [kP k].toArray 101)::((k,.cells [.bool false,.pointer (some ⟨k,1,none⟩),.slice pa bs.length ca,sV left].toArray 107)::(Kb++[(eb,.cells cc.toArray Te)]))) (fun u L' => u=.tuple #[]∧okE fsT e.1∧∃pa' ca' Kb', Slc 5 1 (.slice pa' (bs++encE fsT e.1).length ca') (bs++encE fsT e.1).length (bC (bs++encE fsT e.1)) Kb' ∧ L' = (cp,.cells [kP k].toArray 101)::((k,.cells [.bool false,.pointer (some ⟨k,1,none⟩),.slice pa' (bs++encE fsT e.1).length ca', sV left].toArray 107)::(Kb' ++ [(eb,.cells cc.toArray Te)]))) (fun c L' => c=badC∧¬okE fsT e.1∧L' = []):=by
  obtain ⟨a0,a1,a2,a3,a4,a5,a6,a7,he⟩:=El.eight rfl e;unfold cE at hx;have hr:=e.rg
  rw[he]at hx hr ⊢;exact tr_allW5 cp k left bs pa ca Kb hb hl eb off cc Te a0 a1 a2 a3 a4 a5 a6 a7 hr hx
theorem tr_elR5(adr bv:Value)(left:List UInt8)(hl:left.length≤2^40)(h1b:bv.oneCell' = true)(h1a:adr.oneCell' = true)(eb off:Nat)(cc:List Value)(Te:TypeId)(hx:Lies cc off (cE fsT (zEl fsT))):
    TrE prog 136 [.pointer (some ⟨eb,off,none⟩),.pointer (some ⟨cp,0,none⟩)] ((cp,.cells [kP k].toArray 101)::((k,.cells [.bool true,adr,bv,sV left].toArray 107)::[(eb,.cells cc.toArray Te)])) (fun u L' => u=.tuple #[]∧∃e' left', rdE fsT left=some (e', left')∧L' = (cp,.cells [kP k].toArray 101)::((k,.cells [.bool true,adr,bv,sV left'].toArray 107)::[(eb,.cells (setAt cc off (cE fsT (mkEl fsT e'))).toArray Te)])) (fun c L' => c=badC∧rdE fsT left=none∧L' = []) :=
  (tr_allR5 cp k adr bv left hl h1b h1a eb off cc Te hx).mono (fun u L' h=>by obtain ⟨hu,e', l', h1,h2⟩:=h;exact ⟨hu,e', l', h1,by rw[rdE_cE h1];exact h2⟩) (fun c L' h=>h)
theorem tr_listW5(left:List UInt8)(bs:List UInt8)(pa:Option Addr)(ca:Nat)(Kb:Hp)(hb:Slc 5 1 (.slice pa bs.length ca) bs.length (bC bs) Kb)(hl:bs.length≤2^37)(d o:Nat)(dc:List Value)(Td:TypeId)(v:Value)(hv:nth dc o=some v)(L:List (El fsT))(H:Hp)(hs:Slc 67 8 v L.length (cel (cE fsT) L) H):TrE prog 135 [kP k,.pointer (some ⟨d,o,none⟩),.int .i64 64,.func (.func 136) #[] #[.pointer (some ⟨cp,0,none⟩)]] ((cp,.cells [kP k].toArray 101)::((k,.cells [.bool false,.pointer (some ⟨k,1,none⟩),.slice pa bs.length ca,sV left].toArray 107)::(Kb++((d,.cells dc.toArray Td)::H)))) (fun u L' => u=.tuple #[]∧okL fsT 64 L∧∃pa' ca' Kb', Slc 5 1 (.slice pa' (bs++encL fsT L).length ca') (bs++encL fsT L).length (bC (bs++encL fsT L)) Kb' ∧ L' = (cp,.cells [kP k].toArray 101)::((k,.cells [.bool false,.pointer (some ⟨k,1,none⟩),.slice pa' (bs++encL fsT L).length ca', sV left].toArray 107)::(Kb' ++ ((d,.cells dc.toArray Td)::H)))) (fun c L' => c=badC∧¬okL fsT 64 L∧L' = []):=by
 obtain ⟨sa,sc,rfl⟩:=hs.form;have hw:widE fsT≤20:=by decide
 have hll:L.length≤64→L.length<9223372036854775807:=fun h=>by omega
 refine YX func135 ntmps135 fun W F=>?_
 refine zq [3,4,0,9] ?_;refine Yp (pv_load rfl rfl hv) ?_;refine Yp (pv_len_slice (T:=40) rfl rfl) ?_;refine Yq (ef_alloc1 tyZ3 rfl rfl) fun b1=>?_
 refine zq [25,2,5,3,3,4,8,0,44,2,5] ?_;refine Yd rfl (fun h1=>?_) (fun h1=>?_)
 ·
  refine zq [4,23,74] ?_;exact Ops.panic rfl ⟨[],⟨rfl,fun ho=>by have:=ho.1;omega,rfl⟩,inferInstance⟩
 have hmost:L.length≤64:=by omega
 refine zq [11,5,3,4,0] ?_;refine Yq (ef_buildSlice1 (k:=1) rfl rfl rfl rfl rfl) fun b2=>?_
 refine Ops.efx rfl (efx_call (tr_twoW k left bs pa ca Kb hb b2 278 [.pointer (some ⟨b1,0,none⟩)] b1 0 [.int .i64 (L.length:Int)] 3 [(L.length:Int)] rfl (one_hcc rfl) (by intro y hy;simp only[List.mem_cons,List.not_mem_nil,or_false]at hy;unfold RgI;omega) (by simp) (by simp) (by simp only[Y4,Y5];omega)) rfl rfl) ?_ ?_
 ·
  rintro _ _ ⟨_,⟨rfl,hno,rfl⟩,rfl⟩;exact ⟨[],⟨rfl,fun ho=>hno (by intro y hy;simp only[List.mem_cons,List.not_mem_nil,or_false]at hy;omega),rfl⟩,inferInstance⟩
 rintro _ _ ⟨_,_,⟨rfl,hok1,pa1,ca1,Kb1,hs1,rfl⟩,rfl,rfl⟩;refine Ops.app ?_;rw[encT1 (by omega)]at hs1 ⊢;refine zq [2,5,3,3,4,8,0,44,2,5] ?_;refine Yd rfl (fun h2=>by omega) (fun h2=>?_);refine zq [11,5,3,3,4,0,9,6,8,2,5,17,11,5,3,4,8,0,2,5,20] ?_;refine YM (σ:=Nat×List UInt8×Option Addr×Nat×Hp) [(0,_),(1,_),(3,_),(33,_)] (fun s=>[(34,.int .i64 s.1)]) (fun s=>(cp,.cells [kP k].toArray 101)::((k,.cells [.bool false,.pointer (some ⟨k,1,none⟩),.slice s.2.2.1 s.2.1.length s.2.2.2.1,sV left].toArray 107)::(s.2.2.2.2++((d,.cells dc.toArray Td)::(H++((b1,.cells [.int .i64 L.length].toArray 3)::F)))))) (fun s=>s.1≤L.length∧s.2.1=bs++leB 2 L.length++encI fsT (L.take s.1)∧s.2.1.length=bs.length+2+s.1*widE fsT∧(∀e,e∈L.take s.1→okE fsT e.1)∧Slc 5 1 (.slice s.2.2.1 s.2.1.length s.2.2.2.1) s.2.1.length (bC s.2.1) s.2.2.2.2) (fun s=>L.length-s.1) (0,bs++leB 2 L.length,pa1,ca1,Kb1) ⟨Nat.zero_le _,by simp[encI],by simp[leB_len],by intro x hx;simp at hx,hs1⟩ ?_;rintro ⟨i,b9,pi,ci,Ki⟩ KK ⟨hi,he9,hel,hok,hsi⟩ hK;dsimp only[Y1,Y2]at hK ⊢;dsimp only at hi he9 hel hok hsi ⊢;have hwi:i*widE fsT≤i*20:=Nat.mul_le_mul_left _ hw
 refine zq [3,4,42,2,5,3] ?_;refine Yd rfl (fun h3=>?_) (fun h3=>?_)
 ·
  obtain ⟨e,he⟩:∃e,L[i]?=some e:=Y9;obtain ⟨eb,eo,cc,cap,hva,rfl,hx,_⟩:=slc_el hs he (by decide);cases hva;refine zq [11,5,3,20,3,4,0,1,2,5,3,3,4,0,9,6,8,2,5,17,11,5,4,0,0,9] ?_;refine Yp (pv_load rfl rfl hv) ?_;refine zq [0] ?_;refine Yi rfl rfl (i) rfl ?_;refine Ops.efx rfl (efx_callf rfl rfl (tr_elW5 cp k left b9 pi ci Ki hsi (by omega) eb (eo+i*8) cc 67 e hx) rfl) ?_ ?_
  ·
   rintro _ _ ⟨_,⟨rfl,hno,rfl⟩,rfl⟩;exact ⟨[],⟨rfl,fun ho=>hno (ho.2 e (List.mem_of_getElem? he)),rfl⟩,inferInstance⟩
  rintro _ _ ⟨_,_,⟨rfl,hoke,pa3,ca3,Kb3,hs3,rfl⟩,rfl,rfl⟩;refine Ops.app ?_;refine zq [2,19,5,4] ?_;refine Ya rfl rfl (i+1) ?_;refine zq [0,2,49] ?_;refine Yy (hK (i+1,b9++encE fsT e.1,pa3,ca3,Kb3) ⟨by dsimp only;omega,by dsimp only;rw[encI_take he,he9,Y7],by dsimp only;rw[Y3,encE_len e.len,hel,Nat.add_mul];omega,all_take he hok hoke,hs3⟩ (by dsimp only;omega))
 obtain rfl:i=L.length:=by omega
 refine zq [41,16,16,40] ?_;rw[List.take_length]at he9 hok;have hbe:bs++encL fsT L=b9:=by rw[he9,encL,Y7]
 rw[hbe];exact Ends.finE (L' := (cp,.cells [kP k].toArray 101)::((k,.cells [.bool false,.pointer (some ⟨k,1,none⟩),.slice pi b9.length ci,sV left].toArray 107)::(Ki++((d,.cells dc.toArray Td)::H)))) (res0 rfl) ⟨rfl,⟨hmost,hok⟩,pi,ci,Ki,hsi,rfl⟩
theorem tr_elW6(left:List UInt8)(bs:List UInt8)(pa:Option Addr)(ca:Nat)(Kb:Hp)(hb:Slc 5 1 (.slice pa bs.length ca) bs.length (bC bs) Kb)(hl:bs.length≤2^38)(eb off:Nat)(cc:List Value)(Te:TypeId)(e:El fsW)(hx:Lies cc off (cE fsW e)):
    TrE prog 138 [.pointer (some ⟨eb,off,none⟩),.pointer (some ⟨cp,0,none⟩)] ((cp,.cells [kP k].toArray 101)::((k,.cells [.bool false,.pointer (some ⟨k,1,none⟩),.slice pa bs.length ca,sV left].toArray 107)::(Kb++[(eb,.cells cc.toArray Te)]))) (fun u L' => u=.tuple #[]∧okE fsW e.1∧∃pa' ca' Kb', Slc 5 1 (.slice pa' (bs++encE fsW e.1).length ca') (bs++encE fsW e.1).length (bC (bs++encE fsW e.1)) Kb' ∧ L' = (cp,.cells [kP k].toArray 101)::((k,.cells [.bool false,.pointer (some ⟨k,1,none⟩),.slice pa' (bs++encE fsW e.1).length ca', sV left].toArray 107)::(Kb' ++ [(eb,.cells cc.toArray Te)]))) (fun c L' => c=badC∧¬okE fsW e.1∧L' = []):=by
  obtain ⟨a0,a1,a2,a3,he⟩:=El.four rfl e;unfold cE at hx;have hr:=e.rg
  rw[he]at hx hr ⊢;exact tr_allW6 cp k left bs pa ca Kb hb hl eb off cc Te a0 a1 a2 a3 hr hx
theorem tr_elR6(adr bv:Value)(left:List UInt8)(hl:left.length≤2^40)(h1b:bv.oneCell' = true)(h1a:adr.oneCell' = true)(eb off:Nat)(cc:List Value)(Te:TypeId)(hx:Lies cc off (cE fsW (zEl fsW))):
    TrE prog 138 [.pointer (some ⟨eb,off,none⟩),.pointer (some ⟨cp,0,none⟩)] ((cp,.cells [kP k].toArray 101)::((k,.cells [.bool true,adr,bv,sV left].toArray 107)::[(eb,.cells cc.toArray Te)])) (fun u L' => u=.tuple #[]∧∃e' left', rdE fsW left=some (e', left')∧L' = (cp,.cells [kP k].toArray 101)::((k,.cells [.bool true,adr,bv,sV left'].toArray 107)::[(eb,.cells (setAt cc off (cE fsW (mkEl fsW e'))).toArray Te)])) (fun c L' => c=badC∧rdE fsW left=none∧L' = []) :=
  (tr_allR6 cp k adr bv left hl h1b h1a eb off cc Te hx).mono (fun u L' h=>by obtain ⟨hu,e', l', h1,h2⟩:=h;exact ⟨hu,e', l', h1,by rw[rdE_cE h1];exact h2⟩) (fun c L' h=>h)
theorem tr_listW6(left:List UInt8)(bs:List UInt8)(pa:Option Addr)(ca:Nat)(Kb:Hp)(hb:Slc 5 1 (.slice pa bs.length ca) bs.length (bC bs) Kb)(hl:bs.length≤2^37)(d o:Nat)(dc:List Value)(Td:TypeId)(v:Value)(hv:nth dc o=some v)(L:List (El fsW))(H:Hp)(hs:Slc 122 4 v L.length (cel (cE fsW) L) H):TrE prog 137 [kP k,.pointer (some ⟨d,o,none⟩),.int .i64 8,.func (.func 138) #[] #[.pointer (some ⟨cp,0,none⟩)]] ((cp,.cells [kP k].toArray 101)::((k,.cells [.bool false,.pointer (some ⟨k,1,none⟩),.slice pa bs.length ca,sV left].toArray 107)::(Kb++((d,.cells dc.toArray Td)::H)))) (fun u L' => u=.tuple #[]∧okL fsW 8 L∧∃pa' ca' Kb', Slc 5 1 (.slice pa' (bs++encL fsW L).length ca') (bs++encL fsW L).length (bC (bs++encL fsW L)) Kb' ∧ L' = (cp,.cells [kP k].toArray 101)::((k,.cells [.bool false,.pointer (some ⟨k,1,none⟩),.slice pa' (bs++encL fsW L).length ca', sV left].toArray 107)::(Kb' ++ ((d,.cells dc.toArray Td)::H)))) (fun c L' => c=badC∧¬okL fsW 8 L∧L' = []):=by
 obtain ⟨sa,sc,rfl⟩:=hs.form;have hw:widE fsW≤20:=by decide
 have hll:L.length≤8→L.length<9223372036854775807:=fun h=>by omega
 refine YX func137 ntmps137 fun W F=>?_
 refine zq [3,4,0,9] ?_;refine Yp (pv_load rfl rfl hv) ?_;refine Yp (pv_len_slice (T:=41) rfl rfl) ?_;refine Yq (ef_alloc1 tyZ3 rfl rfl) fun b1=>?_
 refine zq [25,2,5,3,3,4,8,0,44,2,5] ?_;refine Yd rfl (fun h1=>?_) (fun h1=>?_)
 ·
  refine zq [4,23,74] ?_;exact Ops.panic rfl ⟨[],⟨rfl,fun ho=>by have:=ho.1;omega,rfl⟩,inferInstance⟩
 have hmost:L.length≤8:=by omega
 refine zq [11,5,3,4,0] ?_;refine Yq (ef_buildSlice1 (k:=1) rfl rfl rfl rfl rfl) fun b2=>?_
 refine Ops.efx rfl (efx_call (tr_twoW k left bs pa ca Kb hb b2 278 [.pointer (some ⟨b1,0,none⟩)] b1 0 [.int .i64 (L.length:Int)] 3 [(L.length:Int)] rfl (one_hcc rfl) (by intro y hy;simp only[List.mem_cons,List.not_mem_nil,or_false]at hy;unfold RgI;omega) (by simp) (by simp) (by simp only[Y4,Y5];omega)) rfl rfl) ?_ ?_
 ·
  rintro _ _ ⟨_,⟨rfl,hno,rfl⟩,rfl⟩;exact ⟨[],⟨rfl,fun ho=>hno (by intro y hy;simp only[List.mem_cons,List.not_mem_nil,or_false]at hy;omega),rfl⟩,inferInstance⟩
 rintro _ _ ⟨_,_,⟨rfl,hok1,pa1,ca1,Kb1,hs1,rfl⟩,rfl,rfl⟩;refine Ops.app ?_;rw[encT1 (by omega)]at hs1 ⊢;refine zq [2,5,3,3,4,8,0,44,2,5] ?_;refine Yd rfl (fun h2=>by omega) (fun h2=>?_);refine zq [11,5,3,3,4,0,9,6,8,2,5,17,11,5,3,4,8,0,2,5,20] ?_;refine YM (σ:=Nat×List UInt8×Option Addr×Nat×Hp) [(0,_),(1,_),(3,_),(33,_)] (fun s=>[(34,.int .i64 s.1)]) (fun s=>(cp,.cells [kP k].toArray 101)::((k,.cells [.bool false,.pointer (some ⟨k,1,none⟩),.slice s.2.2.1 s.2.1.length s.2.2.2.1,sV left].toArray 107)::(s.2.2.2.2++((d,.cells dc.toArray Td)::(H++((b1,.cells [.int .i64 L.length].toArray 3)::F)))))) (fun s=>s.1≤L.length∧s.2.1=bs++leB 2 L.length++encI fsW (L.take s.1)∧s.2.1.length=bs.length+2+s.1*widE fsW∧(∀e,e∈L.take s.1→okE fsW e.1)∧Slc 5 1 (.slice s.2.2.1 s.2.1.length s.2.2.2.1) s.2.1.length (bC s.2.1) s.2.2.2.2) (fun s=>L.length-s.1) (0,bs++leB 2 L.length,pa1,ca1,Kb1) ⟨Nat.zero_le _,by simp[encI],by simp[leB_len],by intro x hx;simp at hx,hs1⟩ ?_;rintro ⟨i,b9,pi,ci,Ki⟩ KK ⟨hi,he9,hel,hok,hsi⟩ hK;dsimp only[Y1,Y2]at hK ⊢;dsimp only at hi he9 hel hok hsi ⊢;have hwi:i*widE fsW≤i*20:=Nat.mul_le_mul_left _ hw
 refine zq [3,4,42,2,5,3] ?_;refine Yd rfl (fun h3=>?_) (fun h3=>?_)
 ·
  obtain ⟨e,he⟩:∃e,L[i]?=some e:=Y9;obtain ⟨eb,eo,cc,cap,hva,rfl,hx,_⟩:=slc_el hs he (by decide);cases hva;refine zq [11,5,3,20,3,4,0,1,2,5,3,3,4,0,9,6,8,2,5,17,11,5,4,0,0,9] ?_;refine Yp (pv_load rfl rfl hv) ?_;refine zq [0] ?_;refine Yi rfl rfl (i) rfl ?_;refine Ops.efx rfl (efx_callf rfl rfl (tr_elW6 cp k left b9 pi ci Ki hsi (by omega) eb (eo+i*4) cc 122 e hx) rfl) ?_ ?_
  ·
   rintro _ _ ⟨_,⟨rfl,hno,rfl⟩,rfl⟩;exact ⟨[],⟨rfl,fun ho=>hno (ho.2 e (List.mem_of_getElem? he)),rfl⟩,inferInstance⟩
  rintro _ _ ⟨_,_,⟨rfl,hoke,pa3,ca3,Kb3,hs3,rfl⟩,rfl,rfl⟩;refine Ops.app ?_;refine zq [2,19,5,4] ?_;refine Ya rfl rfl (i+1) ?_;refine zq [0,2,49] ?_;refine Yy (hK (i+1,b9++encE fsW e.1,pa3,ca3,Kb3) ⟨by dsimp only;omega,by dsimp only;rw[encI_take he,he9,Y7],by dsimp only;rw[Y3,encE_len e.len,hel,Nat.add_mul];omega,all_take he hok hoke,hs3⟩ (by dsimp only;omega))
 obtain rfl:i=L.length:=by omega
 refine zq [41,16,16,40] ?_;rw[List.take_length]at he9 hok;have hbe:bs++encL fsW L=b9:=by rw[he9,encL,Y7]
 rw[hbe];exact Ends.finE (L' := (cp,.cells [kP k].toArray 101)::((k,.cells [.bool false,.pointer (some ⟨k,1,none⟩),.slice pi b9.length ci,sV left].toArray 107)::(Ki++((d,.cells dc.toArray Td)::H)))) (res0 rfl) ⟨rfl,⟨hmost,hok⟩,pi,ci,Ki,hsi,rfl⟩
theorem tr_elW7(left:List UInt8)(bs:List UInt8)(pa:Option Addr)(ca:Nat)(Kb:Hp)(hb:Slc 5 1 (.slice pa bs.length ca) bs.length (bC bs) Kb)(hl:bs.length≤2^38)(eb off:Nat)(cc:List Value)(Te:TypeId)(e:El fsS)(hx:Lies cc off (cE fsS e)):
    TrE prog 140 [.pointer (some ⟨eb,off,none⟩),.pointer (some ⟨cp,0,none⟩)] ((cp,.cells [kP k].toArray 101)::((k,.cells [.bool false,.pointer (some ⟨k,1,none⟩),.slice pa bs.length ca,sV left].toArray 107)::(Kb++[(eb,.cells cc.toArray Te)]))) (fun u L' => u=.tuple #[]∧okE fsS e.1∧∃pa' ca' Kb', Slc 5 1 (.slice pa' (bs++encE fsS e.1).length ca') (bs++encE fsS e.1).length (bC (bs++encE fsS e.1)) Kb' ∧ L' = (cp,.cells [kP k].toArray 101)::((k,.cells [.bool false,.pointer (some ⟨k,1,none⟩),.slice pa' (bs++encE fsS e.1).length ca', sV left].toArray 107)::(Kb' ++ [(eb,.cells cc.toArray Te)]))) (fun c L' => c=badC∧¬okE fsS e.1∧L' = []):=by
  obtain ⟨a0,a1,he⟩:=El.two rfl e;unfold cE at hx;have hr:=e.rg
  rw[he]at hx hr ⊢;exact tr_allW7 cp k left bs pa ca Kb hb hl eb off cc Te a0 a1 hr hx
theorem tr_elR7(adr bv:Value)(left:List UInt8)(hl:left.length≤2^40)(h1b:bv.oneCell' = true)(h1a:adr.oneCell' = true)(eb off:Nat)(cc:List Value)(Te:TypeId)(hx:Lies cc off (cE fsS (zEl fsS))):
    TrE prog 140 [.pointer (some ⟨eb,off,none⟩),.pointer (some ⟨cp,0,none⟩)] ((cp,.cells [kP k].toArray 101)::((k,.cells [.bool true,adr,bv,sV left].toArray 107)::[(eb,.cells cc.toArray Te)])) (fun u L' => u=.tuple #[]∧∃e' left', rdE fsS left=some (e', left')∧L' = (cp,.cells [kP k].toArray 101)::((k,.cells [.bool true,adr,bv,sV left'].toArray 107)::[(eb,.cells (setAt cc off (cE fsS (mkEl fsS e'))).toArray Te)])) (fun c L' => c=badC∧rdE fsS left=none∧L' = []) :=
  (tr_allR7 cp k adr bv left hl h1b h1a eb off cc Te hx).mono (fun u L' h=>by obtain ⟨hu,e', l', h1,h2⟩:=h;exact ⟨hu,e', l', h1,by rw[rdE_cE h1];exact h2⟩) (fun c L' h=>h)
theorem tr_listW7(left:List UInt8)(bs:List UInt8)(pa:Option Addr)(ca:Nat)(Kb:Hp)(hb:Slc 5 1 (.slice pa bs.length ca) bs.length (bC bs) Kb)(hl:bs.length≤2^37)(d o:Nat)(dc:List Value)(Td:TypeId)(v:Value)(hv:nth dc o=some v)(L:List (El fsS))(H:Hp)(hs:Slc 125 2 v L.length (cel (cE fsS) L) H):TrE prog 139 [kP k,.pointer (some ⟨d,o,none⟩),.int .i64 16,.func (.func 140) #[] #[.pointer (some ⟨cp,0,none⟩)]] ((cp,.cells [kP k].toArray 101)::((k,.cells [.bool false,.pointer (some ⟨k,1,none⟩),.slice pa bs.length ca,sV left].toArray 107)::(Kb++((d,.cells dc.toArray Td)::H)))) (fun u L' => u=.tuple #[]∧okL fsS 16 L∧∃pa' ca' Kb', Slc 5 1 (.slice pa' (bs++encL fsS L).length ca') (bs++encL fsS L).length (bC (bs++encL fsS L)) Kb' ∧ L' = (cp,.cells [kP k].toArray 101)::((k,.cells [.bool false,.pointer (some ⟨k,1,none⟩),.slice pa' (bs++encL fsS L).length ca', sV left].toArray 107)::(Kb' ++ ((d,.cells dc.toArray Td)::H)))) (fun c L' => c=badC∧¬okL fsS 16 L∧L' = []):=by
 obtain ⟨sa,sc,rfl⟩:=hs.form;have hw:widE fsS≤20:=by decide
 have hll:L.length≤16→L.length<9223372036854775807:=fun h=>by omega
 refine YX func139 ntmps139 fun W F=>?_
 refine zq [3,4,0,9] ?_;refine Yp (pv_load rfl rfl hv) ?_;refine Yp (pv_len_slice (T:=42) rfl rfl) ?_;refine Yq (ef_alloc1 tyZ3 rfl rfl) fun b1=>?_
 refine zq [25,2,5,3,3,4,8,0,44,2,5] ?_;refine Yd rfl (fun h1=>?_) (fun h1=>?_)
 ·
  refine zq [4,23,74] ?_;exact Ops.panic rfl ⟨[],⟨rfl,fun ho=>by have:=ho.1;omega,rfl⟩,inferInstance⟩
 have hmost:L.length≤16:=by omega
 refine zq [11,5,3,4,0] ?_;refine Yq (ef_buildSlice1 (k:=1) rfl rfl rfl rfl rfl) fun b2=>?_
 refine Ops.efx rfl (efx_call (tr_twoW k left bs pa ca Kb hb b2 278 [.pointer (some ⟨b1,0,none⟩)] b1 0 [.int .i64 (L.length:Int)] 3 [(L.length:Int)] rfl (one_hcc rfl) (by intro y hy;simp only[List.mem_cons,List.not_mem_nil,or_false]at hy;unfold RgI;omega) (by simp) (by simp) (by simp only[Y4,Y5];omega)) rfl rfl) ?_ ?_
 ·
  rintro _ _ ⟨_,⟨rfl,hno,rfl⟩,rfl⟩;exact ⟨[],⟨rfl,fun ho=>hno (by intro y hy;simp only[List.mem_cons,List.not_mem_nil,or_false]at hy;omega),rfl⟩,inferInstance⟩
 rintro _ _ ⟨_,_,⟨rfl,hok1,pa1,ca1,Kb1,hs1,rfl⟩,rfl,rfl⟩;refine Ops.app ?_;rw[encT1 (by omega)]at hs1 ⊢;refine zq [2,5,3,3,4,8,0,44,2,5] ?_;refine Yd rfl (fun h2=>by omega) (fun h2=>?_);refine zq [11,5,3,3,4,0,9,6,8,2,5,17,11,5,3,4,8,0,2,5,20] ?_;refine YM (σ:=Nat×List UInt8×Option Addr×Nat×Hp) [(0,_),(1,_),(3,_),(33,_)] (fun s=>[(34,.int .i64 s.1)]) (fun s=>(cp,.cells [kP k].toArray 101)::((k,.cells [.bool false,.pointer (some ⟨k,1,none⟩),.slice s.2.2.1 s.2.1.length s.2.2.2.1,sV left].toArray 107)::(s.2.2.2.2++((d,.cells dc.toArray Td)::(H++((b1,.cells [.int .i64 L.length].toArray 3)::F)))))) (fun s=>s.1≤L.length∧s.2.1=bs++leB 2 L.length++encI fsS (L.take s.1)∧s.2.1.length=bs.length+2+s.1*widE fsS∧(∀e,e∈L.take s.1→okE fsS e.1)∧Slc 5 1 (.slice s.2.2.1 s.2.1.length s.2.2.2.1) s.2.1.length (bC s.2.1) s.2.2.2.2) (fun s=>L.length-s.1) (0,bs++leB 2 L.length,pa1,ca1,Kb1) ⟨Nat.zero_le _,by simp[encI],by simp[leB_len],by intro x hx;simp at hx,hs1⟩ ?_;rintro ⟨i,b9,pi,ci,Ki⟩ KK ⟨hi,he9,hel,hok,hsi⟩ hK;dsimp only[Y1,Y2]at hK ⊢;dsimp only at hi he9 hel hok hsi ⊢;have hwi:i*widE fsS≤i*20:=Nat.mul_le_mul_left _ hw
 refine zq [3,4,42,2,5,3] ?_;refine Yd rfl (fun h3=>?_) (fun h3=>?_)
 ·
  obtain ⟨e,he⟩:∃e,L[i]?=some e:=Y9;obtain ⟨eb,eo,cc,cap,hva,rfl,hx,_⟩:=slc_el hs he (by decide);cases hva;refine zq [11,5,3,20,3,4,0,1,2,5,3,3,4,0,9,6,8,2,5,17,11,5,4,0,0,9] ?_;refine Yp (pv_load rfl rfl hv) ?_;refine zq [0] ?_;refine Yi rfl rfl (i) rfl ?_;refine Ops.efx rfl (efx_callf rfl rfl (tr_elW7 cp k left b9 pi ci Ki hsi (by omega) eb (eo+i*2) cc 125 e hx) rfl) ?_ ?_
  ·
   rintro _ _ ⟨_,⟨rfl,hno,rfl⟩,rfl⟩;exact ⟨[],⟨rfl,fun ho=>hno (ho.2 e (List.mem_of_getElem? he)),rfl⟩,inferInstance⟩
  rintro _ _ ⟨_,_,⟨rfl,hoke,pa3,ca3,Kb3,hs3,rfl⟩,rfl,rfl⟩;refine Ops.app ?_;refine zq [2,19,5,4] ?_;refine Ya rfl rfl (i+1) ?_;refine zq [0,2,49] ?_;refine Yy (hK (i+1,b9++encE fsS e.1,pa3,ca3,Kb3) ⟨by dsimp only;omega,by dsimp only;rw[encI_take he,he9,Y7],by dsimp only;rw[Y3,encE_len e.len,hel,Nat.add_mul];omega,all_take he hok hoke,hs3⟩ (by dsimp only;omega))
 obtain rfl:i=L.length:=by omega
 refine zq [41,16,16,40] ?_;rw[List.take_length]at he9 hok;have hbe:bs++encL fsS L=b9:=by rw[he9,encL,Y7]
 rw[hbe];exact Ends.finE (L' := (cp,.cells [kP k].toArray 101)::((k,.cells [.bool false,.pointer (some ⟨k,1,none⟩),.slice pi b9.length ci,sV left].toArray 107)::(Ki++((d,.cells dc.toArray Td)::H)))) (res0 rfl) ⟨rfl,⟨hmost,hok⟩,pi,ci,Ki,hsi,rfl⟩
theorem tr_listR1(adr bv:Value)(left:List UInt8)(hl:left.length≤2^40)(h1b:bv.oneCell' = true)(h1a:adr.oneCell' = true)(d o:Nat)(dc:List Value)(Td:TypeId)(hv:nth dc o=some (.slice none 0 0)):TrE prog 124 [kP k,.pointer (some ⟨d,o,none⟩),.int .i64 64,.func (.func 125) #[] #[.pointer (some ⟨cp,0,none⟩)]] ((cp,.cells [kP k].toArray 101)::((k,.cells [.bool true,adr,bv,sV left].toArray 107)::[(d,.cells dc.toArray Td)])) (fun u L' => u=.tuple #[]∧∃(L:List (El fsO)) (left' : List UInt8) (v:Value) (H:Hp),rdL fsO 64 left=some (L,left')∧Slc 116 3 v L.length (cel (cE fsO) L) H∧L' = (cp,.cells [kP k].toArray 101)::((k,.cells [.bool true,adr,bv,sV left'].toArray 107)::((d,.cells (dc.set o v).toArray Td)::H))) (fun c L' => c=badC∧rdL fsO 64 left=none∧L' = []):=by
 refine YX func124 ntmps124 fun W F=>?_
 refine zq [3,4,0,9] ?_;refine Yp (pv_load rfl rfl hv) ?_;refine Yp (pv_len_slice (T:=36) rfl rfl) ?_;refine Yq (ef_alloc1 tyZ3 rfl rfl) fun b1=>?_
 refine zq [25,2,5,3,3,4,8,0] ?_;refine Yp ((pv_gtr rfl rfl).fls (by first | exact fun h=>h rfl | decide | omega | assumption)) ?_;refine zq [2,5,17,11,5,3,4,0] ?_;refine Yq (ef_buildSlice1 (k:=1) rfl rfl rfl rfl rfl) fun b2=>?_
 refine Ops.efx rfl (efx_call (tr_twoR k adr bv left hl h1b h1a b2 278 [.pointer (some ⟨b1,0,none⟩)] b1 0 [.int .i64 0] 3 [0] rfl (one_hcc rfl) (by intro y hy;simp only[List.mem_cons,List.not_mem_nil,or_false]at hy;unfold RgI;omega) (by simp) (by simp)) rfl rfl) ?_ ?_
 ·
  rintro _ _ ⟨_,⟨rfl,hno,rfl⟩,rfl⟩;exact ⟨[],⟨rfl,by have h3:left.length<2:=hno;unfold rdL;rw[if_pos h3],rfl⟩,inferInstance⟩
 rintro _ _ ⟨_,_,⟨rfl,hl2,rfl⟩,rfl,rfl⟩;refine Ops.app ?_;rw[show setAt [.int .i64 0] 0 (intC (rdTw ([0]:List Int).length left))=[.int .i64 ((leV (left.take 2):Nat):Int)] from rfl,show left.drop (2*([0]:List Int).length)=left.drop 2 from rfl];have hl3:2≤left.length:=hl2
 have hc2:=leV2 left
 refine zq [2,5,3,3,4,8,0,44,2,5] ?_;refine Yd rfl (fun h1=>?_) (fun h1=>?_)
 ·
  refine zq [4,23,74] ?_;exact Ops.panic rfl ⟨[],⟨rfl,by unfold rdL;rw[if_neg (by omega),if_pos (by omega)],rfl⟩,inferInstance⟩
 have hmost:leV (left.take 2)≤64:=by omega
 refine zq [11,5,3,3,4,0,9,6,8,2,5,18,4,0,9] ?_;refine Yo (ef_store1 (hset:=setL_set (nth_lt hv)) rfl rfl rfl rfl) ?_;refine zq [2,5,3,4,8,0,2,5,20] ?_;refine YM (σ:=Nat×List UInt8×List (El fsO)×Value×Hp) [(0,_),(1,_),(3,_),(33,_)] (fun s=>[(34,.int .i64 s.1)]) (fun s=>(cp,.cells [kP k].toArray 101)::((k,.cells [.bool true,adr,bv,sV s.2.1].toArray 107)::((d,.cells (dc.set o s.2.2.2.1).toArray Td)::(s.2.2.2.2++((b1,.cells [.int .i64 ((leV (left.take 2):Nat):Int)].toArray 3)::F))))) (fun s=>s.1≤leV (left.take 2)∧rdI fsO s.1 (left.drop 2)=some (s.2.2.1,s.2.1)∧s.2.1.length≤left.length∧Slc 116 3 s.2.2.2.1 s.2.2.1.length (cel (cE fsO) s.2.2.1) s.2.2.2.2) (fun s=>leV (left.take 2)-s.1) (0,left.drop 2,[],.slice none 0 0,[]) ⟨Nat.zero_le _,rfl,by dsimp only;rw[Y6];omega,Slc.nil 116 3⟩ ?_;rintro ⟨i,lf,l,vs,Hs⟩ KK ⟨hi,hr,hlf,hs⟩ hK;dsimp only[Y1,Y2]at hK ⊢;dsimp only at hi hr hlf hs ⊢;refine zq [3,4,42,2,5,3] ?_;refine Yd rfl (fun h2=>?_) (fun h2=>?_)
 ·
  obtain rfl:i=l.length:=(rdI_len hr).1.symm;refine zq [11,5,3,20,3,4,0,1,2,5] ?_;refine Wp.cutK (σ:=Nat×Nat×List Value×Nat) [(0,_),(1,_),(3,_),(9,_),(33,_),(34,_)] (fun s=>[]) (fun s=>(cp,.cells [kP k].toArray 101)::((k,.cells [.bool true,adr,bv,sV lf].toArray 107)::((d,.cells (dc.set o (.slice (some ⟨s.1,s.2.1,none⟩) (l.length+1) s.2.2.2)).toArray Td)::((s.1,.cells s.2.2.1.toArray 116)::((b1,.cells [.int .i64 ((leV (left.take 2):Nat):Int)].toArray 3)::F))))) (fun s=>Lies s.2.2.1 (s.2.1+l.length*3) (cE fsO (zEl fsO))∧∀q:El fsO,Slc 116 3 (.slice (some ⟨s.1,s.2.1,none⟩) (l.length+1) s.2.2.2) (l.length+1) (cel (cE fsO) ((l++[zEl fsO]).set l.length q)) [(s.1,.cells (setAt s.2.2.1 (s.2.1+l.length*3) (cE fsO q)).toArray 116)]) ⟨rfl,rfl,rfl,rfl,rfl,rfl,trivial⟩ (fun _ KK hC0=>?_) ?_
  ·
   dsimp only[Y1,Y2]at hC0;refine zq [3,4,0,9,6,8,2,5,18] ?_;refine AnyH.start ([]:Hp) 11 rfl ?_;refine zd [0,1,1,1,2,3] ?_;refine YB 3 4 ?_ ?_
   ·
    refine Yv rfl rfl (pv_load rfl rfl (nth_set (nth_lt hv))) ?_;refine YA 4 ?_;refine Yw rfl rfl (ef_allocK tyZ116 rfl) fun b3=>?_
    refine zd [5,3] ?_;refine YA 6 ?_;refine Yv rfl rfl (pv_loadK [_,_,_] rfl rfl rfl ⟨rfl,rfl,rfl,trivial⟩) ?_;refine YA 7 ?_;refine Yw rfl rfl (ef_buildSlice1 (k:=3) rfl rfl rfl rfl rfl) fun b4=>?_
    refine YA 8 ?_;refine Turn.ef rfl rfl (ef_append (H:=Hs) (xs:=[.int .i64 0,.int .i64 0,.int .i64 0]) rfl hs rfl ⟨rfl,rfl,rfl,trivial⟩ rfl rfl rfl (by omega) (by omega) rfl rfl) ?_ ?_ <;> rintro _ _ ⟨v1,H1,hs1,rfl,rfl⟩
    ·infer_instance
    refine AnyH.app ?_;have hs2:Slc 116 3 v1 (l.length+1) (cel (cE fsO) (l++[zEl fsO])) H1:=by rw[cel_app,cel_one1];exact hs1
    obtain ⟨eb,eo,cc,cap,rfl,rfl,hx,hset⟩:=slc_el (i:=l.length) (a:=zEl fsO) hs2 (by simp) (by decide);refine zd [9,3] ?_;refine YA 10 ?_;refine Yu rfl rfl (ef_store1 (hset:=setL_set2 (nth_lt hv)) rfl rfl rfl rfl) ?_;refine YD ?_;refine zq [49] ?_;refine Yy (hC0 (eb,eo,cc,cap) ⟨hx,hset⟩)
   refine Yw rfl rfl (ef_allocK tyZ116 rfl) fun b5=>?_
   refine zd [5,3] ?_;refine YB 3 6 ?_ ?_
   ·
    refine Yv rfl rfl (pv_load rfl rfl (nth_set (nth_lt hv))) ?_;refine YA 6 ?_;refine Yv rfl rfl (pv_loadK [_,_,_] rfl rfl rfl ⟨rfl,rfl,rfl,trivial⟩) ?_;refine YA 7 ?_;refine Yw rfl rfl (ef_buildSlice1 (k:=3) rfl rfl rfl rfl rfl) fun b6=>?_
    refine YA 8 ?_;refine Turn.ef rfl rfl (ef_append (H:=Hs) (xs:=[.int .i64 0,.int .i64 0,.int .i64 0]) rfl hs rfl ⟨rfl,rfl,rfl,trivial⟩ rfl rfl rfl (by omega) (by omega) rfl rfl) ?_ ?_ <;> rintro _ _ ⟨v2,H2,hs2,rfl,rfl⟩
    ·infer_instance
    refine AnyH.app ?_;have hs2:Slc 116 3 v2 (l.length+1) (cel (cE fsO) (l++[zEl fsO])) H2:=by rw[cel_app,cel_one1];exact hs2
    obtain ⟨eb,eo,cc,cap,rfl,rfl,hx,hset⟩:=slc_el (i:=l.length) (a:=zEl fsO) hs2 (by simp) (by decide);refine zd [9,3] ?_;refine YA 10 ?_;refine Yu rfl rfl (ef_store1 (hset:=setL_set2 (nth_lt hv)) rfl rfl rfl rfl) ?_;refine YD ?_;refine zq [49] ?_;refine Yy (hC0 (eb,eo,cc,cap) ⟨hx,hset⟩)
   refine Yv rfl rfl (pv_loadK [_,_,_] rfl rfl rfl ⟨rfl,rfl,rfl,trivial⟩) ?_;refine YB 3 7 ?_ ?_
   ·
    refine Yv rfl rfl (pv_load rfl rfl (nth_set (nth_lt hv))) ?_;refine YA 7 ?_;refine Yw rfl rfl (ef_buildSlice1 (k:=3) rfl rfl rfl rfl rfl) fun b7=>?_
    refine YA 8 ?_;refine Turn.ef rfl rfl (ef_append (H:=Hs) (xs:=[.int .i64 0,.int .i64 0,.int .i64 0]) rfl hs rfl ⟨rfl,rfl,rfl,trivial⟩ rfl rfl rfl (by omega) (by omega) rfl rfl) ?_ ?_ <;> rintro _ _ ⟨v3,H3,hs3,rfl,rfl⟩
    ·infer_instance
    refine AnyH.app ?_;have hs2:Slc 116 3 v3 (l.length+1) (cel (cE fsO) (l++[zEl fsO])) H3:=by rw[cel_app,cel_one1];exact hs3
    obtain ⟨eb,eo,cc,cap,rfl,rfl,hx,hset⟩:=slc_el (i:=l.length) (a:=zEl fsO) hs2 (by simp) (by decide);refine zd [9,3] ?_;refine YA 10 ?_;refine Yu rfl rfl (ef_store1 (hset:=setL_set2 (nth_lt hv)) rfl rfl rfl rfl) ?_;refine YD ?_;refine zq [49] ?_;refine Yy (hC0 (eb,eo,cc,cap) ⟨hx,hset⟩)
   refine Yw rfl rfl (ef_buildSlice1 (k:=3) rfl rfl rfl rfl rfl) fun b8=>?_
   refine YA 3 ?_;refine Yv rfl rfl (pv_load rfl rfl (nth_set (nth_lt hv))) ?_;refine YA 8 ?_;refine Turn.ef rfl rfl (ef_append (H:=Hs) (xs:=[.int .i64 0,.int .i64 0,.int .i64 0]) rfl hs rfl ⟨rfl,rfl,rfl,trivial⟩ rfl rfl rfl (by omega) (by omega) rfl rfl) ?_ ?_ <;> rintro _ _ ⟨v4,H4,hs4,rfl,rfl⟩
   ·infer_instance
   refine AnyH.app ?_;have hs2:Slc 116 3 v4 (l.length+1) (cel (cE fsO) (l++[zEl fsO])) H4:=by rw[cel_app,cel_one1];exact hs4
   obtain ⟨eb,eo,cc,cap,rfl,rfl,hx,hset⟩:=slc_el (i:=l.length) (a:=zEl fsO) hs2 (by simp) (by decide);refine zd [9,3] ?_;refine YA 10 ?_;refine Yu rfl rfl (ef_store1 (hset:=setL_set2 (nth_lt hv)) rfl rfl rfl rfl) ?_;refine YD ?_;refine zq [49] ?_;refine Yy (hC0 (eb,eo,cc,cap) ⟨hx,hset⟩)
  rintro ⟨eb,eo,cc,cap⟩ ⟨hx,hset⟩;dsimp only[Y1,Y2]at ⊢;dsimp only at hx hset ⊢;refine zq [4,0,0,9] ?_;refine Yp (pv_load rfl rfl (nth_set (nth_lt hv))) ?_;refine zq [0] ?_;refine Yi rfl rfl (l.length) rfl ?_;refine Ops.efx rfl (efx_callf rfl rfl (tr_elR1 cp k adr bv lf (by omega) h1b h1a eb (eo+l.length*3) cc 116 hx) rfl) ?_ ?_
  ·
   rintro _ _ ⟨_,⟨rfl,hno,rfl⟩,rfl⟩;exact ⟨[],⟨rfl,by unfold rdL;rw[if_neg (by omega),if_neg (by omega)];exact rdI_up (rdI_none hr hno) (by omega),rfl⟩,inferInstance⟩
  rintro _ _ ⟨_,_,⟨rfl,e9,lf2,he9,rfl⟩,rfl,rfl⟩;refine Ops.app ?_;refine zq [2,19,5,4] ?_;refine Ya rfl rfl (l.length+1) ?_;refine zq [0,2,49] ?_;refine Yy (hK (l.length+1,lf2,l++[mkEl fsO e9],.slice (some ⟨eb,eo,none⟩) (l.length+1) cap,[(eb,.cells (setAt cc (eo+l.length*3) (cE fsO (mkEl fsO e9))).toArray 116)]) ⟨by dsimp only;omega,rdI_some hr he9,by have:=(rdI_len (rdI_some hr he9)).2;rw[Y6]at this;dsimp only;omega,by have:=hset (mkEl fsO e9);rw[List.set_append_right _ _ (Nat.le_refl _),Nat.sub_self,List.set_cons_zero]at this;rw[Y3];exact this⟩ (by dsimp only;omega))
 obtain rfl:i=leV (left.take 2):=by omega
 refine zq [41,16,16,40] ?_;have hL:rdL fsO 64 left=some (l,lf):=by unfold rdL;rw[if_neg (by omega),if_neg (by omega)];exact hr
 exact Ends.finE (L' := (cp,.cells [kP k].toArray 101)::((k,.cells [.bool true,adr,bv,sV lf].toArray 107)::((d,.cells (dc.set o vs).toArray Td)::Hs))) (res0 rfl) ⟨rfl,l,lf,vs,Hs,hL,hs,rfl⟩
theorem tr_listR2(adr bv:Value)(left:List UInt8)(hl:left.length≤2^40)(h1b:bv.oneCell' = true)(h1a:adr.oneCell' = true)(d o:Nat)(dc:List Value)(Td:TypeId)(hv:nth dc o=some (.slice none 0 0)):TrE prog 127 [kP k,.pointer (some ⟨d,o,none⟩),.int .i64 256,.func (.func 128) #[] #[.pointer (some ⟨cp,0,none⟩)]] ((cp,.cells [kP k].toArray 101)::((k,.cells [.bool true,adr,bv,sV left].toArray 107)::[(d,.cells dc.toArray Td)])) (fun u L' => u=.tuple #[]∧∃(L:List (El fsP)) (left' : List UInt8) (v:Value) (H:Hp),rdL fsP 256 left=some (L,left')∧Slc 65 8 v L.length (cel (cE fsP) L) H∧L' = (cp,.cells [kP k].toArray 101)::((k,.cells [.bool true,adr,bv,sV left'].toArray 107)::((d,.cells (dc.set o v).toArray Td)::H))) (fun c L' => c=badC∧rdL fsP 256 left=none∧L' = []):=by
 refine YX func127 ntmps127 fun W F=>?_
 refine zq [3,4,0,9] ?_;refine Yp (pv_load rfl rfl hv) ?_;refine Yp (pv_len_slice (T:=37) rfl rfl) ?_;refine Yq (ef_alloc1 tyZ3 rfl rfl) fun b1=>?_
 refine zq [25,2,5,3,3,4,8,0] ?_;refine Yp ((pv_gtr rfl rfl).fls (by first | exact fun h=>h rfl | decide | omega | assumption)) ?_;refine zq [2,5,17,11,5,3,4,0] ?_;refine Yq (ef_buildSlice1 (k:=1) rfl rfl rfl rfl rfl) fun b2=>?_
 refine Ops.efx rfl (efx_call (tr_twoR k adr bv left hl h1b h1a b2 278 [.pointer (some ⟨b1,0,none⟩)] b1 0 [.int .i64 0] 3 [0] rfl (one_hcc rfl) (by intro y hy;simp only[List.mem_cons,List.not_mem_nil,or_false]at hy;unfold RgI;omega) (by simp) (by simp)) rfl rfl) ?_ ?_
 ·
  rintro _ _ ⟨_,⟨rfl,hno,rfl⟩,rfl⟩;exact ⟨[],⟨rfl,by have h3:left.length<2:=hno;unfold rdL;rw[if_pos h3],rfl⟩,inferInstance⟩
 rintro _ _ ⟨_,_,⟨rfl,hl2,rfl⟩,rfl,rfl⟩;refine Ops.app ?_;rw[show setAt [.int .i64 0] 0 (intC (rdTw ([0]:List Int).length left))=[.int .i64 ((leV (left.take 2):Nat):Int)] from rfl,show left.drop (2*([0]:List Int).length)=left.drop 2 from rfl];have hl3:2≤left.length:=hl2
 have hc2:=leV2 left
 refine zq [2,5,3,3,4,8,0,44,2,5] ?_;refine Yd rfl (fun h1=>?_) (fun h1=>?_)
 ·
  refine zq [4,23,74] ?_;exact Ops.panic rfl ⟨[],⟨rfl,by unfold rdL;rw[if_neg (by omega),if_pos (by omega)],rfl⟩,inferInstance⟩
 have hmost:leV (left.take 2)≤256:=by omega
 refine zq [11,5,3,3,4,0,9,6,8,2,5,18,4,0,9] ?_;refine Yo (ef_store1 (hset:=setL_set (nth_lt hv)) rfl rfl rfl rfl) ?_;refine zq [2,5,3,4,8,0,2,5,20] ?_;refine YM (σ:=Nat×List UInt8×List (El fsP)×Value×Hp) [(0,_),(1,_),(3,_),(33,_)] (fun s=>[(34,.int .i64 s.1)]) (fun s=>(cp,.cells [kP k].toArray 101)::((k,.cells [.bool true,adr,bv,sV s.2.1].toArray 107)::((d,.cells (dc.set o s.2.2.2.1).toArray Td)::(s.2.2.2.2++((b1,.cells [.int .i64 ((leV (left.take 2):Nat):Int)].toArray 3)::F))))) (fun s=>s.1≤leV (left.take 2)∧rdI fsP s.1 (left.drop 2)=some (s.2.2.1,s.2.1)∧s.2.1.length≤left.length∧Slc 65 8 s.2.2.2.1 s.2.2.1.length (cel (cE fsP) s.2.2.1) s.2.2.2.2) (fun s=>leV (left.take 2)-s.1) (0,left.drop 2,[],.slice none 0 0,[]) ⟨Nat.zero_le _,rfl,by dsimp only;rw[Y6];omega,Slc.nil 65 8⟩ ?_;rintro ⟨i,lf,l,vs,Hs⟩ KK ⟨hi,hr,hlf,hs⟩ hK;dsimp only[Y1,Y2]at hK ⊢;dsimp only at hi hr hlf hs ⊢;refine zq [3,4,42,2,5,3] ?_;refine Yd rfl (fun h2=>?_) (fun h2=>?_)
 ·
  obtain rfl:i=l.length:=(rdI_len hr).1.symm;refine zq [11,5,3,20,3,4,0,1,2,5] ?_;refine Wp.cutK (σ:=Nat×Nat×List Value×Nat) [(0,_),(1,_),(3,_),(9,_),(33,_),(34,_)] (fun s=>[]) (fun s=>(cp,.cells [kP k].toArray 101)::((k,.cells [.bool true,adr,bv,sV lf].toArray 107)::((d,.cells (dc.set o (.slice (some ⟨s.1,s.2.1,none⟩) (l.length+1) s.2.2.2)).toArray Td)::((s.1,.cells s.2.2.1.toArray 65)::((b1,.cells [.int .i64 ((leV (left.take 2):Nat):Int)].toArray 3)::F))))) (fun s=>Lies s.2.2.1 (s.2.1+l.length*8) (cE fsP (zEl fsP))∧∀q:El fsP,Slc 65 8 (.slice (some ⟨s.1,s.2.1,none⟩) (l.length+1) s.2.2.2) (l.length+1) (cel (cE fsP) ((l++[zEl fsP]).set l.length q)) [(s.1,.cells (setAt s.2.2.1 (s.2.1+l.length*8) (cE fsP q)).toArray 65)]) ⟨rfl,rfl,rfl,rfl,rfl,rfl,trivial⟩ (fun _ KK hC0=>?_) ?_
  ·
   dsimp only[Y1,Y2]at hC0;refine zq [3,4,0,9,6,8,2,5,18] ?_;refine AnyH.start ([]:Hp) 11 rfl ?_;refine zd [0,1,1,1,2,3] ?_;refine YB 3 4 ?_ ?_
   ·
    refine Yv rfl rfl (pv_load rfl rfl (nth_set (nth_lt hv))) ?_;refine YA 4 ?_;refine Yw rfl rfl (ef_allocK tyZ65 rfl) fun b3=>?_
    refine zd [5,3] ?_;refine YA 6 ?_;refine Yv rfl rfl (pv_loadK [_,_,_,_,_,_,_,_] rfl rfl rfl ⟨rfl,rfl,rfl,rfl,rfl,rfl,rfl,rfl,trivial⟩) ?_;refine YA 7 ?_;refine Yw rfl rfl (ef_buildSlice1 (k:=8) rfl rfl rfl rfl rfl) fun b4=>?_
    refine YA 8 ?_;refine Turn.ef rfl rfl (ef_append (H:=Hs) (xs:=[.int .i64 0,.int .i64 0,.int .i64 0,.int .i64 0,.int .i64 0,.int .u64 0,.int .u64 0,.int .i64 0]) rfl hs rfl ⟨rfl,rfl,rfl,rfl,rfl,rfl,rfl,rfl,trivial⟩ rfl rfl rfl (by omega) (by omega) rfl rfl) ?_ ?_ <;> rintro _ _ ⟨v1,H1,hs1,rfl,rfl⟩
    ·infer_instance
    refine AnyH.app ?_;have hs2:Slc 65 8 v1 (l.length+1) (cel (cE fsP) (l++[zEl fsP])) H1:=by rw[cel_app,cel_one1];exact hs1
    obtain ⟨eb,eo,cc,cap,rfl,rfl,hx,hset⟩:=slc_el (i:=l.length) (a:=zEl fsP) hs2 (by simp) (by decide);refine zd [9,3] ?_;refine YA 10 ?_;refine Yu rfl rfl (ef_store1 (hset:=setL_set2 (nth_lt hv)) rfl rfl rfl rfl) ?_;refine YD ?_;refine zq [49] ?_;refine Yy (hC0 (eb,eo,cc,cap) ⟨hx,hset⟩)
   refine Yw rfl rfl (ef_allocK tyZ65 rfl) fun b5=>?_
   refine zd [5,3] ?_;refine YB 3 6 ?_ ?_
   ·
    refine Yv rfl rfl (pv_load rfl rfl (nth_set (nth_lt hv))) ?_;refine YA 6 ?_;refine Yv rfl rfl (pv_loadK [_,_,_,_,_,_,_,_] rfl rfl rfl ⟨rfl,rfl,rfl,rfl,rfl,rfl,rfl,rfl,trivial⟩) ?_;refine YA 7 ?_;refine Yw rfl rfl (ef_buildSlice1 (k:=8) rfl rfl rfl rfl rfl) fun b6=>?_
    refine YA 8 ?_;refine Turn.ef rfl rfl (ef_append (H:=Hs) (xs:=[.int .i64 0,.int .i64 0,.int .i64 0,.int .i64 0,.int .i64 0,.int .u64 0,.int .u64 0,.int .i64 0]) rfl hs rfl ⟨rfl,rfl,rfl,rfl,rfl,rfl,rfl,rfl,trivial⟩ rfl rfl rfl (by omega) (by omega) rfl rfl) ?_ ?_ <;> rintro _ _ ⟨v2,H2,hs2,rfl,rfl⟩
    ·infer_instance
    refine AnyH.app ?_;have hs2:Slc 65 8 v2 (l.length+1) (cel (cE fsP) (l++[zEl fsP])) H2:=by rw[cel_app,cel_one1];exact hs2
    obtain ⟨eb,eo,cc,cap,rfl,rfl,hx,hset⟩:=slc_el (i:=l.length) (a:=zEl fsP) hs2 (by simp) (by decide);refine zd [9,3] ?_;refine YA 10 ?_;refine Yu rfl rfl (ef_store1 (hset:=setL_set2 (nth_lt hv)) rfl rfl rfl rfl) ?_;refine YD ?_;refine zq [49] ?_;refine Yy (hC0 (eb,eo,cc,cap) ⟨hx,hset⟩)
   refine Yv rfl rfl (pv_loadK [_,_,_,_,_,_,_,_] rfl rfl rfl ⟨rfl,rfl,rfl,rfl,rfl,rfl,rfl,rfl,trivial⟩) ?_;refine YB 3 7 ?_ ?_
   ·
    refine Yv rfl rfl (pv_load rfl rfl (nth_set (nth_lt hv))) ?_;refine YA 7 ?_;refine Yw rfl rfl (ef_buildSlice1 (k:=8) rfl rfl rfl rfl rfl) fun b7=>?_
    refine YA 8 ?_;refine Turn.ef rfl rfl (ef_append (H:=Hs) (xs:=[.int .i64 0,.int .i64 0,.int .i64 0,.int .i64 0,.int .i64 0,.int .u64 0,.int .u64 0,.int .i64 0]) rfl hs rfl ⟨rfl,rfl,rfl,rfl,rfl,rfl,rfl,rfl,trivial⟩ rfl rfl rfl (by omega) (by omega) rfl rfl) ?_ ?_ <;> rintro _ _ ⟨v3,H3,hs3,rfl,rfl⟩
    ·infer_instance
    refine AnyH.app ?_;have hs2:Slc 65 8 v3 (l.length+1) (cel (cE fsP) (l++[zEl fsP])) H3:=by rw[cel_app,cel_one1];exact hs3
    obtain ⟨eb,eo,cc,cap,rfl,rfl,hx,hset⟩:=slc_el (i:=l.length) (a:=zEl fsP) hs2 (by simp) (by decide);refine zd [9,3] ?_;refine YA 10 ?_;refine Yu rfl rfl (ef_store1 (hset:=setL_set2 (nth_lt hv)) rfl rfl rfl rfl) ?_;refine YD ?_;refine zq [49] ?_;refine Yy (hC0 (eb,eo,cc,cap) ⟨hx,hset⟩)
   refine Yw rfl rfl (ef_buildSlice1 (k:=8) rfl rfl rfl rfl rfl) fun b8=>?_
   refine YA 3 ?_;refine Yv rfl rfl (pv_load rfl rfl (nth_set (nth_lt hv))) ?_;refine YA 8 ?_;refine Turn.ef rfl rfl (ef_append (H:=Hs) (xs:=[.int .i64 0,.int .i64 0,.int .i64 0,.int .i64 0,.int .i64 0,.int .u64 0,.int .u64 0,.int .i64 0]) rfl hs rfl ⟨rfl,rfl,rfl,rfl,rfl,rfl,rfl,rfl,trivial⟩ rfl rfl rfl (by omega) (by omega) rfl rfl) ?_ ?_ <;> rintro _ _ ⟨v4,H4,hs4,rfl,rfl⟩
   ·infer_instance
   refine AnyH.app ?_;have hs2:Slc 65 8 v4 (l.length+1) (cel (cE fsP) (l++[zEl fsP])) H4:=by rw[cel_app,cel_one1];exact hs4
   obtain ⟨eb,eo,cc,cap,rfl,rfl,hx,hset⟩:=slc_el (i:=l.length) (a:=zEl fsP) hs2 (by simp) (by decide);refine zd [9,3] ?_;refine YA 10 ?_;refine Yu rfl rfl (ef_store1 (hset:=setL_set2 (nth_lt hv)) rfl rfl rfl rfl) ?_;refine YD ?_;refine zq [49] ?_;refine Yy (hC0 (eb,eo,cc,cap) ⟨hx,hset⟩)
  rintro ⟨eb,eo,cc,cap⟩ ⟨hx,hset⟩;dsimp only[Y1,Y2]at ⊢;dsimp only at hx hset ⊢;refine zq [4,0,0,9] ?_;refine Yp (pv_load rfl rfl (nth_set (nth_lt hv))) ?_;refine zq [0] ?_;refine Yi rfl rfl (l.length) rfl ?_;refine Ops.efx rfl (efx_callf rfl rfl (tr_elR2 cp k adr bv lf (by omega) h1b h1a eb (eo+l.length*8) cc 65 hx) rfl) ?_ ?_
  ·
   rintro _ _ ⟨_,⟨rfl,hno,rfl⟩,rfl⟩;exact ⟨[],⟨rfl,by unfold rdL;rw[if_neg (by omega),if_neg (by omega)];exact rdI_up (rdI_none hr hno) (by omega),rfl⟩,inferInstance⟩
  rintro _ _ ⟨_,_,⟨rfl,e9,lf2,he9,rfl⟩,rfl,rfl⟩;refine Ops.app ?_;refine zq [2,19,5,4] ?_;refine Ya rfl rfl (l.length+1) ?_;refine zq [0,2,49] ?_;refine Yy (hK (l.length+1,lf2,l++[mkEl fsP e9],.slice (some ⟨eb,eo,none⟩) (l.length+1) cap,[(eb,.cells (setAt cc (eo+l.length*8) (cE fsP (mkEl fsP e9))).toArray 65)]) ⟨by dsimp only;omega,rdI_some hr he9,by have:=(rdI_len (rdI_some hr he9)).2;rw[Y6]at this;dsimp only;omega,by have:=hset (mkEl fsP e9);rw[List.set_append_right _ _ (Nat.le_refl _),Nat.sub_self,List.set_cons_zero]at this;rw[Y3];exact this⟩ (by dsimp only;omega))
 obtain rfl:i=leV (left.take 2):=by omega
 refine zq [41,16,16,40] ?_;have hL:rdL fsP 256 left=some (l,lf):=by unfold rdL;rw[if_neg (by omega),if_neg (by omega)];exact hr
 exact Ends.finE (L' := (cp,.cells [kP k].toArray 101)::((k,.cells [.bool true,adr,bv,sV lf].toArray 107)::((d,.cells (dc.set o vs).toArray Td)::Hs))) (res0 rfl) ⟨rfl,l,lf,vs,Hs,hL,hs,rfl⟩
theorem tr_listR3(adr bv:Value)(left:List UInt8)(hl:left.length≤2^40)(h1b:bv.oneCell' = true)(h1a:adr.oneCell' = true)(d o:Nat)(dc:List Value)(Td:TypeId)(hv:nth dc o=some (.slice none 0 0)):TrE prog 130 [kP k,.pointer (some ⟨d,o,none⟩),.int .i64 64,.func (.func 131) #[] #[.pointer (some ⟨cp,0,none⟩)]] ((cp,.cells [kP k].toArray 101)::((k,.cells [.bool true,adr,bv,sV left].toArray 107)::[(d,.cells dc.toArray Td)])) (fun u L' => u=.tuple #[]∧∃(L:List (El fsM)) (left' : List UInt8) (v:Value) (H:Hp),rdL fsM 64 left=some (L,left')∧Slc 69 4 v L.length (cel (cE fsM) L) H∧L' = (cp,.cells [kP k].toArray 101)::((k,.cells [.bool true,adr,bv,sV left'].toArray 107)::((d,.cells (dc.set o v).toArray Td)::H))) (fun c L' => c=badC∧rdL fsM 64 left=none∧L' = []):=by
 refine YX func130 ntmps130 fun W F=>?_
 refine zq [3,4,0,9] ?_;refine Yp (pv_load rfl rfl hv) ?_;refine Yp (pv_len_slice (T:=38) rfl rfl) ?_;refine Yq (ef_alloc1 tyZ3 rfl rfl) fun b1=>?_
 refine zq [25,2,5,3,3,4,8,0] ?_;refine Yp ((pv_gtr rfl rfl).fls (by first | exact fun h=>h rfl | decide | omega | assumption)) ?_;refine zq [2,5,17,11,5,3,4,0] ?_;refine Yq (ef_buildSlice1 (k:=1) rfl rfl rfl rfl rfl) fun b2=>?_
 refine Ops.efx rfl (efx_call (tr_twoR k adr bv left hl h1b h1a b2 278 [.pointer (some ⟨b1,0,none⟩)] b1 0 [.int .i64 0] 3 [0] rfl (one_hcc rfl) (by intro y hy;simp only[List.mem_cons,List.not_mem_nil,or_false]at hy;unfold RgI;omega) (by simp) (by simp)) rfl rfl) ?_ ?_
 ·
  rintro _ _ ⟨_,⟨rfl,hno,rfl⟩,rfl⟩;exact ⟨[],⟨rfl,by have h3:left.length<2:=hno;unfold rdL;rw[if_pos h3],rfl⟩,inferInstance⟩
 rintro _ _ ⟨_,_,⟨rfl,hl2,rfl⟩,rfl,rfl⟩;refine Ops.app ?_;rw[show setAt [.int .i64 0] 0 (intC (rdTw ([0]:List Int).length left))=[.int .i64 ((leV (left.take 2):Nat):Int)] from rfl,show left.drop (2*([0]:List Int).length)=left.drop 2 from rfl];have hl3:2≤left.length:=hl2
 have hc2:=leV2 left
 refine zq [2,5,3,3,4,8,0,44,2,5] ?_;refine Yd rfl (fun h1=>?_) (fun h1=>?_)
 ·
  refine zq [4,23,74] ?_;exact Ops.panic rfl ⟨[],⟨rfl,by unfold rdL;rw[if_neg (by omega),if_pos (by omega)],rfl⟩,inferInstance⟩
 have hmost:leV (left.take 2)≤64:=by omega
 refine zq [11,5,3,3,4,0,9,6,8,2,5,18,4,0,9] ?_;refine Yo (ef_store1 (hset:=setL_set (nth_lt hv)) rfl rfl rfl rfl) ?_;refine zq [2,5,3,4,8,0,2,5,20] ?_;refine YM (σ:=Nat×List UInt8×List (El fsM)×Value×Hp) [(0,_),(1,_),(3,_),(33,_)] (fun s=>[(34,.int .i64 s.1)]) (fun s=>(cp,.cells [kP k].toArray 101)::((k,.cells [.bool true,adr,bv,sV s.2.1].toArray 107)::((d,.cells (dc.set o s.2.2.2.1).toArray Td)::(s.2.2.2.2++((b1,.cells [.int .i64 ((leV (left.take 2):Nat):Int)].toArray 3)::F))))) (fun s=>s.1≤leV (left.take 2)∧rdI fsM s.1 (left.drop 2)=some (s.2.2.1,s.2.1)∧s.2.1.length≤left.length∧Slc 69 4 s.2.2.2.1 s.2.2.1.length (cel (cE fsM) s.2.2.1) s.2.2.2.2) (fun s=>leV (left.take 2)-s.1) (0,left.drop 2,[],.slice none 0 0,[]) ⟨Nat.zero_le _,rfl,by dsimp only;rw[Y6];omega,Slc.nil 69 4⟩ ?_;rintro ⟨i,lf,l,vs,Hs⟩ KK ⟨hi,hr,hlf,hs⟩ hK;dsimp only[Y1,Y2]at hK ⊢;dsimp only at hi hr hlf hs ⊢;refine zq [3,4,42,2,5,3] ?_;refine Yd rfl (fun h2=>?_) (fun h2=>?_)
 ·
  obtain rfl:i=l.length:=(rdI_len hr).1.symm;refine zq [11,5,3,20,3,4,0,1,2,5] ?_;refine Wp.cutK (σ:=Nat×Nat×List Value×Nat) [(0,_),(1,_),(3,_),(9,_),(33,_),(34,_)] (fun s=>[]) (fun s=>(cp,.cells [kP k].toArray 101)::((k,.cells [.bool true,adr,bv,sV lf].toArray 107)::((d,.cells (dc.set o (.slice (some ⟨s.1,s.2.1,none⟩) (l.length+1) s.2.2.2)).toArray Td)::((s.1,.cells s.2.2.1.toArray 69)::((b1,.cells [.int .i64 ((leV (left.take 2):Nat):Int)].toArray 3)::F))))) (fun s=>Lies s.2.2.1 (s.2.1+l.length*4) (cE fsM (zEl fsM))∧∀q:El fsM,Slc 69 4 (.slice (some ⟨s.1,s.2.1,none⟩) (l.length+1) s.2.2.2) (l.length+1) (cel (cE fsM) ((l++[zEl fsM]).set l.length q)) [(s.1,.cells (setAt s.2.2.1 (s.2.1+l.length*4) (cE fsM q)).toArray 69)]) ⟨rfl,rfl,rfl,rfl,rfl,rfl,trivial⟩ (fun _ KK hC0=>?_) ?_
  ·
   dsimp only[Y1,Y2]at hC0;refine zq [3,4,0,9,6,8,2,5,18] ?_;refine AnyH.start ([]:Hp) 11 rfl ?_;refine zd [0,1,1,1,2,3] ?_;refine YB 3 4 ?_ ?_
   ·
    refine Yv rfl rfl (pv_load rfl rfl (nth_set (nth_lt hv))) ?_;refine YA 4 ?_;refine Yw rfl rfl (ef_allocK tyZ69 rfl) fun b3=>?_
    refine zd [5,3] ?_;refine YA 6 ?_;refine Yv rfl rfl (pv_loadK [_,_,_,_] rfl rfl rfl ⟨rfl,rfl,rfl,rfl,trivial⟩) ?_;refine YA 7 ?_;refine Yw rfl rfl (ef_buildSlice1 (k:=4) rfl rfl rfl rfl rfl) fun b4=>?_
    refine YA 8 ?_;refine Turn.ef rfl rfl (ef_append (H:=Hs) (xs:=[.int .i64 0,.int .i64 0,.int .i64 0,.bool false]) rfl hs rfl ⟨rfl,rfl,rfl,rfl,trivial⟩ rfl rfl rfl (by omega) (by omega) rfl rfl) ?_ ?_ <;> rintro _ _ ⟨v1,H1,hs1,rfl,rfl⟩
    ·infer_instance
    refine AnyH.app ?_;have hs2:Slc 69 4 v1 (l.length+1) (cel (cE fsM) (l++[zEl fsM])) H1:=by rw[cel_app,cel_one1];exact hs1
    obtain ⟨eb,eo,cc,cap,rfl,rfl,hx,hset⟩:=slc_el (i:=l.length) (a:=zEl fsM) hs2 (by simp) (by decide);refine zd [9,3] ?_;refine YA 10 ?_;refine Yu rfl rfl (ef_store1 (hset:=setL_set2 (nth_lt hv)) rfl rfl rfl rfl) ?_;refine YD ?_;refine zq [49] ?_;refine Yy (hC0 (eb,eo,cc,cap) ⟨hx,hset⟩)
   refine Yw rfl rfl (ef_allocK tyZ69 rfl) fun b5=>?_
   refine zd [5,3] ?_;refine YB 3 6 ?_ ?_
   ·
    refine Yv rfl rfl (pv_load rfl rfl (nth_set (nth_lt hv))) ?_;refine YA 6 ?_;refine Yv rfl rfl (pv_loadK [_,_,_,_] rfl rfl rfl ⟨rfl,rfl,rfl,rfl,trivial⟩) ?_;refine YA 7 ?_;refine Yw rfl rfl (ef_buildSlice1 (k:=4) rfl rfl rfl rfl rfl) fun b6=>?_
    refine YA 8 ?_;refine Turn.ef rfl rfl (ef_append (H:=Hs) (xs:=[.int .i64 0,.int .i64 0,.int .i64 0,.bool false]) rfl hs rfl ⟨rfl,rfl,rfl,rfl,trivial⟩ rfl rfl rfl (by omega) (by omega) rfl rfl) ?_ ?_ <;> rintro _ _ ⟨v2,H2,hs2,rfl,rfl⟩
    ·infer_instance
    refine AnyH.app ?_;have hs2:Slc 69 4 v2 (l.length+1) (cel (cE fsM) (l++[zEl fsM])) H2:=by rw[cel_app,cel_one1];exact hs2
    obtain ⟨eb,eo,cc,cap,rfl,rfl,hx,hset⟩:=slc_el (i:=l.length) (a:=zEl fsM) hs2 (by simp) (by decide);refine zd [9,3] ?_;refine YA 10 ?_;refine Yu rfl rfl (ef_store1 (hset:=setL_set2 (nth_lt hv)) rfl rfl rfl rfl) ?_;refine YD ?_;refine zq [49] ?_;refine Yy (hC0 (eb,eo,cc,cap) ⟨hx,hset⟩)
   refine Yv rfl rfl (pv_loadK [_,_,_,_] rfl rfl rfl ⟨rfl,rfl,rfl,rfl,trivial⟩) ?_;refine YB 3 7 ?_ ?_
   ·
    refine Yv rfl rfl (pv_load rfl rfl (nth_set (nth_lt hv))) ?_;refine YA 7 ?_;refine Yw rfl rfl (ef_buildSlice1 (k:=4) rfl rfl rfl rfl rfl) fun b7=>?_
    refine YA 8 ?_;refine Turn.ef rfl rfl (ef_append (H:=Hs) (xs:=[.int .i64 0,.int .i64 0,.int .i64 0,.bool false]) rfl hs rfl ⟨rfl,rfl,rfl,rfl,trivial⟩ rfl rfl rfl (by omega) (by omega) rfl rfl) ?_ ?_ <;> rintro _ _ ⟨v3,H3,hs3,rfl,rfl⟩
    ·infer_instance
    refine AnyH.app ?_;have hs2:Slc 69 4 v3 (l.length+1) (cel (cE fsM) (l++[zEl fsM])) H3:=by rw[cel_app,cel_one1];exact hs3
    obtain ⟨eb,eo,cc,cap,rfl,rfl,hx,hset⟩:=slc_el (i:=l.length) (a:=zEl fsM) hs2 (by simp) (by decide);refine zd [9,3] ?_;refine YA 10 ?_;refine Yu rfl rfl (ef_store1 (hset:=setL_set2 (nth_lt hv)) rfl rfl rfl rfl) ?_;refine YD ?_;refine zq [49] ?_;refine Yy (hC0 (eb,eo,cc,cap) ⟨hx,hset⟩)
   refine Yw rfl rfl (ef_buildSlice1 (k:=4) rfl rfl rfl rfl rfl) fun b8=>?_
   refine YA 3 ?_;refine Yv rfl rfl (pv_load rfl rfl (nth_set (nth_lt hv))) ?_;refine YA 8 ?_;refine Turn.ef rfl rfl (ef_append (H:=Hs) (xs:=[.int .i64 0,.int .i64 0,.int .i64 0,.bool false]) rfl hs rfl ⟨rfl,rfl,rfl,rfl,trivial⟩ rfl rfl rfl (by omega) (by omega) rfl rfl) ?_ ?_ <;> rintro _ _ ⟨v4,H4,hs4,rfl,rfl⟩
   ·infer_instance
   refine AnyH.app ?_;have hs2:Slc 69 4 v4 (l.length+1) (cel (cE fsM) (l++[zEl fsM])) H4:=by rw[cel_app,cel_one1];exact hs4
   obtain ⟨eb,eo,cc,cap,rfl,rfl,hx,hset⟩:=slc_el (i:=l.length) (a:=zEl fsM) hs2 (by simp) (by decide);refine zd [9,3] ?_;refine YA 10 ?_;refine Yu rfl rfl (ef_store1 (hset:=setL_set2 (nth_lt hv)) rfl rfl rfl rfl) ?_;refine YD ?_;refine zq [49] ?_;refine Yy (hC0 (eb,eo,cc,cap) ⟨hx,hset⟩)
  rintro ⟨eb,eo,cc,cap⟩ ⟨hx,hset⟩;dsimp only[Y1,Y2]at ⊢;dsimp only at hx hset ⊢;refine zq [4,0,0,9] ?_;refine Yp (pv_load rfl rfl (nth_set (nth_lt hv))) ?_;refine zq [0] ?_;refine Yi rfl rfl (l.length) rfl ?_;refine Ops.efx rfl (efx_callf rfl rfl (tr_elR3 cp k adr bv lf (by omega) h1b h1a eb (eo+l.length*4) cc 69 hx) rfl) ?_ ?_
  ·
   rintro _ _ ⟨_,⟨rfl,hno,rfl⟩,rfl⟩;exact ⟨[],⟨rfl,by unfold rdL;rw[if_neg (by omega),if_neg (by omega)];exact rdI_up (rdI_none hr hno) (by omega),rfl⟩,inferInstance⟩
  rintro _ _ ⟨_,_,⟨rfl,e9,lf2,he9,rfl⟩,rfl,rfl⟩;refine Ops.app ?_;refine zq [2,19,5,4] ?_;refine Ya rfl rfl (l.length+1) ?_;refine zq [0,2,49] ?_;refine Yy (hK (l.length+1,lf2,l++[mkEl fsM e9],.slice (some ⟨eb,eo,none⟩) (l.length+1) cap,[(eb,.cells (setAt cc (eo+l.length*4) (cE fsM (mkEl fsM e9))).toArray 69)]) ⟨by dsimp only;omega,rdI_some hr he9,by have:=(rdI_len (rdI_some hr he9)).2;rw[Y6]at this;dsimp only;omega,by have:=hset (mkEl fsM e9);rw[List.set_append_right _ _ (Nat.le_refl _),Nat.sub_self,List.set_cons_zero]at this;rw[Y3];exact this⟩ (by dsimp only;omega))
 obtain rfl:i=leV (left.take 2):=by omega
 refine zq [41,16,16,40] ?_;have hL:rdL fsM 64 left=some (l,lf):=by unfold rdL;rw[if_neg (by omega),if_neg (by omega)];exact hr
 exact Ends.finE (L' := (cp,.cells [kP k].toArray 101)::((k,.cells [.bool true,adr,bv,sV lf].toArray 107)::((d,.cells (dc.set o vs).toArray Td)::Hs))) (res0 rfl) ⟨rfl,l,lf,vs,Hs,hL,hs,rfl⟩
theorem tr_listR4(adr bv:Value)(left:List UInt8)(hl:left.length≤2^40)(h1b:bv.oneCell' = true)(h1a:adr.oneCell' = true)(d o:Nat)(dc:List Value)(Td:TypeId)(hv:nth dc o=some (.slice none 0 0)):TrE prog 133 [kP k,.pointer (some ⟨d,o,none⟩),.int .i64 512,.func (.func 134) #[] #[.pointer (some ⟨cp,0,none⟩)]] ((cp,.cells [kP k].toArray 101)::((k,.cells [.bool true,adr,bv,sV left].toArray 107)::[(d,.cells dc.toArray Td)])) (fun u L' => u=.tuple #[]∧∃(L:List (El fsF)) (left' : List UInt8) (v:Value) (H:Hp),rdL fsF 512 left=some (L,left')∧Slc 119 3 v L.length (cel (cE fsF) L) H∧L' = (cp,.cells [kP k].toArray 101)::((k,.cells [.bool true,adr,bv,sV left'].toArray 107)::((d,.cells (dc.set o v).toArray Td)::H))) (fun c L' => c=badC∧rdL fsF 512 left=none∧L' = []):=by
 refine YX func133 ntmps133 fun W F=>?_
 refine zq [3,4,0,9] ?_;refine Yp (pv_load rfl rfl hv) ?_;refine Yp (pv_len_slice (T:=39) rfl rfl) ?_;refine Yq (ef_alloc1 tyZ3 rfl rfl) fun b1=>?_
 refine zq [25,2,5,3,3,4,8,0] ?_;refine Yp ((pv_gtr rfl rfl).fls (by first | exact fun h=>h rfl | decide | omega | assumption)) ?_;refine zq [2,5,17,11,5,3,4,0] ?_;refine Yq (ef_buildSlice1 (k:=1) rfl rfl rfl rfl rfl) fun b2=>?_
 refine Ops.efx rfl (efx_call (tr_twoR k adr bv left hl h1b h1a b2 278 [.pointer (some ⟨b1,0,none⟩)] b1 0 [.int .i64 0] 3 [0] rfl (one_hcc rfl) (by intro y hy;simp only[List.mem_cons,List.not_mem_nil,or_false]at hy;unfold RgI;omega) (by simp) (by simp)) rfl rfl) ?_ ?_
 ·
  rintro _ _ ⟨_,⟨rfl,hno,rfl⟩,rfl⟩;exact ⟨[],⟨rfl,by have h3:left.length<2:=hno;unfold rdL;rw[if_pos h3],rfl⟩,inferInstance⟩
 rintro _ _ ⟨_,_,⟨rfl,hl2,rfl⟩,rfl,rfl⟩;refine Ops.app ?_;rw[show setAt [.int .i64 0] 0 (intC (rdTw ([0]:List Int).length left))=[.int .i64 ((leV (left.take 2):Nat):Int)] from rfl,show left.drop (2*([0]:List Int).length)=left.drop 2 from rfl];have hl3:2≤left.length:=hl2
 have hc2:=leV2 left
 refine zq [2,5,3,3,4,8,0,44,2,5] ?_;refine Yd rfl (fun h1=>?_) (fun h1=>?_)
 ·
  refine zq [4,23,74] ?_;exact Ops.panic rfl ⟨[],⟨rfl,by unfold rdL;rw[if_neg (by omega),if_pos (by omega)],rfl⟩,inferInstance⟩
 have hmost:leV (left.take 2)≤512:=by omega
 refine zq [11,5,3,3,4,0,9,6,8,2,5,18,4,0,9] ?_;refine Yo (ef_store1 (hset:=setL_set (nth_lt hv)) rfl rfl rfl rfl) ?_;refine zq [2,5,3,4,8,0,2,5,20] ?_;refine YM (σ:=Nat×List UInt8×List (El fsF)×Value×Hp) [(0,_),(1,_),(3,_),(33,_)] (fun s=>[(34,.int .i64 s.1)]) (fun s=>(cp,.cells [kP k].toArray 101)::((k,.cells [.bool true,adr,bv,sV s.2.1].toArray 107)::((d,.cells (dc.set o s.2.2.2.1).toArray Td)::(s.2.2.2.2++((b1,.cells [.int .i64 ((leV (left.take 2):Nat):Int)].toArray 3)::F))))) (fun s=>s.1≤leV (left.take 2)∧rdI fsF s.1 (left.drop 2)=some (s.2.2.1,s.2.1)∧s.2.1.length≤left.length∧Slc 119 3 s.2.2.2.1 s.2.2.1.length (cel (cE fsF) s.2.2.1) s.2.2.2.2) (fun s=>leV (left.take 2)-s.1) (0,left.drop 2,[],.slice none 0 0,[]) ⟨Nat.zero_le _,rfl,by dsimp only;rw[Y6];omega,Slc.nil 119 3⟩ ?_;rintro ⟨i,lf,l,vs,Hs⟩ KK ⟨hi,hr,hlf,hs⟩ hK;dsimp only[Y1,Y2]at hK ⊢;dsimp only at hi hr hlf hs ⊢;refine zq [3,4,42,2,5,3] ?_;refine Yd rfl (fun h2=>?_) (fun h2=>?_)
 ·
  obtain rfl:i=l.length:=(rdI_len hr).1.symm;refine zq [11,5,3,20,3,4,0,1,2,5] ?_;refine Wp.cutK (σ:=Nat×Nat×List Value×Nat) [(0,_),(1,_),(3,_),(9,_),(33,_),(34,_)] (fun s=>[]) (fun s=>(cp,.cells [kP k].toArray 101)::((k,.cells [.bool true,adr,bv,sV lf].toArray 107)::((d,.cells (dc.set o (.slice (some ⟨s.1,s.2.1,none⟩) (l.length+1) s.2.2.2)).toArray Td)::((s.1,.cells s.2.2.1.toArray 119)::((b1,.cells [.int .i64 ((leV (left.take 2):Nat):Int)].toArray 3)::F))))) (fun s=>Lies s.2.2.1 (s.2.1+l.length*3) (cE fsF (zEl fsF))∧∀q:El fsF,Slc 119 3 (.slice (some ⟨s.1,s.2.1,none⟩) (l.length+1) s.2.2.2) (l.length+1) (cel (cE fsF) ((l++[zEl fsF]).set l.length q)) [(s.1,.cells (setAt s.2.2.1 (s.2.1+l.length*3) (cE fsF q)).toArray 119)]) ⟨rfl,rfl,rfl,rfl,rfl,rfl,trivial⟩ (fun _ KK hC0=>?_) ?_
  ·
   dsimp only[Y1,Y2]at hC0;refine zq [3,4,0,9,6,8,2,5,18] ?_;refine AnyH.start ([]:Hp) 11 rfl ?_;refine zd [0,1,1,1,2,3] ?_;refine YB 3 4 ?_ ?_
   ·
    refine Yv rfl rfl (pv_load rfl rfl (nth_set (nth_lt hv))) ?_;refine YA 4 ?_;refine Yw rfl rfl (ef_allocK tyZ119 rfl) fun b3=>?_
    refine zd [5,3] ?_;refine YA 6 ?_;refine Yv rfl rfl (pv_loadK [_,_,_] rfl rfl rfl ⟨rfl,rfl,rfl,trivial⟩) ?_;refine YA 7 ?_;refine Yw rfl rfl (ef_buildSlice1 (k:=3) rfl rfl rfl rfl rfl) fun b4=>?_
    refine YA 8 ?_;refine Turn.ef rfl rfl (ef_append (H:=Hs) (xs:=[.int .i64 0,.int .i64 0,.int .u64 0]) rfl hs rfl ⟨rfl,rfl,rfl,trivial⟩ rfl rfl rfl (by omega) (by omega) rfl rfl) ?_ ?_ <;> rintro _ _ ⟨v1,H1,hs1,rfl,rfl⟩
    ·infer_instance
    refine AnyH.app ?_;have hs2:Slc 119 3 v1 (l.length+1) (cel (cE fsF) (l++[zEl fsF])) H1:=by rw[cel_app,cel_one1];exact hs1
    obtain ⟨eb,eo,cc,cap,rfl,rfl,hx,hset⟩:=slc_el (i:=l.length) (a:=zEl fsF) hs2 (by simp) (by decide);refine zd [9,3] ?_;refine YA 10 ?_;refine Yu rfl rfl (ef_store1 (hset:=setL_set2 (nth_lt hv)) rfl rfl rfl rfl) ?_;refine YD ?_;refine zq [49] ?_;refine Yy (hC0 (eb,eo,cc,cap) ⟨hx,hset⟩)
   refine Yw rfl rfl (ef_allocK tyZ119 rfl) fun b5=>?_
   refine zd [5,3] ?_;refine YB 3 6 ?_ ?_
   ·
    refine Yv rfl rfl (pv_load rfl rfl (nth_set (nth_lt hv))) ?_;refine YA 6 ?_;refine Yv rfl rfl (pv_loadK [_,_,_] rfl rfl rfl ⟨rfl,rfl,rfl,trivial⟩) ?_;refine YA 7 ?_;refine Yw rfl rfl (ef_buildSlice1 (k:=3) rfl rfl rfl rfl rfl) fun b6=>?_
    refine YA 8 ?_;refine Turn.ef rfl rfl (ef_append (H:=Hs) (xs:=[.int .i64 0,.int .i64 0,.int .u64 0]) rfl hs rfl ⟨rfl,rfl,rfl,trivial⟩ rfl rfl rfl (by omega) (by omega) rfl rfl) ?_ ?_ <;> rintro _ _ ⟨v2,H2,hs2,rfl,rfl⟩
    ·infer_instance
    refine AnyH.app ?_;have hs2:Slc 119 3 v2 (l.length+1) (cel (cE fsF) (l++[zEl fsF])) H2:=by rw[cel_app,cel_one1];exact hs2
    obtain ⟨eb,eo,cc,cap,rfl,rfl,hx,hset⟩:=slc_el (i:=l.length) (a:=zEl fsF) hs2 (by simp) (by decide);refine zd [9,3] ?_;refine YA 10 ?_;refine Yu rfl rfl (ef_store1 (hset:=setL_set2 (nth_lt hv)) rfl rfl rfl rfl) ?_;refine YD ?_;refine zq [49] ?_;refine Yy (hC0 (eb,eo,cc,cap) ⟨hx,hset⟩)
   refine Yv rfl rfl (pv_loadK [_,_,_] rfl rfl rfl ⟨rfl,rfl,rfl,trivial⟩) ?_;refine YB 3 7 ?_ ?_
   ·
    refine Yv rfl rfl (pv_load rfl rfl (nth_set (nth_lt hv))) ?_;refine YA 7 ?_;refine Yw rfl rfl (ef_buildSlice1 (k:=3) rfl rfl rfl rfl rfl) fun b7=>?_
    refine YA 8 ?_;refine Turn.ef rfl rfl (ef_append (H:=Hs) (xs:=[.int .i64 0,.int .i64 0,.int .u64 0]) rfl hs rfl ⟨rfl,rfl,rfl,trivial⟩ rfl rfl rfl (by omega) (by omega) rfl rfl) ?_ ?_ <;> rintro _ _ ⟨v3,H3,hs3,rfl,rfl⟩
    ·infer_instance
    refine AnyH.app ?_;have hs2:Slc 119 3 v3 (l.length+1) (cel (cE fsF) (l++[zEl fsF])) H3:=by rw[cel_app,cel_one1];exact hs3
    obtain ⟨eb,eo,cc,cap,rfl,rfl,hx,hset⟩:=slc_el (i:=l.length) (a:=zEl fsF) hs2 (by simp) (by decide);refine zd [9,3] ?_;refine YA 10 ?_;refine Yu rfl rfl (ef_store1 (hset:=setL_set2 (nth_lt hv)) rfl rfl rfl rfl) ?_;refine YD ?_;refine zq [49] ?_;refine Yy (hC0 (eb,eo,cc,cap) ⟨hx,hset⟩)
   refine Yw rfl rfl (ef_buildSlice1 (k:=3) rfl rfl rfl rfl rfl) fun b8=>?_
   refine YA 3 ?_;refine Yv rfl rfl (pv_load rfl rfl (nth_set (nth_lt hv))) ?_;refine YA 8 ?_;refine Turn.ef rfl rfl (ef_append (H:=Hs) (xs:=[.int .i64 0,.int .i64 0,.int .u64 0]) rfl hs rfl ⟨rfl,rfl,rfl,trivial⟩ rfl rfl rfl (by omega) (by omega) rfl rfl) ?_ ?_ <;> rintro _ _ ⟨v4,H4,hs4,rfl,rfl⟩
   ·infer_instance
   refine AnyH.app ?_;have hs2:Slc 119 3 v4 (l.length+1) (cel (cE fsF) (l++[zEl fsF])) H4:=by rw[cel_app,cel_one1];exact hs4
   obtain ⟨eb,eo,cc,cap,rfl,rfl,hx,hset⟩:=slc_el (i:=l.length) (a:=zEl fsF) hs2 (by simp) (by decide);refine zd [9,3] ?_;refine YA 10 ?_;refine Yu rfl rfl (ef_store1 (hset:=setL_set2 (nth_lt hv)) rfl rfl rfl rfl) ?_;refine YD ?_;refine zq [49] ?_;refine Yy (hC0 (eb,eo,cc,cap) ⟨hx,hset⟩)
  rintro ⟨eb,eo,cc,cap⟩ ⟨hx,hset⟩;dsimp only[Y1,Y2]at ⊢;dsimp only at hx hset ⊢;refine zq [4,0,0,9] ?_;refine Yp (pv_load rfl rfl (nth_set (nth_lt hv))) ?_;refine zq [0] ?_;refine Yi rfl rfl (l.length) rfl ?_;refine Ops.efx rfl (efx_callf rfl rfl (tr_elR4 cp k adr bv lf (by omega) h1b h1a eb (eo+l.length*3) cc 119 hx) rfl) ?_ ?_
  ·
   rintro _ _ ⟨_,⟨rfl,hno,rfl⟩,rfl⟩;exact ⟨[],⟨rfl,by unfold rdL;rw[if_neg (by omega),if_neg (by omega)];exact rdI_up (rdI_none hr hno) (by omega),rfl⟩,inferInstance⟩
  rintro _ _ ⟨_,_,⟨rfl,e9,lf2,he9,rfl⟩,rfl,rfl⟩;refine Ops.app ?_;refine zq [2,19,5,4] ?_;refine Ya rfl rfl (l.length+1) ?_;refine zq [0,2,49] ?_;refine Yy (hK (l.length+1,lf2,l++[mkEl fsF e9],.slice (some ⟨eb,eo,none⟩) (l.length+1) cap,[(eb,.cells (setAt cc (eo+l.length*3) (cE fsF (mkEl fsF e9))).toArray 119)]) ⟨by dsimp only;omega,rdI_some hr he9,by have:=(rdI_len (rdI_some hr he9)).2;rw[Y6]at this;dsimp only;omega,by have:=hset (mkEl fsF e9);rw[List.set_append_right _ _ (Nat.le_refl _),Nat.sub_self,List.set_cons_zero]at this;rw[Y3];exact this⟩ (by dsimp only;omega))
 obtain rfl:i=leV (left.take 2):=by omega
 refine zq [41,16,16,40] ?_;have hL:rdL fsF 512 left=some (l,lf):=by unfold rdL;rw[if_neg (by omega),if_neg (by omega)];exact hr
 exact Ends.finE (L' := (cp,.cells [kP k].toArray 101)::((k,.cells [.bool true,adr,bv,sV lf].toArray 107)::((d,.cells (dc.set o vs).toArray Td)::Hs))) (res0 rfl) ⟨rfl,l,lf,vs,Hs,hL,hs,rfl⟩
theorem tr_listR5(adr bv:Value)(left:List UInt8)(hl:left.length≤2^40)(h1b:bv.oneCell' = true)(h1a:adr.oneCell' = true)(d o:Nat)(dc:List Value)(Td:TypeId)(hv:nth dc o=some (.slice none 0 0)):TrE prog 135 [kP k,.pointer (some ⟨d,o,none⟩),.int .i64 64,.func (.func 136) #[] #[.pointer (some ⟨cp,0,none⟩)]] ((cp,.cells [kP k].toArray 101)::((k,.cells [.bool true,adr,bv,sV left].toArray 107)::[(d,.cells dc.toArray Td)])) (fun u L' => u=.tuple #[]∧∃(L:List (El fsT)) (left' : List UInt8) (v:Value) (H:Hp),rdL fsT 64 left=some (L,left')∧Slc 67 8 v L.length (cel (cE fsT) L) H∧L' = (cp,.cells [kP k].toArray 101)::((k,.cells [.bool true,adr,bv,sV left'].toArray 107)::((d,.cells (dc.set o v).toArray Td)::H))) (fun c L' => c=badC∧rdL fsT 64 left=none∧L' = []):=by
 refine YX func135 ntmps135 fun W F=>?_
 refine zq [3,4,0,9] ?_;refine Yp (pv_load rfl rfl hv) ?_;refine Yp (pv_len_slice (T:=40) rfl rfl) ?_;refine Yq (ef_alloc1 tyZ3 rfl rfl) fun b1=>?_
 refine zq [25,2,5,3,3,4,8,0] ?_;refine Yp ((pv_gtr rfl rfl).fls (by first | exact fun h=>h rfl | decide | omega | assumption)) ?_;refine zq [2,5,17,11,5,3,4,0] ?_;refine Yq (ef_buildSlice1 (k:=1) rfl rfl rfl rfl rfl) fun b2=>?_
 refine Ops.efx rfl (efx_call (tr_twoR k adr bv left hl h1b h1a b2 278 [.pointer (some ⟨b1,0,none⟩)] b1 0 [.int .i64 0] 3 [0] rfl (one_hcc rfl) (by intro y hy;simp only[List.mem_cons,List.not_mem_nil,or_false]at hy;unfold RgI;omega) (by simp) (by simp)) rfl rfl) ?_ ?_
 ·
  rintro _ _ ⟨_,⟨rfl,hno,rfl⟩,rfl⟩;exact ⟨[],⟨rfl,by have h3:left.length<2:=hno;unfold rdL;rw[if_pos h3],rfl⟩,inferInstance⟩
 rintro _ _ ⟨_,_,⟨rfl,hl2,rfl⟩,rfl,rfl⟩;refine Ops.app ?_;rw[show setAt [.int .i64 0] 0 (intC (rdTw ([0]:List Int).length left))=[.int .i64 ((leV (left.take 2):Nat):Int)] from rfl,show left.drop (2*([0]:List Int).length)=left.drop 2 from rfl];have hl3:2≤left.length:=hl2
 have hc2:=leV2 left
 refine zq [2,5,3,3,4,8,0,44,2,5] ?_;refine Yd rfl (fun h1=>?_) (fun h1=>?_)
 ·
  refine zq [4,23,74] ?_;exact Ops.panic rfl ⟨[],⟨rfl,by unfold rdL;rw[if_neg (by omega),if_pos (by omega)],rfl⟩,inferInstance⟩
 have hmost:leV (left.take 2)≤64:=by omega
 refine zq [11,5,3,3,4,0,9,6,8,2,5,18,4,0,9] ?_;refine Yo (ef_store1 (hset:=setL_set (nth_lt hv)) rfl rfl rfl rfl) ?_;refine zq [2,5,3,4,8,0,2,5,20] ?_;refine YM (σ:=Nat×List UInt8×List (El fsT)×Value×Hp) [(0,_),(1,_),(3,_),(33,_)] (fun s=>[(34,.int .i64 s.1)]) (fun s=>(cp,.cells [kP k].toArray 101)::((k,.cells [.bool true,adr,bv,sV s.2.1].toArray 107)::((d,.cells (dc.set o s.2.2.2.1).toArray Td)::(s.2.2.2.2++((b1,.cells [.int .i64 ((leV (left.take 2):Nat):Int)].toArray 3)::F))))) (fun s=>s.1≤leV (left.take 2)∧rdI fsT s.1 (left.drop 2)=some (s.2.2.1,s.2.1)∧s.2.1.length≤left.length∧Slc 67 8 s.2.2.2.1 s.2.2.1.length (cel (cE fsT) s.2.2.1) s.2.2.2.2) (fun s=>leV (left.take 2)-s.1) (0,left.drop 2,[],.slice none 0 0,[]) ⟨Nat.zero_le _,rfl,by dsimp only;rw[Y6];omega,Slc.nil 67 8⟩ ?_;rintro ⟨i,lf,l,vs,Hs⟩ KK ⟨hi,hr,hlf,hs⟩ hK;dsimp only[Y1,Y2]at hK ⊢;dsimp only at hi hr hlf hs ⊢;refine zq [3,4,42,2,5,3] ?_;refine Yd rfl (fun h2=>?_) (fun h2=>?_)
 ·
  obtain rfl:i=l.length:=(rdI_len hr).1.symm;refine zq [11,5,3,20,3,4,0,1,2,5] ?_;refine Wp.cutK (σ:=Nat×Nat×List Value×Nat) [(0,_),(1,_),(3,_),(9,_),(33,_),(34,_)] (fun s=>[]) (fun s=>(cp,.cells [kP k].toArray 101)::((k,.cells [.bool true,adr,bv,sV lf].toArray 107)::((d,.cells (dc.set o (.slice (some ⟨s.1,s.2.1,none⟩) (l.length+1) s.2.2.2)).toArray Td)::((s.1,.cells s.2.2.1.toArray 67)::((b1,.cells [.int .i64 ((leV (left.take 2):Nat):Int)].toArray 3)::F))))) (fun s=>Lies s.2.2.1 (s.2.1+l.length*8) (cE fsT (zEl fsT))∧∀q:El fsT,Slc 67 8 (.slice (some ⟨s.1,s.2.1,none⟩) (l.length+1) s.2.2.2) (l.length+1) (cel (cE fsT) ((l++[zEl fsT]).set l.length q)) [(s.1,.cells (setAt s.2.2.1 (s.2.1+l.length*8) (cE fsT q)).toArray 67)]) ⟨rfl,rfl,rfl,rfl,rfl,rfl,trivial⟩ (fun _ KK hC0=>?_) ?_
  ·
   dsimp only[Y1,Y2]at hC0;refine zq [3,4,0,9,6,8,2,5,18] ?_;refine AnyH.start ([]:Hp) 11 rfl ?_;refine zd [0,1,1,1,2,3] ?_;refine YB 3 4 ?_ ?_
   ·
    refine Yv rfl rfl (pv_load rfl rfl (nth_set (nth_lt hv))) ?_;refine YA 4 ?_;refine Yw rfl rfl (ef_allocK tyZ67 rfl) fun b3=>?_
    refine zd [5,3] ?_;refine YA 6 ?_;refine Yv rfl rfl (pv_loadK [_,_,_,_,_,_,_,_] rfl rfl rfl ⟨rfl,rfl,rfl,rfl,rfl,rfl,rfl,rfl,trivial⟩) ?_;refine YA 7 ?_;refine Yw rfl rfl (ef_buildSlice1 (k:=8) rfl rfl rfl rfl rfl) fun b4=>?_
    refine YA 8 ?_;refine Turn.ef rfl rfl (ef_append (H:=Hs) (xs:=[.int .i64 0,.int .i64 0,.int .i64 0,.int .i64 0,.int .i64 0,.int .u64 0,.int .i64 0,.int .i64 0]) rfl hs rfl ⟨rfl,rfl,rfl,rfl,rfl,rfl,rfl,rfl,trivial⟩ rfl rfl rfl (by omega) (by omega) rfl rfl) ?_ ?_ <;> rintro _ _ ⟨v1,H1,hs1,rfl,rfl⟩
    ·infer_instance
    refine AnyH.app ?_;have hs2:Slc 67 8 v1 (l.length+1) (cel (cE fsT) (l++[zEl fsT])) H1:=by rw[cel_app,cel_one1];exact hs1
    obtain ⟨eb,eo,cc,cap,rfl,rfl,hx,hset⟩:=slc_el (i:=l.length) (a:=zEl fsT) hs2 (by simp) (by decide);refine zd [9,3] ?_;refine YA 10 ?_;refine Yu rfl rfl (ef_store1 (hset:=setL_set2 (nth_lt hv)) rfl rfl rfl rfl) ?_;refine YD ?_;refine zq [49] ?_;refine Yy (hC0 (eb,eo,cc,cap) ⟨hx,hset⟩)
   refine Yw rfl rfl (ef_allocK tyZ67 rfl) fun b5=>?_
   refine zd [5,3] ?_;refine YB 3 6 ?_ ?_
   ·
    refine Yv rfl rfl (pv_load rfl rfl (nth_set (nth_lt hv))) ?_;refine YA 6 ?_;refine Yv rfl rfl (pv_loadK [_,_,_,_,_,_,_,_] rfl rfl rfl ⟨rfl,rfl,rfl,rfl,rfl,rfl,rfl,rfl,trivial⟩) ?_;refine YA 7 ?_;refine Yw rfl rfl (ef_buildSlice1 (k:=8) rfl rfl rfl rfl rfl) fun b6=>?_
    refine YA 8 ?_;refine Turn.ef rfl rfl (ef_append (H:=Hs) (xs:=[.int .i64 0,.int .i64 0,.int .i64 0,.int .i64 0,.int .i64 0,.int .u64 0,.int .i64 0,.int .i64 0]) rfl hs rfl ⟨rfl,rfl,rfl,rfl,rfl,rfl,rfl,rfl,trivial⟩ rfl rfl rfl (by omega) (by omega) rfl rfl) ?_ ?_ <;> rintro _ _ ⟨v2,H2,hs2,rfl,rfl⟩
    ·infer_instance
    refine AnyH.app ?_;have hs2:Slc 67 8 v2 (l.length+1) (cel (cE fsT) (l++[zEl fsT])) H2:=by rw[cel_app,cel_one1];exact hs2
    obtain ⟨eb,eo,cc,cap,rfl,rfl,hx,hset⟩:=slc_el (i:=l.length) (a:=zEl fsT) hs2 (by simp) (by decide);refine zd [9,3] ?_;refine YA 10 ?_;refine Yu rfl rfl (ef_store1 (hset:=setL_set2 (nth_lt hv)) rfl rfl rfl rfl) ?_;refine YD ?_;refine zq [49] ?_;refine Yy (hC0 (eb,eo,cc,cap) ⟨hx,hset⟩)
   refine Yv rfl rfl (pv_loadK [_,_,_,_,_,_,_,_] rfl rfl rfl ⟨rfl,rfl,rfl,rfl,rfl,rfl,rfl,rfl,trivial⟩) ?_;refine YB 3 7 ?_ ?_
   ·
    refine Yv rfl rfl (pv_load rfl rfl (nth_set (nth_lt hv))) ?_;refine YA 7 ?_;refine Yw rfl rfl (ef_buildSlice1 (k:=8) rfl rfl rfl rfl rfl) fun b7=>?_
    refine YA 8 ?_;refine Turn.ef rfl rfl (ef_append (H:=Hs) (xs:=[.int .i64 0,.int .i64 0,.int .i64 0,.int .i64 0,.int .i64 0,.int .u64 0,.int .i64 0,.int .i64 0]) rfl hs rfl ⟨rfl,rfl,rfl,rfl,rfl,rfl,rfl,rfl,trivial⟩ rfl rfl rfl (by omega) (by omega) rfl rfl) ?_ ?_ <;> rintro _ _ ⟨v3,H3,hs3,rfl,rfl⟩
    ·infer_instance
    refine AnyH.app ?_;have hs2:Slc 67 8 v3 (l.length+1) (cel (cE fsT) (l++[zEl fsT])) H3:=by rw[cel_app,cel_one1];exact hs3
    obtain ⟨eb,eo,cc,cap,rfl,rfl,hx,hset⟩:=slc_el (i:=l.length) (a:=zEl fsT) hs2 (by simp) (by decide);refine zd [9,3] ?_;refine YA 10 ?_;refine Yu rfl rfl (ef_store1 (hset:=setL_set2 (nth_lt hv)) rfl rfl rfl rfl) ?_;refine YD ?_;refine zq [49] ?_;refine Yy (hC0 (eb,eo,cc,cap) ⟨hx,hset⟩)
   refine Yw rfl rfl (ef_buildSlice1 (k:=8) rfl rfl rfl rfl rfl) fun b8=>?_
   refine YA 3 ?_;refine Yv rfl rfl (pv_load rfl rfl (nth_set (nth_lt hv))) ?_;refine YA 8 ?_;refine Turn.ef rfl rfl (ef_append (H:=Hs) (xs:=[.int .i64 0,.int .i64 0,.int .i64 0,.int .i64 0,.int .i64 0,.int .u64 0,.int .i64 0,.int .i64 0]) rfl hs rfl ⟨rfl,rfl,rfl,rfl,rfl,rfl,rfl,rfl,trivial⟩ rfl rfl rfl (by omega) (by omega) rfl rfl) ?_ ?_ <;> rintro _ _ ⟨v4,H4,hs4,rfl,rfl⟩
   ·infer_instance
   refine AnyH.app ?_;have hs2:Slc 67 8 v4 (l.length+1) (cel (cE fsT) (l++[zEl fsT])) H4:=by rw[cel_app,cel_one1];exact hs4
   obtain ⟨eb,eo,cc,cap,rfl,rfl,hx,hset⟩:=slc_el (i:=l.length) (a:=zEl fsT) hs2 (by simp) (by decide);refine zd [9,3] ?_;refine YA 10 ?_;refine Yu rfl rfl (ef_store1 (hset:=setL_set2 (nth_lt hv)) rfl rfl rfl rfl) ?_;refine YD ?_;refine zq [49] ?_;refine Yy (hC0 (eb,eo,cc,cap) ⟨hx,hset⟩)
  rintro ⟨eb,eo,cc,cap⟩ ⟨hx,hset⟩;dsimp only[Y1,Y2]at ⊢;dsimp only at hx hset ⊢;refine zq [4,0,0,9] ?_;refine Yp (pv_load rfl rfl (nth_set (nth_lt hv))) ?_;refine zq [0] ?_;refine Yi rfl rfl (l.length) rfl ?_;refine Ops.efx rfl (efx_callf rfl rfl (tr_elR5 cp k adr bv lf (by omega) h1b h1a eb (eo+l.length*8) cc 67 hx) rfl) ?_ ?_
  ·
   rintro _ _ ⟨_,⟨rfl,hno,rfl⟩,rfl⟩;exact ⟨[],⟨rfl,by unfold rdL;rw[if_neg (by omega),if_neg (by omega)];exact rdI_up (rdI_none hr hno) (by omega),rfl⟩,inferInstance⟩
  rintro _ _ ⟨_,_,⟨rfl,e9,lf2,he9,rfl⟩,rfl,rfl⟩;refine Ops.app ?_;refine zq [2,19,5,4] ?_;refine Ya rfl rfl (l.length+1) ?_;refine zq [0,2,49] ?_;refine Yy (hK (l.length+1,lf2,l++[mkEl fsT e9],.slice (some ⟨eb,eo,none⟩) (l.length+1) cap,[(eb,.cells (setAt cc (eo+l.length*8) (cE fsT (mkEl fsT e9))).toArray 67)]) ⟨by dsimp only;omega,rdI_some hr he9,by have:=(rdI_len (rdI_some hr he9)).2;rw[Y6]at this;dsimp only;omega,by have:=hset (mkEl fsT e9);rw[List.set_append_right _ _ (Nat.le_refl _),Nat.sub_self,List.set_cons_zero]at this;rw[Y3];exact this⟩ (by dsimp only;omega))
 obtain rfl:i=leV (left.take 2):=by omega
 refine zq [41,16,16,40] ?_;have hL:rdL fsT 64 left=some (l,lf):=by unfold rdL;rw[if_neg (by omega),if_neg (by omega)];exact hr
 exact Ends.finE (L' := (cp,.cells [kP k].toArray 101)::((k,.cells [.bool true,adr,bv,sV lf].toArray 107)::((d,.cells (dc.set o vs).toArray Td)::Hs))) (res0 rfl) ⟨rfl,l,lf,vs,Hs,hL,hs,rfl⟩
theorem tr_listR6(adr bv:Value)(left:List UInt8)(hl:left.length≤2^40)(h1b:bv.oneCell' = true)(h1a:adr.oneCell' = true)(d o:Nat)(dc:List Value)(Td:TypeId)(hv:nth dc o=some (.slice none 0 0)):TrE prog 137 [kP k,.pointer (some ⟨d,o,none⟩),.int .i64 8,.func (.func 138) #[] #[.pointer (some ⟨cp,0,none⟩)]] ((cp,.cells [kP k].toArray 101)::((k,.cells [.bool true,adr,bv,sV left].toArray 107)::[(d,.cells dc.toArray Td)])) (fun u L' => u=.tuple #[]∧∃(L:List (El fsW)) (left' : List UInt8) (v:Value) (H:Hp),rdL fsW 8 left=some (L,left')∧Slc 122 4 v L.length (cel (cE fsW) L) H∧L' = (cp,.cells [kP k].toArray 101)::((k,.cells [.bool true,adr,bv,sV left'].toArray 107)::((d,.cells (dc.set o v).toArray Td)::H))) (fun c L' => c=badC∧rdL fsW 8 left=none∧L' = []):=by
 refine YX func137 ntmps137 fun W F=>?_
 refine zq [3,4,0,9] ?_;refine Yp (pv_load rfl rfl hv) ?_;refine Yp (pv_len_slice (T:=41) rfl rfl) ?_;refine Yq (ef_alloc1 tyZ3 rfl rfl) fun b1=>?_
 refine zq [25,2,5,3,3,4,8,0] ?_;refine Yp ((pv_gtr rfl rfl).fls (by first | exact fun h=>h rfl | decide | omega | assumption)) ?_;refine zq [2,5,17,11,5,3,4,0] ?_;refine Yq (ef_buildSlice1 (k:=1) rfl rfl rfl rfl rfl) fun b2=>?_
 refine Ops.efx rfl (efx_call (tr_twoR k adr bv left hl h1b h1a b2 278 [.pointer (some ⟨b1,0,none⟩)] b1 0 [.int .i64 0] 3 [0] rfl (one_hcc rfl) (by intro y hy;simp only[List.mem_cons,List.not_mem_nil,or_false]at hy;unfold RgI;omega) (by simp) (by simp)) rfl rfl) ?_ ?_
 ·
  rintro _ _ ⟨_,⟨rfl,hno,rfl⟩,rfl⟩;exact ⟨[],⟨rfl,by have h3:left.length<2:=hno;unfold rdL;rw[if_pos h3],rfl⟩,inferInstance⟩
 rintro _ _ ⟨_,_,⟨rfl,hl2,rfl⟩,rfl,rfl⟩;refine Ops.app ?_;rw[show setAt [.int .i64 0] 0 (intC (rdTw ([0]:List Int).length left))=[.int .i64 ((leV (left.take 2):Nat):Int)] from rfl,show left.drop (2*([0]:List Int).length)=left.drop 2 from rfl];have hl3:2≤left.length:=hl2
 have hc2:=leV2 left
 refine zq [2,5,3,3,4,8,0,44,2,5] ?_;refine Yd rfl (fun h1=>?_) (fun h1=>?_)
 ·
  refine zq [4,23,74] ?_;exact Ops.panic rfl ⟨[],⟨rfl,by unfold rdL;rw[if_neg (by omega),if_pos (by omega)],rfl⟩,inferInstance⟩
 have hmost:leV (left.take 2)≤8:=by omega
 refine zq [11,5,3,3,4,0,9,6,8,2,5,18,4,0,9] ?_;refine Yo (ef_store1 (hset:=setL_set (nth_lt hv)) rfl rfl rfl rfl) ?_;refine zq [2,5,3,4,8,0,2,5,20] ?_;refine YM (σ:=Nat×List UInt8×List (El fsW)×Value×Hp) [(0,_),(1,_),(3,_),(33,_)] (fun s=>[(34,.int .i64 s.1)]) (fun s=>(cp,.cells [kP k].toArray 101)::((k,.cells [.bool true,adr,bv,sV s.2.1].toArray 107)::((d,.cells (dc.set o s.2.2.2.1).toArray Td)::(s.2.2.2.2++((b1,.cells [.int .i64 ((leV (left.take 2):Nat):Int)].toArray 3)::F))))) (fun s=>s.1≤leV (left.take 2)∧rdI fsW s.1 (left.drop 2)=some (s.2.2.1,s.2.1)∧s.2.1.length≤left.length∧Slc 122 4 s.2.2.2.1 s.2.2.1.length (cel (cE fsW) s.2.2.1) s.2.2.2.2) (fun s=>leV (left.take 2)-s.1) (0,left.drop 2,[],.slice none 0 0,[]) ⟨Nat.zero_le _,rfl,by dsimp only;rw[Y6];omega,Slc.nil 122 4⟩ ?_;rintro ⟨i,lf,l,vs,Hs⟩ KK ⟨hi,hr,hlf,hs⟩ hK;dsimp only[Y1,Y2]at hK ⊢;dsimp only at hi hr hlf hs ⊢;refine zq [3,4,42,2,5,3] ?_;refine Yd rfl (fun h2=>?_) (fun h2=>?_)
 ·
  obtain rfl:i=l.length:=(rdI_len hr).1.symm;refine zq [11,5,3,20,3,4,0,1,2,5] ?_;refine Wp.cutK (σ:=Nat×Nat×List Value×Nat) [(0,_),(1,_),(3,_),(9,_),(33,_),(34,_)] (fun s=>[]) (fun s=>(cp,.cells [kP k].toArray 101)::((k,.cells [.bool true,adr,bv,sV lf].toArray 107)::((d,.cells (dc.set o (.slice (some ⟨s.1,s.2.1,none⟩) (l.length+1) s.2.2.2)).toArray Td)::((s.1,.cells s.2.2.1.toArray 122)::((b1,.cells [.int .i64 ((leV (left.take 2):Nat):Int)].toArray 3)::F))))) (fun s=>Lies s.2.2.1 (s.2.1+l.length*4) (cE fsW (zEl fsW))∧∀q:El fsW,Slc 122 4 (.slice (some ⟨s.1,s.2.1,none⟩) (l.length+1) s.2.2.2) (l.length+1) (cel (cE fsW) ((l++[zEl fsW]).set l.length q)) [(s.1,.cells (setAt s.2.2.1 (s.2.1+l.length*4) (cE fsW q)).toArray 122)]) ⟨rfl,rfl,rfl,rfl,rfl,rfl,trivial⟩ (fun _ KK hC0=>?_) ?_
  ·
   dsimp only[Y1,Y2]at hC0;refine zq [3,4,0,9,6,8,2,5,18] ?_;refine AnyH.start ([]:Hp) 11 rfl ?_;refine zd [0,1,1,1,2,3] ?_;refine YB 3 4 ?_ ?_
   ·
    refine Yv rfl rfl (pv_load rfl rfl (nth_set (nth_lt hv))) ?_;refine YA 4 ?_;refine Yw rfl rfl (ef_allocK tyZ122 rfl) fun b3=>?_
    refine zd [5,3] ?_;refine YA 6 ?_;refine Yv rfl rfl (pv_loadK [_,_,_,_] rfl rfl rfl ⟨rfl,rfl,rfl,rfl,trivial⟩) ?_;refine YA 7 ?_;refine Yw rfl rfl (ef_buildSlice1 (k:=4) rfl rfl rfl rfl rfl) fun b4=>?_
    refine YA 8 ?_;refine Turn.ef rfl rfl (ef_append (H:=Hs) (xs:=[.int .i64 0,.int .i64 0,.int .i64 0,.int .u64 0]) rfl hs rfl ⟨rfl,rfl,rfl,rfl,trivial⟩ rfl rfl rfl (by omega) (by omega) rfl rfl) ?_ ?_ <;> rintro _ _ ⟨v1,H1,hs1,rfl,rfl⟩
    ·infer_instance
    refine AnyH.app ?_;have hs2:Slc 122 4 v1 (l.length+1) (cel (cE fsW) (l++[zEl fsW])) H1:=by rw[cel_app,cel_one1];exact hs1
    obtain ⟨eb,eo,cc,cap,rfl,rfl,hx,hset⟩:=slc_el (i:=l.length) (a:=zEl fsW) hs2 (by simp) (by decide);refine zd [9,3] ?_;refine YA 10 ?_;refine Yu rfl rfl (ef_store1 (hset:=setL_set2 (nth_lt hv)) rfl rfl rfl rfl) ?_;refine YD ?_;refine zq [49] ?_;refine Yy (hC0 (eb,eo,cc,cap) ⟨hx,hset⟩)
   refine Yw rfl rfl (ef_allocK tyZ122 rfl) fun b5=>?_
   refine zd [5,3] ?_;refine YB 3 6 ?_ ?_
   ·
    refine Yv rfl rfl (pv_load rfl rfl (nth_set (nth_lt hv))) ?_;refine YA 6 ?_;refine Yv rfl rfl (pv_loadK [_,_,_,_] rfl rfl rfl ⟨rfl,rfl,rfl,rfl,trivial⟩) ?_;refine YA 7 ?_;refine Yw rfl rfl (ef_buildSlice1 (k:=4) rfl rfl rfl rfl rfl) fun b6=>?_
    refine YA 8 ?_;refine Turn.ef rfl rfl (ef_append (H:=Hs) (xs:=[.int .i64 0,.int .i64 0,.int .i64 0,.int .u64 0]) rfl hs rfl ⟨rfl,rfl,rfl,rfl,trivial⟩ rfl rfl rfl (by omega) (by omega) rfl rfl) ?_ ?_ <;> rintro _ _ ⟨v2,H2,hs2,rfl,rfl⟩
    ·infer_instance
    refine AnyH.app ?_;have hs2:Slc 122 4 v2 (l.length+1) (cel (cE fsW) (l++[zEl fsW])) H2:=by rw[cel_app,cel_one1];exact hs2
    obtain ⟨eb,eo,cc,cap,rfl,rfl,hx,hset⟩:=slc_el (i:=l.length) (a:=zEl fsW) hs2 (by simp) (by decide);refine zd [9,3] ?_;refine YA 10 ?_;refine Yu rfl rfl (ef_store1 (hset:=setL_set2 (nth_lt hv)) rfl rfl rfl rfl) ?_;refine YD ?_;refine zq [49] ?_;refine Yy (hC0 (eb,eo,cc,cap) ⟨hx,hset⟩)
   refine Yv rfl rfl (pv_loadK [_,_,_,_] rfl rfl rfl ⟨rfl,rfl,rfl,rfl,trivial⟩) ?_;refine YB 3 7 ?_ ?_
   ·
    refine Yv rfl rfl (pv_load rfl rfl (nth_set (nth_lt hv))) ?_;refine YA 7 ?_;refine Yw rfl rfl (ef_buildSlice1 (k:=4) rfl rfl rfl rfl rfl) fun b7=>?_
    refine YA 8 ?_;refine Turn.ef rfl rfl (ef_append (H:=Hs) (xs:=[.int .i64 0,.int .i64 0,.int .i64 0,.int .u64 0]) rfl hs rfl ⟨rfl,rfl,rfl,rfl,trivial⟩ rfl rfl rfl (by omega) (by omega) rfl rfl) ?_ ?_ <;> rintro _ _ ⟨v3,H3,hs3,rfl,rfl⟩
    ·infer_instance
    refine AnyH.app ?_;have hs2:Slc 122 4 v3 (l.length+1) (cel (cE fsW) (l++[zEl fsW])) H3:=by rw[cel_app,cel_one1];exact hs3
    obtain ⟨eb,eo,cc,cap,rfl,rfl,hx,hset⟩:=slc_el (i:=l.length) (a:=zEl fsW) hs2 (by simp) (by decide);refine zd [9,3] ?_;refine YA 10 ?_;refine Yu rfl rfl (ef_store1 (hset:=setL_set2 (nth_lt hv)) rfl rfl rfl rfl) ?_;refine YD ?_;refine zq [49] ?_;refine Yy (hC0 (eb,eo,cc,cap) ⟨hx,hset⟩)
   refine Yw rfl rfl (ef_buildSlice1 (k:=4) rfl rfl rfl rfl rfl) fun b8=>?_
   refine YA 3 ?_;refine Yv rfl rfl (pv_load rfl rfl (nth_set (nth_lt hv))) ?_;refine YA 8 ?_;refine Turn.ef rfl rfl (ef_append (H:=Hs) (xs:=[.int .i64 0,.int .i64 0,.int .i64 0,.int .u64 0]) rfl hs rfl ⟨rfl,rfl,rfl,rfl,trivial⟩ rfl rfl rfl (by omega) (by omega) rfl rfl) ?_ ?_ <;> rintro _ _ ⟨v4,H4,hs4,rfl,rfl⟩
   ·infer_instance
   refine AnyH.app ?_;have hs2:Slc 122 4 v4 (l.length+1) (cel (cE fsW) (l++[zEl fsW])) H4:=by rw[cel_app,cel_one1];exact hs4
   obtain ⟨eb,eo,cc,cap,rfl,rfl,hx,hset⟩:=slc_el (i:=l.length) (a:=zEl fsW) hs2 (by simp) (by decide);refine zd [9,3] ?_;refine YA 10 ?_;refine Yu rfl rfl (ef_store1 (hset:=setL_set2 (nth_lt hv)) rfl rfl rfl rfl) ?_;refine YD ?_;refine zq [49] ?_;refine Yy (hC0 (eb,eo,cc,cap) ⟨hx,hset⟩)
  rintro ⟨eb,eo,cc,cap⟩ ⟨hx,hset⟩;dsimp only[Y1,Y2]at ⊢;dsimp only at hx hset ⊢;refine zq [4,0,0,9] ?_;refine Yp (pv_load rfl rfl (nth_set (nth_lt hv))) ?_;refine zq [0] ?_;refine Yi rfl rfl (l.length) rfl ?_;refine Ops.efx rfl (efx_callf rfl rfl (tr_elR6 cp k adr bv lf (by omega) h1b h1a eb (eo+l.length*4) cc 122 hx) rfl) ?_ ?_
  ·
   rintro _ _ ⟨_,⟨rfl,hno,rfl⟩,rfl⟩;exact ⟨[],⟨rfl,by unfold rdL;rw[if_neg (by omega),if_neg (by omega)];exact rdI_up (rdI_none hr hno) (by omega),rfl⟩,inferInstance⟩
  rintro _ _ ⟨_,_,⟨rfl,e9,lf2,he9,rfl⟩,rfl,rfl⟩;refine Ops.app ?_;refine zq [2,19,5,4] ?_;refine Ya rfl rfl (l.length+1) ?_;refine zq [0,2,49] ?_;refine Yy (hK (l.length+1,lf2,l++[mkEl fsW e9],.slice (some ⟨eb,eo,none⟩) (l.length+1) cap,[(eb,.cells (setAt cc (eo+l.length*4) (cE fsW (mkEl fsW e9))).toArray 122)]) ⟨by dsimp only;omega,rdI_some hr he9,by have:=(rdI_len (rdI_some hr he9)).2;rw[Y6]at this;dsimp only;omega,by have:=hset (mkEl fsW e9);rw[List.set_append_right _ _ (Nat.le_refl _),Nat.sub_self,List.set_cons_zero]at this;rw[Y3];exact this⟩ (by dsimp only;omega))
 obtain rfl:i=leV (left.take 2):=by omega
 refine zq [41,16,16,40] ?_;have hL:rdL fsW 8 left=some (l,lf):=by unfold rdL;rw[if_neg (by omega),if_neg (by omega)];exact hr
 exact Ends.finE (L' := (cp,.cells [kP k].toArray 101)::((k,.cells [.bool true,adr,bv,sV lf].toArray 107)::((d,.cells (dc.set o vs).toArray Td)::Hs))) (res0 rfl) ⟨rfl,l,lf,vs,Hs,hL,hs,rfl⟩
theorem tr_listR7(adr bv:Value)(left:List UInt8)(hl:left.length≤2^40)(h1b:bv.oneCell' = true)(h1a:adr.oneCell' = true)(d o:Nat)(dc:List Value)(Td:TypeId)(hv:nth dc o=some (.slice none 0 0)):TrE prog 139 [kP k,.pointer (some ⟨d,o,none⟩),.int .i64 16,.func (.func 140) #[] #[.pointer (some ⟨cp,0,none⟩)]] ((cp,.cells [kP k].toArray 101)::((k,.cells [.bool true,adr,bv,sV left].toArray 107)::[(d,.cells dc.toArray Td)])) (fun u L' => u=.tuple #[]∧∃(L:List (El fsS)) (left' : List UInt8) (v:Value) (H:Hp),rdL fsS 16 left=some (L,left')∧Slc 125 2 v L.length (cel (cE fsS) L) H∧L' = (cp,.cells [kP k].toArray 101)::((k,.cells [.bool true,adr,bv,sV left'].toArray 107)::((d,.cells (dc.set o v).toArray Td)::H))) (fun c L' => c=badC∧rdL fsS 16 left=none∧L' = []):=by
 refine YX func139 ntmps139 fun W F=>?_
 refine zq [3,4,0,9] ?_;refine Yp (pv_load rfl rfl hv) ?_;refine Yp (pv_len_slice (T:=42) rfl rfl) ?_;refine Yq (ef_alloc1 tyZ3 rfl rfl) fun b1=>?_
 refine zq [25,2,5,3,3,4,8,0] ?_;refine Yp ((pv_gtr rfl rfl).fls (by first | exact fun h=>h rfl | decide | omega | assumption)) ?_;refine zq [2,5,17,11,5,3,4,0] ?_;refine Yq (ef_buildSlice1 (k:=1) rfl rfl rfl rfl rfl) fun b2=>?_
 refine Ops.efx rfl (efx_call (tr_twoR k adr bv left hl h1b h1a b2 278 [.pointer (some ⟨b1,0,none⟩)] b1 0 [.int .i64 0] 3 [0] rfl (one_hcc rfl) (by intro y hy;simp only[List.mem_cons,List.not_mem_nil,or_false]at hy;unfold RgI;omega) (by simp) (by simp)) rfl rfl) ?_ ?_
 ·
  rintro _ _ ⟨_,⟨rfl,hno,rfl⟩,rfl⟩;exact ⟨[],⟨rfl,by have h3:left.length<2:=hno;unfold rdL;rw[if_pos h3],rfl⟩,inferInstance⟩
 rintro _ _ ⟨_,_,⟨rfl,hl2,rfl⟩,rfl,rfl⟩;refine Ops.app ?_;rw[show setAt [.int .i64 0] 0 (intC (rdTw ([0]:List Int).length left))=[.int .i64 ((leV (left.take 2):Nat):Int)] from rfl,show left.drop (2*([0]:List Int).length)=left.drop 2 from rfl];have hl3:2≤left.length:=hl2
 have hc2:=leV2 left
 refine zq [2,5,3,3,4,8,0,44,2,5] ?_;refine Yd rfl (fun h1=>?_) (fun h1=>?_)
 ·
  refine zq [4,23,74] ?_;exact Ops.panic rfl ⟨[],⟨rfl,by unfold rdL;rw[if_neg (by omega),if_pos (by omega)],rfl⟩,inferInstance⟩
 have hmost:leV (left.take 2)≤16:=by omega
 refine zq [11,5,3,3,4,0,9,6,8,2,5,18,4,0,9] ?_;refine Yo (ef_store1 (hset:=setL_set (nth_lt hv)) rfl rfl rfl rfl) ?_;refine zq [2,5,3,4,8,0,2,5,20] ?_;refine YM (σ:=Nat×List UInt8×List (El fsS)×Value×Hp) [(0,_),(1,_),(3,_),(33,_)] (fun s=>[(34,.int .i64 s.1)]) (fun s=>(cp,.cells [kP k].toArray 101)::((k,.cells [.bool true,adr,bv,sV s.2.1].toArray 107)::((d,.cells (dc.set o s.2.2.2.1).toArray Td)::(s.2.2.2.2++((b1,.cells [.int .i64 ((leV (left.take 2):Nat):Int)].toArray 3)::F))))) (fun s=>s.1≤leV (left.take 2)∧rdI fsS s.1 (left.drop 2)=some (s.2.2.1,s.2.1)∧s.2.1.length≤left.length∧Slc 125 2 s.2.2.2.1 s.2.2.1.length (cel (cE fsS) s.2.2.1) s.2.2.2.2) (fun s=>leV (left.take 2)-s.1) (0,left.drop 2,[],.slice none 0 0,[]) ⟨Nat.zero_le _,rfl,by dsimp only;rw[Y6];omega,Slc.nil 125 2⟩ ?_;rintro ⟨i,lf,l,vs,Hs⟩ KK ⟨hi,hr,hlf,hs⟩ hK;dsimp only[Y1,Y2]at hK ⊢;dsimp only at hi hr hlf hs ⊢;refine zq [3,4,42,2,5,3] ?_;refine Yd rfl (fun h2=>?_) (fun h2=>?_)
 ·
  obtain rfl:i=l.length:=(rdI_len hr).1.symm;refine zq [11,5,3,20,3,4,0,1,2,5] ?_;refine Wp.cutK (σ:=Nat×Nat×List Value×Nat) [(0,_),(1,_),(3,_),(9,_),(33,_),(34,_)] (fun s=>[]) (fun s=>(cp,.cells [kP k].toArray 101)::((k,.cells [.bool true,adr,bv,sV lf].toArray 107)::((d,.cells (dc.set o (.slice (some ⟨s.1,s.2.1,none⟩) (l.length+1) s.2.2.2)).toArray Td)::((s.1,.cells s.2.2.1.toArray 125)::((b1,.cells [.int .i64 ((leV (left.take 2):Nat):Int)].toArray 3)::F))))) (fun s=>Lies s.2.2.1 (s.2.1+l.length*2) (cE fsS (zEl fsS))∧∀q:El fsS,Slc 125 2 (.slice (some ⟨s.1,s.2.1,none⟩) (l.length+1) s.2.2.2) (l.length+1) (cel (cE fsS) ((l++[zEl fsS]).set l.length q)) [(s.1,.cells (setAt s.2.2.1 (s.2.1+l.length*2) (cE fsS q)).toArray 125)]) ⟨rfl,rfl,rfl,rfl,rfl,rfl,trivial⟩ (fun _ KK hC0=>?_) ?_
  ·
   dsimp only[Y1,Y2]at hC0;refine zq [3,4,0,9,6,8,2,5,18] ?_;refine AnyH.start ([]:Hp) 11 rfl ?_;refine zd [0,1,1,1,2,3] ?_;refine YB 3 4 ?_ ?_
   ·
    refine Yv rfl rfl (pv_load rfl rfl (nth_set (nth_lt hv))) ?_;refine YA 4 ?_;refine Yw rfl rfl (ef_allocK tyZ125 rfl) fun b3=>?_
    refine zd [5,3] ?_;refine YA 6 ?_;refine Yv rfl rfl (pv_loadK [_,_] rfl rfl rfl ⟨rfl,rfl,trivial⟩) ?_;refine YA 7 ?_;refine Yw rfl rfl (ef_buildSlice1 (k:=2) rfl rfl rfl rfl rfl) fun b4=>?_
    refine YA 8 ?_;refine Turn.ef rfl rfl (ef_append (H:=Hs) (xs:=[.int .i64 0,.int .i64 0]) rfl hs rfl ⟨rfl,rfl,trivial⟩ rfl rfl rfl (by omega) (by omega) rfl rfl) ?_ ?_ <;> rintro _ _ ⟨v1,H1,hs1,rfl,rfl⟩
    ·infer_instance
    refine AnyH.app ?_;have hs2:Slc 125 2 v1 (l.length+1) (cel (cE fsS) (l++[zEl fsS])) H1:=by rw[cel_app,cel_one1];exact hs1
    obtain ⟨eb,eo,cc,cap,rfl,rfl,hx,hset⟩:=slc_el (i:=l.length) (a:=zEl fsS) hs2 (by simp) (by decide);refine zd [9,3] ?_;refine YA 10 ?_;refine Yu rfl rfl (ef_store1 (hset:=setL_set2 (nth_lt hv)) rfl rfl rfl rfl) ?_;refine YD ?_;refine zq [49] ?_;refine Yy (hC0 (eb,eo,cc,cap) ⟨hx,hset⟩)
   refine Yw rfl rfl (ef_allocK tyZ125 rfl) fun b5=>?_
   refine zd [5,3] ?_;refine YB 3 6 ?_ ?_
   ·
    refine Yv rfl rfl (pv_load rfl rfl (nth_set (nth_lt hv))) ?_;refine YA 6 ?_;refine Yv rfl rfl (pv_loadK [_,_] rfl rfl rfl ⟨rfl,rfl,trivial⟩) ?_;refine YA 7 ?_;refine Yw rfl rfl (ef_buildSlice1 (k:=2) rfl rfl rfl rfl rfl) fun b6=>?_
    refine YA 8 ?_;refine Turn.ef rfl rfl (ef_append (H:=Hs) (xs:=[.int .i64 0,.int .i64 0]) rfl hs rfl ⟨rfl,rfl,trivial⟩ rfl rfl rfl (by omega) (by omega) rfl rfl) ?_ ?_ <;> rintro _ _ ⟨v2,H2,hs2,rfl,rfl⟩
    ·infer_instance
    refine AnyH.app ?_;have hs2:Slc 125 2 v2 (l.length+1) (cel (cE fsS) (l++[zEl fsS])) H2:=by rw[cel_app,cel_one1];exact hs2
    obtain ⟨eb,eo,cc,cap,rfl,rfl,hx,hset⟩:=slc_el (i:=l.length) (a:=zEl fsS) hs2 (by simp) (by decide);refine zd [9,3] ?_;refine YA 10 ?_;refine Yu rfl rfl (ef_store1 (hset:=setL_set2 (nth_lt hv)) rfl rfl rfl rfl) ?_;refine YD ?_;refine zq [49] ?_;refine Yy (hC0 (eb,eo,cc,cap) ⟨hx,hset⟩)
   refine Yv rfl rfl (pv_loadK [_,_] rfl rfl rfl ⟨rfl,rfl,trivial⟩) ?_;refine YB 3 7 ?_ ?_
   ·
    refine Yv rfl rfl (pv_load rfl rfl (nth_set (nth_lt hv))) ?_;refine YA 7 ?_;refine Yw rfl rfl (ef_buildSlice1 (k:=2) rfl rfl rfl rfl rfl) fun b7=>?_
    refine YA 8 ?_;refine Turn.ef rfl rfl (ef_append (H:=Hs) (xs:=[.int .i64 0,.int .i64 0]) rfl hs rfl ⟨rfl,rfl,trivial⟩ rfl rfl rfl (by omega) (by omega) rfl rfl) ?_ ?_ <;> rintro _ _ ⟨v3,H3,hs3,rfl,rfl⟩
    ·infer_instance
    refine AnyH.app ?_;have hs2:Slc 125 2 v3 (l.length+1) (cel (cE fsS) (l++[zEl fsS])) H3:=by rw[cel_app,cel_one1];exact hs3
    obtain ⟨eb,eo,cc,cap,rfl,rfl,hx,hset⟩:=slc_el (i:=l.length) (a:=zEl fsS) hs2 (by simp) (by decide);refine zd [9,3] ?_;refine YA 10 ?_;refine Yu rfl rfl (ef_store1 (hset:=setL_set2 (nth_lt hv)) rfl rfl rfl rfl) ?_;refine YD ?_;refine zq [49] ?_;refine Yy (hC0 (eb,eo,cc,cap) ⟨hx,hset⟩)
   refine Yw rfl rfl (ef_buildSlice1 (k:=2) rfl rfl rfl rfl rfl) fun b8=>?_
   refine YA 3 ?_;refine Yv rfl rfl (pv_load rfl rfl (nth_set (nth_lt hv))) ?_;refine YA 8 ?_;refine Turn.ef rfl rfl (ef_append (H:=Hs) (xs:=[.int .i64 0,.int .i64 0]) rfl hs rfl ⟨rfl,rfl,trivial⟩ rfl rfl rfl (by omega) (by omega) rfl rfl) ?_ ?_ <;> rintro _ _ ⟨v4,H4,hs4,rfl,rfl⟩
   ·infer_instance
   refine AnyH.app ?_;have hs2:Slc 125 2 v4 (l.length+1) (cel (cE fsS) (l++[zEl fsS])) H4:=by rw[cel_app,cel_one1];exact hs4
   obtain ⟨eb,eo,cc,cap,rfl,rfl,hx,hset⟩:=slc_el (i:=l.length) (a:=zEl fsS) hs2 (by simp) (by decide);refine zd [9,3] ?_;refine YA 10 ?_;refine Yu rfl rfl (ef_store1 (hset:=setL_set2 (nth_lt hv)) rfl rfl rfl rfl) ?_;refine YD ?_;refine zq [49] ?_;refine Yy (hC0 (eb,eo,cc,cap) ⟨hx,hset⟩)
  rintro ⟨eb,eo,cc,cap⟩ ⟨hx,hset⟩;dsimp only[Y1,Y2]at ⊢;dsimp only at hx hset ⊢;refine zq [4,0,0,9] ?_;refine Yp (pv_load rfl rfl (nth_set (nth_lt hv))) ?_;refine zq [0] ?_;refine Yi rfl rfl (l.length) rfl ?_;refine Ops.efx rfl (efx_callf rfl rfl (tr_elR7 cp k adr bv lf (by omega) h1b h1a eb (eo+l.length*2) cc 125 hx) rfl) ?_ ?_
  ·
   rintro _ _ ⟨_,⟨rfl,hno,rfl⟩,rfl⟩;exact ⟨[],⟨rfl,by unfold rdL;rw[if_neg (by omega),if_neg (by omega)];exact rdI_up (rdI_none hr hno) (by omega),rfl⟩,inferInstance⟩
  rintro _ _ ⟨_,_,⟨rfl,e9,lf2,he9,rfl⟩,rfl,rfl⟩;refine Ops.app ?_;refine zq [2,19,5,4] ?_;refine Ya rfl rfl (l.length+1) ?_;refine zq [0,2,49] ?_;refine Yy (hK (l.length+1,lf2,l++[mkEl fsS e9],.slice (some ⟨eb,eo,none⟩) (l.length+1) cap,[(eb,.cells (setAt cc (eo+l.length*2) (cE fsS (mkEl fsS e9))).toArray 125)]) ⟨by dsimp only;omega,rdI_some hr he9,by have:=(rdI_len (rdI_some hr he9)).2;rw[Y6]at this;dsimp only;omega,by have:=hset (mkEl fsS e9);rw[List.set_append_right _ _ (Nat.le_refl _),Nat.sub_self,List.set_cons_zero]at this;rw[Y3];exact this⟩ (by dsimp only;omega))
 obtain rfl:i=leV (left.take 2):=by omega
 refine zq [41,16,16,40] ?_;have hL:rdL fsS 16 left=some (l,lf):=by unfold rdL;rw[if_neg (by omega),if_neg (by omega)];exact hr
 exact Ends.finE (L' := (cp,.cells [kP k].toArray 101)::((k,.cells [.bool true,adr,bv,sV lf].toArray 107)::((d,.cells (dc.set o vs).toArray Td)::Hs))) (res0 rfl) ⟨rfl,l,lf,vs,Hs,hL,hs,rfl⟩
end
end
section
abbrev DSB (D:Dd) (v1 v2 v3 v4 v5 v6 v7:Value) (H1 H2 H3 H4 H5 H6 H7:Hp):Prop:=DS 116 65 69 119 67 122 125 D v1 v2 v3 v4 v5 v6 v7 H1 H2 H3 H4 H5 H6 H7
theorem tr_allW(k:Nat)(left:List UInt8)(bs:List UInt8)(pa:Option Addr)(ca:Nat)(Kb:Hp)(hb:Slc 5 1 (.slice pa bs.length ca) bs.length (bC bs) Kb)(hl:bs.length≤2^36)(d:Nat)(D:Dd)(v1 v2 v3 v4 v5 v6 v7:Value)(H1 H2 H3 H4 H5 H6 H7:Hp)(hs:DSB D v1 v2 v3 v4 v5 v6 v7 H1 H2 H3 H4 H5 H6 H7):TrE prog 75 [kP k,.pointer (some ⟨d,0,none⟩)] ((k,.cells [.bool false,.pointer (some ⟨k,1,none⟩),.slice pa bs.length ca,sV left].toArray 107)::(Kb++((d,.cells [v1,v2,v3,v4,v5,v6,v7].toArray 44)::(H1++(H2++(H3++(H4++(H5++(H6++H7))))))))) (fun u L' => u=.tuple #[]∧okD D∧∃pa' ca' Kb', Slc 5 1 (.slice pa' (bs++encD D).length ca') (bs++encD D).length (bC (bs++encD D)) Kb' ∧ L' = (k,.cells [.bool false,.pointer (some ⟨k,1,none⟩),.slice pa' (bs++encD D).length ca', sV left].toArray 107)::(Kb' ++ ((d,.cells [v1,v2,v3,v4,v5,v6,v7].toArray 44)::(H1++(H2++(H3++(H4++(H5++(H6++H7))))))))) (fun c L' => c=badC∧¬okD D∧L' = []):=by
 refine YX func75 ntmps75 fun W F=>?_
 refine Wr ?_;refine Yq (ef_box1 rfl rfl rfl) fun b1=>?_
 refine zq [2,5,3] ?_;refine AnyH.start ([(b1,.cells [kP k].toArray 101)]:Hp) 6 rfl ?_;refine zd [0,2,1,1,2,3,3,0] ?_;refine Yh 4 rfl (pv_makeFunc rfl rfl) ?_;refine YA 5 ?_;refine Turn.efx rfl rfl (efx_call (tr_listW1 b1 k left bs pa ca Kb hb (by (try simp only[Y3]);omega) d 0 [v1,v2,v3,v4,v5,v6,v7] 44 v1 rfl D.o H1 hs.o) rfl rfl) ?_ ?_ ?_
 ·
  rintro _ _ ⟨_,⟨rfl,hno,rfl⟩,rfl⟩;exact ⟨[],⟨rfl,fun ho=>hno ho.1,rfl⟩,inferInstance⟩
 ·
  rintro _ _ ⟨_,_,⟨rfl,hok1,pa1,ca1,Kb1,hs1,rfl⟩,rfl,rfl⟩;infer_instance
 rintro _ _ ⟨_,_,⟨rfl,hok1,pa1,ca1,Kb1,hs1,rfl⟩,rfl,rfl⟩;refine AnyH.app ?_;have hw1:=encL_le hok1 (by decide)
 refine YD ?_;refine zq [5,3] ?_;refine AnyH.start ([(b1,.cells [kP k].toArray 101)]:Hp) 6 rfl ?_;refine zd [0,2,1,1,2,3,3,0] ?_;refine Yh 4 rfl (pv_makeFunc rfl rfl) ?_;refine YA 5 ?_;refine Turn.efx rfl rfl (efx_call (tr_listW2 b1 k left (bs++encL fsO D.o) pa1 ca1 Kb1 hs1 (by (try simp only[Y3]);omega) d 1 [v1,v2,v3,v4,v5,v6,v7] 44 v2 rfl D.p H2 hs.p) rfl rfl) ?_ ?_ ?_
 ·
  rintro _ _ ⟨_,⟨rfl,hno,rfl⟩,rfl⟩;exact ⟨[],⟨rfl,fun ho=>hno ho.2.1,rfl⟩,inferInstance⟩
 ·
  rintro _ _ ⟨_,_,⟨rfl,hok2,pa2,ca2,Kb2,hs2,rfl⟩,rfl,rfl⟩;infer_instance
 rintro _ _ ⟨_,_,⟨rfl,hok2,pa2,ca2,Kb2,hs2,rfl⟩,rfl,rfl⟩;refine AnyH.app ?_;have hw2:=encL_le hok2 (by decide)
 refine YD ?_;refine zq [5,3] ?_;refine AnyH.start ([(b1,.cells [kP k].toArray 101)]:Hp) 6 rfl ?_;refine zd [0,2,1,1,2,3,3,0] ?_;refine Yh 4 rfl (pv_makeFunc rfl rfl) ?_;refine YA 5 ?_;refine Turn.efx rfl rfl (efx_call (tr_listW3 b1 k left ((bs++encL fsO D.o)++encL fsP D.p) pa2 ca2 Kb2 hs2 (by (try simp only[Y3]);omega) d 2 [v1,v2,v3,v4,v5,v6,v7] 44 v3 rfl D.m H3 hs.m) rfl rfl) ?_ ?_ ?_
 ·
  rintro _ _ ⟨_,⟨rfl,hno,rfl⟩,rfl⟩;exact ⟨[],⟨rfl,fun ho=>hno ho.2.2.1,rfl⟩,inferInstance⟩
 ·
  rintro _ _ ⟨_,_,⟨rfl,hok3,pa3,ca3,Kb3,hs3,rfl⟩,rfl,rfl⟩;infer_instance
 rintro _ _ ⟨_,_,⟨rfl,hok3,pa3,ca3,Kb3,hs3,rfl⟩,rfl,rfl⟩;refine AnyH.app ?_;have hw3:=encL_le hok3 (by decide)
 refine YD ?_;refine zq [5,3] ?_;refine AnyH.start ([(b1,.cells [kP k].toArray 101)]:Hp) 6 rfl ?_;refine zd [0,2,1,1,2,3,3,0] ?_;refine Yh 4 rfl (pv_makeFunc rfl rfl) ?_;refine YA 5 ?_;refine Turn.efx rfl rfl (efx_call (tr_listW4 b1 k left (((bs++encL fsO D.o)++encL fsP D.p)++encL fsM D.m) pa3 ca3 Kb3 hs3 (by (try simp only[Y3]);omega) d 3 [v1,v2,v3,v4,v5,v6,v7] 44 v4 rfl D.f H4 hs.f) rfl rfl) ?_ ?_ ?_
 ·
  rintro _ _ ⟨_,⟨rfl,hno,rfl⟩,rfl⟩;exact ⟨[],⟨rfl,fun ho=>hno ho.2.2.2.1,rfl⟩,inferInstance⟩
 ·
  rintro _ _ ⟨_,_,⟨rfl,hok4,pa4,ca4,Kb4,hs4,rfl⟩,rfl,rfl⟩;infer_instance
 rintro _ _ ⟨_,_,⟨rfl,hok4,pa4,ca4,Kb4,hs4,rfl⟩,rfl,rfl⟩;refine AnyH.app ?_;have hw4:=encL_le hok4 (by decide)
 refine YD ?_;refine zq [5,3] ?_;refine AnyH.start ([(b1,.cells [kP k].toArray 101)]:Hp) 6 rfl ?_;refine zd [0,2,1,1,2,3,3,0] ?_;refine Yh 4 rfl (pv_makeFunc rfl rfl) ?_;refine YA 5 ?_;refine Turn.efx rfl rfl (efx_call (tr_listW5 b1 k left ((((bs++encL fsO D.o)++encL fsP D.p)++encL fsM D.m)++encL fsF D.f) pa4 ca4 Kb4 hs4 (by (try simp only[Y3]);omega) d 4 [v1,v2,v3,v4,v5,v6,v7] 44 v5 rfl D.t H5 hs.t) rfl rfl) ?_ ?_ ?_
 ·
  rintro _ _ ⟨_,⟨rfl,hno,rfl⟩,rfl⟩;exact ⟨[],⟨rfl,fun ho=>hno ho.2.2.2.2.1,rfl⟩,inferInstance⟩
 ·
  rintro _ _ ⟨_,_,⟨rfl,hok5,pa5,ca5,Kb5,hs5,rfl⟩,rfl,rfl⟩;infer_instance
 rintro _ _ ⟨_,_,⟨rfl,hok5,pa5,ca5,Kb5,hs5,rfl⟩,rfl,rfl⟩;refine AnyH.app ?_;have hw5:=encL_le hok5 (by decide)
 refine YD ?_;refine zq [5,3] ?_;refine AnyH.start ([(b1,.cells [kP k].toArray 101)]:Hp) 6 rfl ?_;refine zd [0,2,1,1,2,3,3,0] ?_;refine Yh 4 rfl (pv_makeFunc rfl rfl) ?_;refine YA 5 ?_;refine Turn.efx rfl rfl (efx_call (tr_listW6 b1 k left (((((bs++encL fsO D.o)++encL fsP D.p)++encL fsM D.m)++encL fsF D.f)++encL fsT D.t) pa5 ca5 Kb5 hs5 (by (try simp only[Y3]);omega) d 5 [v1,v2,v3,v4,v5,v6,v7] 44 v6 rfl D.w H6 hs.w) rfl rfl) ?_ ?_ ?_
 ·
  rintro _ _ ⟨_,⟨rfl,hno,rfl⟩,rfl⟩;exact ⟨[],⟨rfl,fun ho=>hno ho.2.2.2.2.2.1,rfl⟩,inferInstance⟩
 ·
  rintro _ _ ⟨_,_,⟨rfl,hok6,pa6,ca6,Kb6,hs6,rfl⟩,rfl,rfl⟩;infer_instance
 rintro _ _ ⟨_,_,⟨rfl,hok6,pa6,ca6,Kb6,hs6,rfl⟩,rfl,rfl⟩;refine AnyH.app ?_;have hw6:=encL_le hok6 (by decide)
 refine YD ?_;refine Ends.seq ?_;refine AnyH.start ([(b1,.cells [kP k].toArray 101)]:Hp) 6 rfl ?_;refine zd [0,2,1,1,2,3,3,0] ?_;refine Yh 4 rfl (pv_makeFunc rfl rfl) ?_;refine YA 5 ?_;refine Turn.efx rfl rfl (efx_call (tr_listW7 b1 k left ((((((bs++encL fsO D.o)++encL fsP D.p)++encL fsM D.m)++encL fsF D.f)++encL fsT D.t)++encL fsW D.w) pa6 ca6 Kb6 hs6 (by (try simp only[Y3]);omega) d 6 [v1,v2,v3,v4,v5,v6,v7] 44 v7 rfl D.s H7 hs.s) rfl rfl) ?_ ?_ ?_
 ·
  rintro _ _ ⟨_,⟨rfl,hno,rfl⟩,rfl⟩;exact ⟨[],⟨rfl,fun ho=>hno ho.2.2.2.2.2.2,rfl⟩,inferInstance⟩
 ·
  rintro _ _ ⟨_,_,⟨rfl,hok7,pa7,ca7,Kb7,hs7,rfl⟩,rfl,rfl⟩;infer_instance
 rintro _ _ ⟨_,_,⟨rfl,hok7,pa7,ca7,Kb7,hs7,rfl⟩,rfl,rfl⟩;refine AnyH.app ?_;have hw7:=encL_le hok7 (by decide)
 refine YD ?_;have hbe:bs++encD D=((((((bs++encL fsO D.o)++encL fsP D.p)++encL fsM D.m)++encL fsF D.f)++encL fsT D.t)++encL fsW D.w)++encL fsS D.s:=by simp only[encD,Y7]
 rw[hbe];exact Ends.finE (L' := (k,.cells [.bool false,.pointer (some ⟨k,1,none⟩),.slice pa7 (((((((bs++encL fsO D.o)++encL fsP D.p)++encL fsM D.m)++encL fsF D.f)++encL fsT D.t)++encL fsW D.w)++encL fsS D.s).length ca7,sV left].toArray 107)::(Kb7++((d,.cells [v1,v2,v3,v4,v5,v6,v7].toArray 44)::(H1++(H2++(H3++(H4++(H5++(H6++H7))))))))) (res0 rfl) ⟨rfl,⟨hok1,hok2,hok3,hok4,hok5,hok6,hok7⟩,pa7,ca7,Kb7,hs7,rfl⟩
theorem tr_allR(k:Nat)(adr bv:Value)(left:List UInt8)(hl:left.length≤2^40)(h1b:bv.oneCell' = true)(h1a:adr.oneCell' = true)(d:Nat):TrE prog 75 [kP k,.pointer (some ⟨d,0,none⟩)] ((k,.cells [.bool true,adr,bv,sV left].toArray 107)::[(d,.cells [.slice none 0 0,.slice none 0 0,.slice none 0 0,.slice none 0 0,.slice none 0 0,.slice none 0 0,.slice none 0 0].toArray 44)]) (fun u L' => u=.tuple #[]∧∃(D:Dd) (left' : List UInt8) (v1 v2 v3 v4 v5 v6 v7:Value) (H1 H2 H3 H4 H5 H6 H7:Hp),rdD left=some (D,left')∧DSB D v1 v2 v3 v4 v5 v6 v7 H1 H2 H3 H4 H5 H6 H7∧L' = (k,.cells [.bool true,adr,bv,sV left'].toArray 107)::((d,.cells [v1,v2,v3,v4,v5,v6,v7].toArray 44)::(H1++(H2++(H3++(H4++(H5++(H6++H7)))))))) (fun c L' => c=badC∧rdD left=none∧L' = []):=by
 refine YX func75 ntmps75 fun W F=>?_
 refine Wr ?_;refine Yq (ef_box1 rfl rfl rfl) fun b1=>?_
 refine zq [2,5,3] ?_;refine AnyH.start ([(b1,.cells [kP k].toArray 101)]:Hp) 6 rfl ?_;refine zd [0,2,1,1,2,3,3,0] ?_;refine Yh 4 rfl (pv_makeFunc rfl rfl) ?_;refine YA 5 ?_;refine Turn.efx rfl rfl (efx_call (tr_listR1 b1 k adr bv left (by omega) h1b h1a d 0 [.slice none 0 0,.slice none 0 0,.slice none 0 0,.slice none 0 0,.slice none 0 0,.slice none 0 0,.slice none 0 0] 44 rfl) rfl rfl) ?_ ?_ ?_
 ·
  rintro _ _ ⟨_,⟨rfl,hno,rfl⟩,rfl⟩;exact ⟨[],⟨rfl,(by unfold rdD;rw[hno]),rfl⟩,inferInstance⟩
 ·
  rintro _ _ ⟨_,_,⟨rfl,L1,l1,v1,H1,hr1,hs1,rfl⟩,rfl,rfl⟩;infer_instance
 rintro _ _ ⟨_,_,⟨rfl,L1,l1,v1,H1,hr1,hs1,rfl⟩,rfl,rfl⟩;refine AnyH.app ?_;have hl1:=(rdL_len hr1).2
 rw[show List.set [.slice none 0 0,.slice none 0 0,.slice none 0 0,.slice none 0 0,.slice none 0 0,.slice none 0 0,.slice none 0 0] 0 v1=[v1,.slice none 0 0,.slice none 0 0,.slice none 0 0,.slice none 0 0,.slice none 0 0,.slice none 0 0] from rfl];refine YD ?_;refine zq [5,3] ?_;refine AnyH.start ([(b1,.cells [kP k].toArray 101)]:Hp) 6 rfl ?_;refine zd [0,2,1,1,2,3,3,0] ?_;refine Yh 4 rfl (pv_makeFunc rfl rfl) ?_;refine YA 5 ?_;refine Turn.efx rfl rfl (efx_call (tr_listR2 b1 k adr bv l1 (by omega) h1b h1a d 1 [v1,.slice none 0 0,.slice none 0 0,.slice none 0 0,.slice none 0 0,.slice none 0 0,.slice none 0 0] 44 rfl) rfl rfl) ?_ ?_ ?_
 ·
  rintro _ _ ⟨_,⟨rfl,hno,rfl⟩,rfl⟩;exact ⟨[],⟨rfl,(by unfold rdD;rw[hr1];dsimp only;rw[hno]),rfl⟩,inferInstance⟩
 ·
  rintro _ _ ⟨_,_,⟨rfl,L2,l2,v2,H2,hr2,hs2,rfl⟩,rfl,rfl⟩;infer_instance
 rintro _ _ ⟨_,_,⟨rfl,L2,l2,v2,H2,hr2,hs2,rfl⟩,rfl,rfl⟩;refine AnyH.app ?_;have hl2:=(rdL_len hr2).2
 rw[show List.set [v1,.slice none 0 0,.slice none 0 0,.slice none 0 0,.slice none 0 0,.slice none 0 0,.slice none 0 0] 1 v2=[v1,v2,.slice none 0 0,.slice none 0 0,.slice none 0 0,.slice none 0 0,.slice none 0 0] from rfl];refine YD ?_;refine zq [5,3] ?_;refine AnyH.start ([(b1,.cells [kP k].toArray 101)]:Hp) 6 rfl ?_;refine zd [0,2,1,1,2,3,3,0] ?_;refine Yh 4 rfl (pv_makeFunc rfl rfl) ?_;refine YA 5 ?_;refine Turn.efx rfl rfl (efx_call (tr_listR3 b1 k adr bv l2 (by omega) h1b h1a d 2 [v1,v2,.slice none 0 0,.slice none 0 0,.slice none 0 0,.slice none 0 0,.slice none 0 0] 44 rfl) rfl rfl) ?_ ?_ ?_
 ·
  rintro _ _ ⟨_,⟨rfl,hno,rfl⟩,rfl⟩;exact ⟨[],⟨rfl,(by unfold rdD;rw[hr1];dsimp only;rw[hr2];dsimp only;rw[hno]),rfl⟩,inferInstance⟩
 ·
  rintro _ _ ⟨_,_,⟨rfl,L3,l3,v3,H3,hr3,hs3,rfl⟩,rfl,rfl⟩;infer_instance
 rintro _ _ ⟨_,_,⟨rfl,L3,l3,v3,H3,hr3,hs3,rfl⟩,rfl,rfl⟩;refine AnyH.app ?_;have hl3:=(rdL_len hr3).2
 rw[show List.set [v1,v2,.slice none 0 0,.slice none 0 0,.slice none 0 0,.slice none 0 0,.slice none 0 0] 2 v3=[v1,v2,v3,.slice none 0 0,.slice none 0 0,.slice none 0 0,.slice none 0 0] from rfl];refine YD ?_;refine zq [5,3] ?_;refine AnyH.start ([(b1,.cells [kP k].toArray 101)]:Hp) 6 rfl ?_;refine zd [0,2,1,1,2,3,3,0] ?_;refine Yh 4 rfl (pv_makeFunc rfl rfl) ?_;refine YA 5 ?_;refine Turn.efx rfl rfl (efx_call (tr_listR4 b1 k adr bv l3 (by omega) h1b h1a d 3 [v1,v2,v3,.slice none 0 0,.slice none 0 0,.slice none 0 0,.slice none 0 0] 44 rfl) rfl rfl) ?_ ?_ ?_
 ·
  rintro _ _ ⟨_,⟨rfl,hno,rfl⟩,rfl⟩;exact ⟨[],⟨rfl,(by unfold rdD;rw[hr1];dsimp only;rw[hr2];dsimp only;rw[hr3];dsimp only;rw[hno]),rfl⟩,inferInstance⟩
 ·
  rintro _ _ ⟨_,_,⟨rfl,L4,l4,v4,H4,hr4,hs4,rfl⟩,rfl,rfl⟩;infer_instance
 rintro _ _ ⟨_,_,⟨rfl,L4,l4,v4,H4,hr4,hs4,rfl⟩,rfl,rfl⟩;refine AnyH.app ?_;have hl4:=(rdL_len hr4).2
 rw[show List.set [v1,v2,v3,.slice none 0 0,.slice none 0 0,.slice none 0 0,.slice none 0 0] 3 v4=[v1,v2,v3,v4,.slice none 0 0,.slice none 0 0,.slice none 0 0] from rfl];refine YD ?_;refine zq [5,3] ?_;refine AnyH.start ([(b1,.cells [kP k].toArray 101)]:Hp) 6 rfl ?_;refine zd [0,2,1,1,2,3,3,0] ?_;refine Yh 4 rfl (pv_makeFunc rfl rfl) ?_;refine YA 5 ?_;refine Turn.efx rfl rfl (efx_call (tr_listR5 b1 k adr bv l4 (by omega) h1b h1a d 4 [v1,v2,v3,v4,.slice none 0 0,.slice none 0 0,.slice none 0 0] 44 rfl) rfl rfl) ?_ ?_ ?_
 ·
  rintro _ _ ⟨_,⟨rfl,hno,rfl⟩,rfl⟩;exact ⟨[],⟨rfl,(by unfold rdD;rw[hr1];dsimp only;rw[hr2];dsimp only;rw[hr3];dsimp only;rw[hr4];dsimp only;rw[hno]),rfl⟩,inferInstance⟩
 ·
  rintro _ _ ⟨_,_,⟨rfl,L5,l5,v5,H5,hr5,hs5,rfl⟩,rfl,rfl⟩;infer_instance
 rintro _ _ ⟨_,_,⟨rfl,L5,l5,v5,H5,hr5,hs5,rfl⟩,rfl,rfl⟩;refine AnyH.app ?_;have hl5:=(rdL_len hr5).2
 rw[show List.set [v1,v2,v3,v4,.slice none 0 0,.slice none 0 0,.slice none 0 0] 4 v5=[v1,v2,v3,v4,v5,.slice none 0 0,.slice none 0 0] from rfl];refine YD ?_;refine zq [5,3] ?_;refine AnyH.start ([(b1,.cells [kP k].toArray 101)]:Hp) 6 rfl ?_;refine zd [0,2,1,1,2,3,3,0] ?_;refine Yh 4 rfl (pv_makeFunc rfl rfl) ?_;refine YA 5 ?_;refine Turn.efx rfl rfl (efx_call (tr_listR6 b1 k adr bv l5 (by omega) h1b h1a d 5 [v1,v2,v3,v4,v5,.slice none 0 0,.slice none 0 0] 44 rfl) rfl rfl) ?_ ?_ ?_
 ·
  rintro _ _ ⟨_,⟨rfl,hno,rfl⟩,rfl⟩;exact ⟨[],⟨rfl,(by unfold rdD;rw[hr1];dsimp only;rw[hr2];dsimp only;rw[hr3];dsimp only;rw[hr4];dsimp only;rw[hr5];dsimp only;rw[hno]),rfl⟩,inferInstance⟩
 ·
  rintro _ _ ⟨_,_,⟨rfl,L6,l6,v6,H6,hr6,hs6,rfl⟩,rfl,rfl⟩;infer_instance
 rintro _ _ ⟨_,_,⟨rfl,L6,l6,v6,H6,hr6,hs6,rfl⟩,rfl,rfl⟩;refine AnyH.app ?_;have hl6:=(rdL_len hr6).2
 rw[show List.set [v1,v2,v3,v4,v5,.slice none 0 0,.slice none 0 0] 5 v6=[v1,v2,v3,v4,v5,v6,.slice none 0 0] from rfl];refine YD ?_;refine Ends.seq ?_;refine AnyH.start ([(b1,.cells [kP k].toArray 101)]:Hp) 6 rfl ?_;refine zd [0,2,1,1,2,3,3,0] ?_;refine Yh 4 rfl (pv_makeFunc rfl rfl) ?_;refine YA 5 ?_;refine Turn.efx rfl rfl (efx_call (tr_listR7 b1 k adr bv l6 (by omega) h1b h1a d 6 [v1,v2,v3,v4,v5,v6,.slice none 0 0] 44 rfl) rfl rfl) ?_ ?_ ?_
 ·
  rintro _ _ ⟨_,⟨rfl,hno,rfl⟩,rfl⟩;exact ⟨[],⟨rfl,(by unfold rdD;rw[hr1];dsimp only;rw[hr2];dsimp only;rw[hr3];dsimp only;rw[hr4];dsimp only;rw[hr5];dsimp only;rw[hr6];dsimp only;rw[hno]),rfl⟩,inferInstance⟩
 ·
  rintro _ _ ⟨_,_,⟨rfl,L7,l7,v7,H7,hr7,hs7,rfl⟩,rfl,rfl⟩;infer_instance
 rintro _ _ ⟨_,_,⟨rfl,L7,l7,v7,H7,hr7,hs7,rfl⟩,rfl,rfl⟩;refine AnyH.app ?_;have hl7:=(rdL_len hr7).2
 rw[show List.set [v1,v2,v3,v4,v5,v6,.slice none 0 0] 6 v7=[v1,v2,v3,v4,v5,v6,v7] from rfl];refine YD ?_;have hD:rdD left=some (⟨L1,L2,L3,L4,L5,L6,L7⟩,l7):=by unfold rdD;rw[hr1];dsimp only;rw[hr2];dsimp only;rw[hr3];dsimp only;rw[hr4];dsimp only;rw[hr5];dsimp only;rw[hr6];dsimp only;rw[hr7]
 exact Ends.finE (L' := (k,.cells [.bool true,adr,bv,sV l7].toArray 107)::((d,.cells [v1,v2,v3,v4,v5,v6,v7].toArray 44)::(H1++(H2++(H3++(H4++(H5++(H6++H7)))))))) (res0 rfl) ⟨rfl,_,l7,v1,v2,v3,v4,v5,v6,v7,H1,H2,H3,H4,H5,H6,H7,hD,⟨hs1,hs2,hs3,hs4,hs5,hs6,hs7⟩,rfl⟩
end
section
abbrev bdV:Value:=.iface 200 (.agg #[])
abbrev blkO (b:Nat) (x:Value):Hp:=[(b,.cells [x].toArray 4)]
theorem bcatch_rest{W:World}{L:Hp}{b:Nat}{x:Value}{c0:Frame}{cs:List Frame}{u:FrameMode}(R:Ending→FrameMode→World→Prop)(hR:∀w,Own W w (blkO b (.bool false)++L)→R (.returned (.tuple #[])) u w)(c1 c2:Code)(hb:f74.body=some (c1.seq c2)) :
    Wp prog W (fun e a w=>bodyPostS prog f74 c0 cs R e a ({ c0 with mode:=u }::cs) w) 10 [] c2 ((4,bdV)::argsEnv 0 [.pointer (some ⟨b,0,none⟩)]) (blkO b x++L):=by
  cases hb;refine Wp.block ?_;refine Wp.seq ?_;refine Wp.region ?_;refine Yp (pv_eql_iface rfl rfl) ?_;refine Ops.nil ?_;refine Ends.seq ?_;refine Wp.cond_false rfl ?_;refine Wp.seq ?_;refine Wp.region ?_;refine Yp (pv_tassert rfl rfl) ?_;refine Yp (pv_extract rfl rfl) ?_;refine Yp (pv_extract rfl rfl) ?_;refine Ops.nil ?_;refine Ends.seq ?_;refine Wp.cond_true rfl ?_;refine Wp.seq ?_;refine Wp.region ?_;refine Yq (ef_allocK tyZ200 rfl) fun b1=>?_
  refine Yo (ef_storeK rfl rfl rfl rfl) ?_;refine Ops.nil ?_;refine Ends.seq ?_;refine Wp.region ?_;refine Yo (ef_store1 rfl rfl rfl rfl) ?_;refine Ops.nil ?_;refine Ends.block_normal ?_;exact Ends.finS rfl fun w ho=>hR w (Drop.own ho)
theorem bcatch_idle{W:World}{L:Hp}{c0:Frame}{cs:List Frame}{u:FrameMode}{p:Value}(R:Ending→FrameMode→World→Prop)(hR:∀w,Own W w L→R (.returned (.tuple #[])) u w)(c1 c2:Code)(hb:f74.body=some (c1.seq c2)) :
    Wp prog W (fun e a w=>bodyPostS prog f74 c0 cs R e a ({ c0 with mode:=u }::cs) w) 10 [] c2 ((4,.nilIface)::argsEnv 0 [p]) L:=by
  cases hb;refine Wp.block ?_;refine Wp.seq ?_;refine Wp.region ?_;refine Yp (pv_eql_nilif rfl rfl) ?_;refine Ops.nil ?_;refine Ends.seq ?_;refine Wp.cond_true rfl ?_;refine Wp.region ?_;refine Yp (pv_assign rfl) ?_;refine Ops.nil ?_;refine Ends.block_normal ?_;exact Ends.finS rfl fun w ho=>hR w ho
theorem wp_of{P:Program}{W:World}{Q:Exit→Act→World→Prop}{n:Nat}{D:List Deferred}{c:Code}{E:Env}{L:Hp}{a:Act}{w:World}(h:Wp P W Q n D c E L)(hs:Sees n D E a)(ho:Own W w L):c.wp P Q a w:=by
 unfold Wp at h;exact h a w hs ho
theorem bcatch_p{W w:World}{L:Hp}{b:Nat}{x:Value}(ho:Own W w (blkO b x++L)):CallsD prog 74 [Value.pointer (some ⟨b,0,none⟩)].toArray (.panicking badC) w (fun e u' w' => e=.returned (.tuple #[])∧settle u' = .returning∧Own W w' (blkO b (.bool false)++L)):=by
 refine callsD_of_wpS func74 rfl fun c0 cs hu=>?_
 refine wpS_recover hu (wpS_of_wp ?_);exact wp_of (bcatch_rest _ (fun w hw=>⟨rfl,rfl,hw⟩) _ _ rfl) ((sees_start rfl).put rfl) ho
theorem bcatch_i{W w:World}{L:Hp}{p:Value}(ho:Own W w L):CallsD prog 74 [p].toArray .returning w (fun e u' w' => e=.returned (.tuple #[])∧settle u' = .returning∧Own W w' L):=by
 refine callsD_of_wpS func74 rfl fun c0 cs hu=>?_
 refine wpS_recover0 hu (wpS_of_wp ?_);cases c0;cases hu;exact wp_of (bcatch_idle (u:=.returning) (p:=p) _ (fun w hw=>⟨rfl,rfl,hw⟩) _ _ rfl) ((sees_start rfl).put rfl) ho
theorem tr_brun(k:Nat)(dp:Value)(L:Hp)(R:List UInt8→Hp→Prop)(X:Hp→Prop)(ht:TrE prog 75 [kP k,dp] L (fun u L' => u=.tuple #[]∧∃left,R left L') (fun c L' => c=badC∧X L'))
    (hR:∀left L', R left L' → ∃(rd:Value) (adr buf:Value) (M:Hp),L' = (k,.cells [rd,adr,buf,sV left].toArray 107)::M) :
    Tr prog 30 [kP k,dp] L (fun u L' => (∃left,R left L' ∧ u=.bool (decide (left=[])))∨(u=.bool false∧X L')):=by
  refine Tr.enterD func30 rfl ntmps30 rfl (fun W F=>?_);refine Wp.app ?_;refine Wp.seq ?_;refine Wp.region ?_;refine Yq (ef_alloc1 tyZ4 rfl rfl) fun b1=>?_
  refine Ops.nil ?_;refine Ends.seq ?_;refine Wp.seq ?_;refine Wp.region ?_;refine Yp (pv_makeFunc rfl rfl) ?_;refine Ops.defer rfl ?_;refine Ops.nil ?_;refine Ends.seq ?_;refine Wp.seq ?_;refine Wp.region ?_;refine Yp (pv_move rfl) ?_;refine Yp (pv_move rfl) ?_;refine Ops.efxq rfl (efx_call ht rfl rfl) ?_ ?_
  · rintro _ a w _ hs ⟨L1,⟨rfl,hX⟩,rfl⟩ ho
    exact leaves_one (L' := L1) hs (by simp) (bcatch_p (b:=b1) (L:=L1++F) (x:=.bool false) (Drop.own ho:Own W w ((b1,.cells [.bool false].toArray 4)::(L1++F)))) (res_one rfl (rv_cell rfl rfl rfl)) (.inr ⟨rfl,hX⟩)
  rintro _ _ ⟨_,L1,⟨rfl,left,h1⟩,rfl,rfl⟩;obtain ⟨rd,adr,buf,M,rfl⟩:=hR left L1 h1;refine Ops.nil ?_;refine Ends.seq ?_;refine Wp.seq ?_;refine Wp.region ?_;refine Yp (pv_move rfl) ?_;refine Yp (pv_nilCheck rfl) ?_;refine Yp (pv_fieldAddr rfl rfl) ?_;refine Yp (pv_load rfl rfl rfl) ?_;refine Yp (pv_str_eql (a:=left) (b:=[]) rfl rfl) ?_;refine Yo (ef_store1 rfl rfl rfl rfl) ?_;refine Ops.nil ?_;refine Ends.seq ?_;refine Wp.ret ?_;refine Ends.retD fun a w hs ho=>?_
  exact leaves_one (L' := (k,.cells [rd,adr,buf,sV left].toArray 107)::M) hs (by simp) (bcatch_i ho) (res_one rfl (rv_cell rfl rfl rfl)) (.inl ⟨left,h1,rfl⟩)
end
section
open Classical in
theorem tr_runW(k:Nat)(bs:List UInt8)(pa:Option Addr)(ca:Nat)(Kb:Hp)(hb:Slc 5 1 (.slice pa bs.length ca) bs.length (bC bs) Kb)(hl:bs.length≤2^36)(d:Nat)(D:Dd)(v1 v2 v3 v4 v5 v6 v7:Value)(H1 H2 H3 H4 H5 H6 H7:Hp)(hs:DSB D v1 v2 v3 v4 v5 v6 v7 H1 H2 H3 H4 H5 H6 H7) :
    Tr prog 30 [kP k,.pointer (some ⟨d,0,none⟩)] ((k,.cells [.bool false,.pointer (some ⟨k,1,none⟩),.slice pa bs.length ca,sV []].toArray 107)::(Kb++((d,.cells [v1,v2,v3,v4,v5,v6,v7].toArray 44)::(H1++(H2++(H3++(H4++(H5++(H6++H7))))))))) (fun u L' => u=.bool (decide (okD D))∧(okD D→∃pa' ca' Kb', Slc 5 1 (.slice pa' (bs++encD D).length ca') (bs++encD D).length (bC (bs++encD D)) Kb' ∧ L' = (k,.cells [.bool false,.pointer (some ⟨k,1,none⟩),.slice pa' (bs++encD D).length ca', sV []].toArray 107)::(Kb' ++ ((d,.cells [v1,v2,v3,v4,v5,v6,v7].toArray 44)::(H1++(H2++(H3++(H4++(H5++(H6++H7)))))))))∧(¬okD D→L' = [])):=by
  refine (tr_brun k (.pointer (some ⟨d,0,none⟩)) _ (fun l L' => l=[]∧okD D∧∃pa' ca' Kb', Slc 5 1 (.slice pa' (bs++encD D).length ca') (bs++encD D).length (bC (bs++encD D)) Kb' ∧ L' = (k,.cells [.bool false,.pointer (some ⟨k,1,none⟩),.slice pa' (bs++encD D).length ca', sV []].toArray 107)::(Kb' ++ ((d,.cells [v1,v2,v3,v4,v5,v6,v7].toArray 44)::(H1++(H2++(H3++(H4++(H5++(H6++H7))))))))) (fun L' => ¬okD D∧L' = []) ((tr_allW k [] bs pa ca Kb hb hl d D v1 v2 v3 v4 v5 v6 v7 H1 H2 H3 H4 H5 H6 H7 hs).mono (fun u L' h=>⟨h.1,[],rfl,h.2⟩) (fun c L' h=>h)) ?_).mono ?_
  · rintro l L' ⟨rfl,_,pa', ca', Kb', _,rfl⟩
    exact ⟨_,_,_,_,rfl⟩
  · rintro u L' (⟨l,⟨rfl,hok,h⟩,rfl⟩ | ⟨rfl,hno,h⟩)
    · exact ⟨by simp[hok],fun _=>h,fun hno=>absurd hok hno⟩
    · exact ⟨by simp[hno],fun hok=>absurd hok hno,fun _=>h⟩
def readsD (s:List UInt8):Prop:=∃D,rdD s=some (D,[])
open Classical in
theorem tr_runR(k:Nat)(adr bv:Value)(left:List UInt8)(hl:left.length≤2^40)(h1b:bv.oneCell' = true)(h1a:adr.oneCell' = true)(d:Nat) :
    Tr prog 30 [kP k,.pointer (some ⟨d,0,none⟩)] ((k,.cells [.bool true,adr,bv,sV left].toArray 107)::[(d,.cells [.slice none 0 0,.slice none 0 0,.slice none 0 0,.slice none 0 0,.slice none 0 0,.slice none 0 0,.slice none 0 0].toArray 44)]) (fun u L' => u=.bool (decide (readsD left))∧(readsD left→∃(D:Dd) (v1 v2 v3 v4 v5 v6 v7:Value) (H1 H2 H3 H4 H5 H6 H7:Hp),rdD left=some (D,[])∧DSB D v1 v2 v3 v4 v5 v6 v7 H1 H2 H3 H4 H5 H6 H7∧L' = (k,.cells [.bool true,adr,bv,sV []].toArray 107)::((d,.cells [v1,v2,v3,v4,v5,v6,v7].toArray 44)::(H1++(H2++(H3++(H4++(H5++(H6++H7))))))))):=by
  refine (tr_brun k (.pointer (some ⟨d,0,none⟩)) _ (fun l L' => ∃(D:Dd) (v1 v2 v3 v4 v5 v6 v7:Value) (H1 H2 H3 H4 H5 H6 H7:Hp),rdD left=some (D,l)∧DSB D v1 v2 v3 v4 v5 v6 v7 H1 H2 H3 H4 H5 H6 H7∧L' = (k,.cells [.bool true,adr,bv,sV l].toArray 107)::((d,.cells [v1,v2,v3,v4,v5,v6,v7].toArray 44)::(H1++(H2++(H3++(H4++(H5++(H6++H7)))))))) (fun L' => rdD left=none∧L' = []) ((tr_allR k adr bv left hl h1b h1a d).mono (fun u L' h=>by
    obtain ⟨rfl,D,l,v1,v2,v3,v4,v5,v6,v7,H1,H2,H3,H4,H5,H6,H7,h1,h2,rfl⟩:=h;exact ⟨rfl,l,D,v1,v2,v3,v4,v5,v6,v7,H1,H2,H3,H4,H5,H6,H7,h1,h2,rfl⟩) (fun c L' h=>h)) ?_).mono ?_
  · rintro l L' ⟨D,v1,v2,v3,v4,v5,v6,v7,H1,H2,H3,H4,H5,H6,H7,_,_,rfl⟩
    exact ⟨_,_,_,_,rfl⟩
  · rintro u L' (⟨l,⟨D,v1,v2,v3,v4,v5,v6,v7,H1,H2,H3,H4,H5,H6,H7,h1,h2,rfl⟩,rfl⟩ | ⟨rfl,hno,h⟩)
    · by_cases hl:l=[]
      · subst hl
        have hr:readsD left:=⟨D,h1⟩
        exact ⟨by simp[hr],fun _=>⟨D,v1,v2,v3,v4,v5,v6,v7,H1,H2,H3,H4,H5,H6,H7,h1,h2,rfl⟩⟩
      · have hr:¬readsD left:=by
          rintro ⟨D2,h3⟩;rw[h1]at h3;cases h3;exact hl rfl
        exact ⟨by simp[hr,hl],fun h=>absurd h hr⟩
    · have hr:¬readsD left:=by
        rintro ⟨D2,h3⟩;rw[hno]at h3;cases h3
      exact ⟨by simp[hr],fun h=>absurd h hr⟩
section
variable(G:Hp)(a:Option Addr)(c:Nat)
include G a c
theorem tr_clone1(l:List (El fsO))(hv:View G 3 (.slice a l.length c) l.length (cel (cE fsO) l))(hl:l.length≤2^20):Tr prog 67 [.slice a l.length c] (G) (fun v L' => ∃a' c' H,v=.slice a' l.length c' ∧ Slc 116 3 v l.length (cel (cE fsO) l) H∧L' = H++G):=by
 refine YR func67 ntmps67 fun W F=>?_
 refine zq [3,4,1,2,5,3,3,4,0] ?_;refine Yp (pv_eql_slcnil rfl rfl) ?_;refine On ?_;refine Wp.cond_t rfl (fun h1=>?_) (fun h1=>?_)
 ·
  obtain rfl:=Option.isNone_iff_eq_none.1 h1;obtain ⟨e0,e1⟩:=view_nil' hv;refine zq [3,4,1,2,5,10,12] ?_;exact zs (L' := G) (h:=⟨none,0,[],by rw[e0],by rw[e0,e1];exact Slc.nil _ _,rfl⟩)
 refine zq [11,5,3,4] ?_;refine Yq (ef_buildSlice0 rfl) fun b1=>?_
 refine zq [0] ?_;refine Ops.ef rfl (ef_appendV (H:=[(b1,.cells ([]:List Value).toArray 116)]) rfl (slc_empty' 116 3 b1) rfl (hv.mono (by intro p hp;simp[hp])) (cel_one l) (by omega) (by omega) rfl rfl) ?_;rintro _ _ ⟨v1,H1,hs1,rfl,rfl⟩;refine Ops.app ?_
 skip
 refine zq [1,2,5,10] ?_;rw[Nat.zero_add,Y2]at hs1;obtain ⟨a9,c9,rfl⟩:=hs1.form;exact zs (L' := H1++G) (h:=⟨a9,c9,H1,rfl,hs1,rfl⟩)
theorem tr_clone2(l:List (El fsP))(hv:View G 8 (.slice a l.length c) l.length (cel (cE fsP) l))(hl:l.length≤2^20):Tr prog 68 [.slice a l.length c] (G) (fun v L' => ∃a' c' H,v=.slice a' l.length c' ∧ Slc 65 8 v l.length (cel (cE fsP) l) H∧L' = H++G):=by
 refine YR func68 ntmps68 fun W F=>?_
 refine zq [3,4,1,2,5,3,3,4,0] ?_;refine Yp (pv_eql_slcnil rfl rfl) ?_;refine On ?_;refine Wp.cond_t rfl (fun h1=>?_) (fun h1=>?_)
 ·
  obtain rfl:=Option.isNone_iff_eq_none.1 h1;obtain ⟨e0,e1⟩:=view_nil' hv;refine zq [3,4,1,2,5,10,12] ?_;exact zs (L' := G) (h:=⟨none,0,[],by rw[e0],by rw[e0,e1];exact Slc.nil _ _,rfl⟩)
 refine zq [11,5,3,4] ?_;refine Yq (ef_buildSlice0 rfl) fun b1=>?_
 refine zq [0] ?_;refine Ops.ef rfl (ef_appendV (H:=[(b1,.cells ([]:List Value).toArray 65)]) rfl (slc_empty' 65 8 b1) rfl (hv.mono (by intro p hp;simp[hp])) (cel_one l) (by omega) (by omega) rfl rfl) ?_;rintro _ _ ⟨v1,H1,hs1,rfl,rfl⟩;refine Ops.app ?_
 skip
 refine zq [1,2,5,10] ?_;rw[Nat.zero_add,Y2]at hs1;obtain ⟨a9,c9,rfl⟩:=hs1.form;exact zs (L' := H1++G) (h:=⟨a9,c9,H1,rfl,hs1,rfl⟩)
theorem tr_clone3(l:List (El fsM))(hv:View G 4 (.slice a l.length c) l.length (cel (cE fsM) l))(hl:l.length≤2^20):Tr prog 69 [.slice a l.length c] (G) (fun v L' => ∃a' c' H,v=.slice a' l.length c' ∧ Slc 69 4 v l.length (cel (cE fsM) l) H∧L' = H++G):=by
 refine YR func69 ntmps69 fun W F=>?_
 refine zq [3,4,1,2,5,3,3,4,0] ?_;refine Yp (pv_eql_slcnil rfl rfl) ?_;refine On ?_;refine Wp.cond_t rfl (fun h1=>?_) (fun h1=>?_)
 ·
  obtain rfl:=Option.isNone_iff_eq_none.1 h1;obtain ⟨e0,e1⟩:=view_nil' hv;refine zq [3,4,1,2,5,10,12] ?_;exact zs (L' := G) (h:=⟨none,0,[],by rw[e0],by rw[e0,e1];exact Slc.nil _ _,rfl⟩)
 refine zq [11,5,3,4] ?_;refine Yq (ef_buildSlice0 rfl) fun b1=>?_
 refine zq [0] ?_;refine Ops.ef rfl (ef_appendV (H:=[(b1,.cells ([]:List Value).toArray 69)]) rfl (slc_empty' 69 4 b1) rfl (hv.mono (by intro p hp;simp[hp])) (cel_one l) (by omega) (by omega) rfl rfl) ?_;rintro _ _ ⟨v1,H1,hs1,rfl,rfl⟩;refine Ops.app ?_
 skip
 refine zq [1,2,5,10] ?_;rw[Nat.zero_add,Y2]at hs1;obtain ⟨a9,c9,rfl⟩:=hs1.form;exact zs (L' := H1++G) (h:=⟨a9,c9,H1,rfl,hs1,rfl⟩)
theorem tr_clone4(l:List (El fsF))(hv:View G 3 (.slice a l.length c) l.length (cel (cE fsF) l))(hl:l.length≤2^20):Tr prog 70 [.slice a l.length c] (G) (fun v L' => ∃a' c' H,v=.slice a' l.length c' ∧ Slc 119 3 v l.length (cel (cE fsF) l) H∧L' = H++G):=by
 refine YR func70 ntmps70 fun W F=>?_
 refine zq [3,4,1,2,5,3,3,4,0] ?_;refine Yp (pv_eql_slcnil rfl rfl) ?_;refine On ?_;refine Wp.cond_t rfl (fun h1=>?_) (fun h1=>?_)
 ·
  obtain rfl:=Option.isNone_iff_eq_none.1 h1;obtain ⟨e0,e1⟩:=view_nil' hv;refine zq [3,4,1,2,5,10,12] ?_;exact zs (L' := G) (h:=⟨none,0,[],by rw[e0],by rw[e0,e1];exact Slc.nil _ _,rfl⟩)
 refine zq [11,5,3,4] ?_;refine Yq (ef_buildSlice0 rfl) fun b1=>?_
 refine zq [0] ?_;refine Ops.ef rfl (ef_appendV (H:=[(b1,.cells ([]:List Value).toArray 119)]) rfl (slc_empty' 119 3 b1) rfl (hv.mono (by intro p hp;simp[hp])) (cel_one l) (by omega) (by omega) rfl rfl) ?_;rintro _ _ ⟨v1,H1,hs1,rfl,rfl⟩;refine Ops.app ?_
 skip
 refine zq [1,2,5,10] ?_;rw[Nat.zero_add,Y2]at hs1;obtain ⟨a9,c9,rfl⟩:=hs1.form;exact zs (L' := H1++G) (h:=⟨a9,c9,H1,rfl,hs1,rfl⟩)
theorem tr_clone5(l:List (El fsT))(hv:View G 8 (.slice a l.length c) l.length (cel (cE fsT) l))(hl:l.length≤2^20):Tr prog 71 [.slice a l.length c] (G) (fun v L' => ∃a' c' H,v=.slice a' l.length c' ∧ Slc 67 8 v l.length (cel (cE fsT) l) H∧L' = H++G):=by
 refine YR func71 ntmps71 fun W F=>?_
 refine zq [3,4,1,2,5,3,3,4,0] ?_;refine Yp (pv_eql_slcnil rfl rfl) ?_;refine On ?_;refine Wp.cond_t rfl (fun h1=>?_) (fun h1=>?_)
 ·
  obtain rfl:=Option.isNone_iff_eq_none.1 h1;obtain ⟨e0,e1⟩:=view_nil' hv;refine zq [3,4,1,2,5,10,12] ?_;exact zs (L' := G) (h:=⟨none,0,[],by rw[e0],by rw[e0,e1];exact Slc.nil _ _,rfl⟩)
 refine zq [11,5,3,4] ?_;refine Yq (ef_buildSlice0 rfl) fun b1=>?_
 refine zq [0] ?_;refine Ops.ef rfl (ef_appendV (H:=[(b1,.cells ([]:List Value).toArray 67)]) rfl (slc_empty' 67 8 b1) rfl (hv.mono (by intro p hp;simp[hp])) (cel_one l) (by omega) (by omega) rfl rfl) ?_;rintro _ _ ⟨v1,H1,hs1,rfl,rfl⟩;refine Ops.app ?_
 skip
 refine zq [1,2,5,10] ?_;rw[Nat.zero_add,Y2]at hs1;obtain ⟨a9,c9,rfl⟩:=hs1.form;exact zs (L' := H1++G) (h:=⟨a9,c9,H1,rfl,hs1,rfl⟩)
theorem tr_clone6(l:List (El fsW))(hv:View G 4 (.slice a l.length c) l.length (cel (cE fsW) l))(hl:l.length≤2^20):Tr prog 72 [.slice a l.length c] (G) (fun v L' => ∃a' c' H,v=.slice a' l.length c' ∧ Slc 122 4 v l.length (cel (cE fsW) l) H∧L' = H++G):=by
 refine YR func72 ntmps72 fun W F=>?_
 refine zq [3,4,1,2,5,3,3,4,0] ?_;refine Yp (pv_eql_slcnil rfl rfl) ?_;refine On ?_;refine Wp.cond_t rfl (fun h1=>?_) (fun h1=>?_)
 ·
  obtain rfl:=Option.isNone_iff_eq_none.1 h1;obtain ⟨e0,e1⟩:=view_nil' hv;refine zq [3,4,1,2,5,10,12] ?_;exact zs (L' := G) (h:=⟨none,0,[],by rw[e0],by rw[e0,e1];exact Slc.nil _ _,rfl⟩)
 refine zq [11,5,3,4] ?_;refine Yq (ef_buildSlice0 rfl) fun b1=>?_
 refine zq [0] ?_;refine Ops.ef rfl (ef_appendV (H:=[(b1,.cells ([]:List Value).toArray 122)]) rfl (slc_empty' 122 4 b1) rfl (hv.mono (by intro p hp;simp[hp])) (cel_one l) (by omega) (by omega) rfl rfl) ?_;rintro _ _ ⟨v1,H1,hs1,rfl,rfl⟩;refine Ops.app ?_
 skip
 refine zq [1,2,5,10] ?_;rw[Nat.zero_add,Y2]at hs1;obtain ⟨a9,c9,rfl⟩:=hs1.form;exact zs (L' := H1++G) (h:=⟨a9,c9,H1,rfl,hs1,rfl⟩)
theorem tr_clone7(l:List (El fsS))(hv:View G 2 (.slice a l.length c) l.length (cel (cE fsS) l))(hl:l.length≤2^20):Tr prog 73 [.slice a l.length c] (G) (fun v L' => ∃a' c' H,v=.slice a' l.length c' ∧ Slc 125 2 v l.length (cel (cE fsS) l) H∧L' = H++G):=by
 refine YR func73 ntmps73 fun W F=>?_
 refine zq [3,4,1,2,5,3,3,4,0] ?_;refine Yp (pv_eql_slcnil rfl rfl) ?_;refine On ?_;refine Wp.cond_t rfl (fun h1=>?_) (fun h1=>?_)
 ·
  obtain rfl:=Option.isNone_iff_eq_none.1 h1;obtain ⟨e0,e1⟩:=view_nil' hv;refine zq [3,4,1,2,5,10,12] ?_;exact zs (L' := G) (h:=⟨none,0,[],by rw[e0],by rw[e0,e1];exact Slc.nil _ _,rfl⟩)
 refine zq [11,5,3,4] ?_;refine Yq (ef_buildSlice0 rfl) fun b1=>?_
 refine zq [0] ?_;refine Ops.ef rfl (ef_appendV (H:=[(b1,.cells ([]:List Value).toArray 125)]) rfl (slc_empty' 125 2 b1) rfl (hv.mono (by intro p hp;simp[hp])) (cel_one l) (by omega) (by omega) rfl rfl) ?_;rintro _ _ ⟨v1,H1,hs1,rfl,rfl⟩;refine Ops.app ?_
 skip
 refine zq [1,2,5,10] ?_;rw[Nat.zero_add,Y2]at hs1;obtain ⟨a9,c9,rfl⟩:=hs1.form;exact zs (L' := H1++G) (h:=⟨a9,c9,H1,rfl,hs1,rfl⟩)
end
theorem tr_own(D:Dd)(v1 v2 v3 v4 v5 v6 v7:Value)(H1 H2 H3 H4 H5 H6 H7:Hp)(hs:DSB D v1 v2 v3 v4 v5 v6 v7 H1 H2 H3 H4 H5 H6 H7)(hlo:D.o.length≤2^20)(hlp:D.p.length≤2^20)(hlm:D.m.length≤2^20)(hlf:D.f.length≤2^20)(hlt:D.t.length≤2^20)(hlw:D.w.length≤2^20)(hls:D.s.length≤2^20):Tr prog 29 [.agg #[v1,v2,v3,v4,v5,v6,v7]] (H1++(H2++(H3++(H4++(H5++(H6++H7)))))) (fun u L' => ∃(w1 w2 w3 w4 w5 w6 w7:Value) (K1 K2 K3 K4 K5 K6 K7:Hp),DSB D w1 w2 w3 w4 w5 w6 w7 K1 K2 K3 K4 K5 K6 K7∧u=.agg #[w1,w2,w3,w4,w5,w6,w7]∧L' = (K1++(K2++(K3++(K4++(K5++(K6++K7))))))++(H1++(H2++(H3++(H4++(H5++(H6++H7))))))):=by
 obtain ⟨a1,c1,rfl⟩:=hs.o.form;obtain ⟨a2,c2,rfl⟩:=hs.p.form;obtain ⟨a3,c3,rfl⟩:=hs.m.form;obtain ⟨a4,c4,rfl⟩:=hs.f.form;obtain ⟨a5,c5,rfl⟩:=hs.t.form;obtain ⟨a6,c6,rfl⟩:=hs.w.form;obtain ⟨a7,c7,rfl⟩:=hs.s.form;refine YR func29 ntmps29 fun W F=>?_
 refine Wr ?_;refine zB fun b1=>?_
 refine zA fun b2=>?_
 refine zq [2,5,3] ?_;refine AnyH.start ([(b1,.cells [.slice a1 D.o.length c1,.slice a2 D.p.length c2,.slice a3 D.m.length c3,.slice a4 D.f.length c4,.slice a5 D.t.length c5,.slice a6 D.w.length c6,.slice a7 D.s.length c7].toArray 44)]:Hp) 23 rfl ?_;refine zd [0,0,1,2,3,0,4,2,6,0,7,2,9,0,10,2,12,0,13,2,15,0,16,2,18,0,19,2] ?_;refine YA 2 ?_;refine Turn.ef rfl rfl (ef_call (tr_clone1 H1 a1 c1 D.o hs.o.view hlo) rfl rfl) ?_ ?_ <;> rintro _ _ ⟨_,_,⟨a19,c19,K1,rfl,hk1,rfl⟩,rfl,rfl⟩
 ·infer_instance
 refine AnyH.app ?_
 skip
 refine YA 5 ?_;refine Turn.ef rfl rfl (ef_call (tr_clone2 H2 a2 c2 D.p hs.p.view hlp) rfl rfl) ?_ ?_ <;> rintro _ _ ⟨_,_,⟨a29,c29,K2,rfl,hk2,rfl⟩,rfl,rfl⟩
 ·infer_instance
 refine AnyH.app ?_
 skip
 refine YA 8 ?_;refine Turn.ef rfl rfl (ef_call (tr_clone3 H3 a3 c3 D.m hs.m.view hlm) rfl rfl) ?_ ?_ <;> rintro _ _ ⟨_,_,⟨a39,c39,K3,rfl,hk3,rfl⟩,rfl,rfl⟩
 ·infer_instance
 refine AnyH.app ?_
 skip
 refine YA 11 ?_;refine Turn.ef rfl rfl (ef_call (tr_clone4 H4 a4 c4 D.f hs.f.view hlf) rfl rfl) ?_ ?_ <;> rintro _ _ ⟨_,_,⟨a49,c49,K4,rfl,hk4,rfl⟩,rfl,rfl⟩
 ·infer_instance
 refine AnyH.app ?_
 skip
 refine YA 14 ?_;refine Turn.ef rfl rfl (ef_call (tr_clone5 H5 a5 c5 D.t hs.t.view hlt) rfl rfl) ?_ ?_ <;> rintro _ _ ⟨_,_,⟨a59,c59,K5,rfl,hk5,rfl⟩,rfl,rfl⟩
 ·infer_instance
 refine AnyH.app ?_
 skip
 refine YA 17 ?_;refine Turn.ef rfl rfl (ef_call (tr_clone6 H6 a6 c6 D.w hs.w.view hlw) rfl rfl) ?_ ?_ <;> rintro _ _ ⟨_,_,⟨a69,c69,K6,rfl,hk6,rfl⟩,rfl,rfl⟩
 ·infer_instance
 refine AnyH.app ?_
 skip
 refine YA 20 ?_;refine Turn.ef rfl rfl (ef_call (tr_clone7 H7 a7 c7 D.s hs.s.view hls) rfl rfl) ?_ ?_ <;> rintro _ _ ⟨_,_,⟨a79,c79,K7,rfl,hk7,rfl⟩,rfl,rfl⟩
 ·infer_instance
 refine AnyH.app ?_
 skip
 refine zd [21,9] ?_;refine zK 22 ?_;refine YD ?_;refine zq [5,10] ?_;exact Ends.ret (L' := (K1++(K2++(K3++(K4++(K5++(K6++K7))))))++(H1++(H2++(H3++(H4++(H5++(H6++H7))))))) (res_one rfl (rv_cellK [_,_,_,_,_,_,_] rfl rfl rfl ⟨rfl,rfl,rfl,rfl,rfl,rfl,rfl,trivial⟩)) ⟨_,_,_,_,_,_,_,K1,K2,K3,K4,K5,K6,K7,⟨hk1,hk2,hk3,hk4,hk5,hk6,hk7⟩,rfl,rfl⟩
end
section
theorem encD_le{D:Dd}(h:okD D):(encD D).length≤30000:=by
 obtain ⟨h1,h2,h3,h4,h5,h6,h7⟩:=h;have e1:=encL_le h1 (by decide)
 have e2:=encL_le h2 (by decide)
 have e3:=encL_le h3 (by decide)
 have e4:=encL_le h4 (by decide)
 have e5:=encL_le h5 (by decide)
 have e6:=encL_le h6 (by decide)
 have e7:=encL_le h7 (by decide)
 simp only[encD,Y3];omega
open Classical in
noncomputable def encV (D:Dd):List UInt8×Int:=if okD D then ([67,68]++encD D,0) else ([],1)
theorem tr_encode(D:Dd)(v1 v2 v3 v4 v5 v6 v7:Value)(H1 H2 H3 H4 H5 H6 H7:Hp)(hs:DSB D v1 v2 v3 v4 v5 v6 v7 H1 H2 H3 H4 H5 H6 H7)(hlo:D.o.length≤2^20)(hlp:D.p.length≤2^20)(hlm:D.m.length≤2^20)(hlf:D.f.length≤2^20)(hlt:D.t.length≤2^20)(hlw:D.w.length≤2^20)(hls:D.s.length≤2^20):Tr prog 10 [.agg #[v1,v2,v3,v4,v5,v6,v7]] (H1++(H2++(H3++(H4++(H5++(H6++H7)))))) (fun u L' => u=.tuple #[sV (encV D).1,.int .i64 (encV D).2]∧L' = H1++(H2++(H3++(H4++(H5++(H6++H7)))))):=by
 obtain ⟨a1,c1,rfl⟩:=hs.o.form;obtain ⟨a2,c2,rfl⟩:=hs.p.form;obtain ⟨a3,c3,rfl⟩:=hs.m.form;obtain ⟨a4,c4,rfl⟩:=hs.f.form;obtain ⟨a5,c5,rfl⟩:=hs.t.form;obtain ⟨a6,c6,rfl⟩:=hs.w.form;obtain ⟨a7,c7,rfl⟩:=hs.s.form;refine YR func10 ntmps10 fun W F=>?_
 refine Wr ?_;refine zB fun b1=>?_
 refine zq [1,1,2,5,3,4,23] ?_;refine zB fun b2=>?_
 rw[show Value.string ByteArray.empty=sV [] from rfl];refine zq [1,2,5,3,4,0,9,6] ?_;refine zD (tr_wstr b2 [] [67,68] (by simp) (by simp)) ?_;rintro _ _ ⟨rfl,pa1,ca1,Kb1,hb1,rfl⟩;refine Ops.app ?_;refine zq [2,5,3,4,36] ?_;refine zD (tr_own D _ _ _ _ _ _ _ H1 H2 H3 H4 H5 H6 H7 hs hlo hlp hlm hlf hlt hlw hls) ?_;rintro _ _ ⟨w1,w2,w3,w4,w5,w6,w7,K1,K2,K3,K4,K5,K6,K7,hs2,rfl,rfl⟩;refine Ops.app ?_;obtain ⟨x1,y1,rfl⟩:=hs2.o.form;obtain ⟨x2,y2,rfl⟩:=hs2.p.form;obtain ⟨x3,y3,rfl⟩:=hs2.m.form;obtain ⟨x4,y4,rfl⟩:=hs2.f.form;obtain ⟨x5,y5,rfl⟩:=hs2.t.form;obtain ⟨x6,y6,rfl⟩:=hs2.w.form;obtain ⟨x7,y7,rfl⟩:=hs2.s.form;refine zq [14,2,5,3,3,4,0] ?_;refine Ops.ef rfl (ef_call (tr_runW b2 [67,68] pa1 ca1 Kb1 hb1 (by simp) b1 D _ _ _ _ _ _ _ K1 K2 K3 K4 K5 K6 K7 hs2) rfl rfl) ?_;rintro _ _ ⟨_,M1,⟨rfl,hy,hn⟩,rfl,rfl⟩;refine Ops.app ?_
 skip
 refine zq [39,2,5] ?_;refine Wp.cond_t rfl (fun h1=>?_) (fun h1=>?_)
 ·
  have hno:¬okD D:=by simpa using h1
  obtain rfl:=hn hno;refine zq [3,4,1,1,2,5,10,12] ?_;rw[encV,if_neg hno];exact zr (L' := H1++(H2++(H3++(H4++(H5++(H6++H7)))))) ⟨rfl,rfl⟩
 have hok:okD D:=by simpa using h1
 have hel:=encD_le hok
 obtain ⟨pa3,ca3,Kb3,hb3,rfl⟩:=hy hok;refine Wp.app ?_;refine zq [11,5,3,4,0,9,6] ?_;refine zD (tr_bstr b2 [] ([67,68]++encD D) pa3 ca3 Kb3 hb3 (by simp only[Y3,Y4,Y5];omega) (by simp)) ?_;rintro _ _ ⟨rfl,rfl⟩;refine Ops.app ?_;refine zq [1,1,2,5,10] ?_;rw[encV,if_pos hok];exact zr (L' := H1++(H2++(H3++(H4++(H5++(H6++H7)))))) ⟨rfl,rfl⟩
theorem tr_has(s p:List UInt8)(hs:s.length≤2^40)(hp:p.length≤2^40):TrR prog 141 [sV s,sV p] ([]) (.bool (decide ((p.length:Int)≤(s.length:Int)∧s.take p.length=p))):=by
 refine YR func141 ntmps141 fun W F=>?_
 refine zq [3,4,1,2,5,3,4,0] ?_;refine Yp (pv_str_len (T:=9) rfl rfl) ?_;refine zq [0] ?_;refine Yp (pv_str_len (T:=9) rfl rfl) ?_;refine zq [43,0] ?_;refine Yc rfl rfl (fun hg=>pv_move rfl) ?_;refine Yc rfl rfl (fun hg=>Ys 11 rfl hg (pv_move rfl)) ?_;refine Yc rfl rfl (fun hg=>Ys 11 rfl hg (Ys 12 rfl hg (pv_str_len (T:=9) rfl rfl))) ?_;refine Yc rfl rfl (fun hg=>Ys 11 rfl hg (Ys 12 rfl hg (Ys 13 rfl hg (pv_str_upto (i:=p.length) rfl rfl (by omega))))) ?_;refine Yc rfl rfl (fun hg=>Ys 11 rfl hg (Ys 12 rfl hg (Ys 13 rfl hg (Ys 14 rfl hg (pv_move rfl))))) ?_;refine Yc rfl rfl (fun hg=>Ys 11 rfl hg (Ys 12 rfl hg (Ys 13 rfl hg (Ys 14 rfl hg (Ys 15 rfl hg (pv_str_eql rfl rfl)))))) ?_;refine zq [46,1,2,5,10] ?_;exact zr ⟨rfl,rfl⟩
section
variable(p l:List UInt8)(hs:l.length≤2^39)(hp:p.length≤2^39)
include p l hs hp
theorem tr_cutY1:TrR prog 76 [sV (p++l),sV p] ([]) (.tuple #[sV l,.bool true]):=by
 have hy:(p.length:Int)≤((p++l).length:Int)∧(p++l).take p.length=p:=⟨by simp only[Y3];omega,List.take_left' rfl⟩
 refine YR func76 ntmps76 fun W F=>?_
 refine zq [3,4,1,1,2,5,3,3,4,0,0] ?_;refine zC (tr_has (p++l) p (by simp only[Y3];omega) (by omega)) ?_;refine zq [55,2,5] ?_;refine Yd rfl (fun h1=>absurd hy (by assumption)) (fun h1=>?_);refine zq [11,5,3,4,0,0] ?_;refine Yp (pv_str_len (T:=9) rfl rfl) ?_;refine Yp (pv_str_from (i:=p.length) rfl rfl (by simp only[Y3];omega)) ?_;refine zq [1,1,2,5,10] ?_;have hd:(p++l).drop p.length=l:=List.drop_left' rfl
 rw[hd];exact zr ⟨rfl,rfl⟩
theorem tr_cutY:TrR prog 32 [sV (p++l),sV p] ([]) (.tuple #[sV l,.bool true]):=by
 refine YR func32 ntmps32 fun W F=>?_
 refine zq [3,4,1,1,2,5,3,4,0,0] ?_;refine zC (tr_cutY1 p l hs hp) ?_;refine zq [7,7,1,1,2,5,10] ?_;exact zr ⟨rfl,rfl⟩
end
def noD:Dd:=⟨[],[],[],[],[],[],[]⟩
theorem noD_DS:DSB noD (.slice none 0 0) (.slice none 0 0) (.slice none 0 0) (.slice none 0 0) (.slice none 0 0) (.slice none 0 0) (.slice none 0 0) [] [] [] [] [] [] []:=⟨Slc.nil _ _,Slc.nil _ _,Slc.nil _ _,Slc.nil _ _,Slc.nil _ _,Slc.nil _ _,Slc.nil _ _⟩
def DecP (s:List UInt8) (D:Dd) (e:Int):Prop:=(s.take 2=[67,68]∧rdD (s.drop 2)=some (D,[])∧e=0)∨(¬(s.take 2=[67,68]∧readsD (s.drop 2))∧D=noD∧e=10)
theorem tr_decY(s:List UInt8)(hs:s.length≤2^30)(hp:s.take 2=[67,68]):Tr prog 12 [sV s] ([]) (fun u L' => ∃(D:Dd) (e:Int) (v1 v2 v3 v4 v5 v6 v7:Value) (H1 H2 H3 H4 H5 H6 H7:Hp),DecP s D e∧DSB D v1 v2 v3 v4 v5 v6 v7 H1 H2 H3 H4 H5 H6 H7∧u=.tuple #[.agg #[v1,v2,v3,v4,v5,v6,v7],.int .i64 e]∧L' = H1++(H2++(H3++(H4++(H5++(H6++H7)))))):=by
 obtain ⟨l,rfl⟩:∃l,s=[67,68]++l:=⟨s.drop 2,by rw[←hp,List.take_append_drop]⟩;have hll:l.length≤2^30:=by rw[Y3]at hs;omega
 refine YR func12 ntmps12 fun W F=>?_
 refine Wr ?_;refine zA fun b1=>?_
 refine zq [1,2,5,3,4,0] ?_;refine zC (tr_cutY [67,68] l (by omega) (by simp)) ?_;refine zq [0,7,7,1,1,2,5,3,4,0,23] ?_;refine zB fun b2=>?_
 refine zq [1,2,5,3,4] ?_;refine zA fun b3=>?_
 refine zq [2,5,3,3,4,0,39,0,21] ?_;refine Ops.efg ⟨_,_,rfl,rfl,rfl⟩ (ef_call (tr_runR b2 (.pointer none) (.slice none 0 0) l (by omega) rfl rfl b3) rfl rfl) ?_;rintro _ _ ⟨_,M1,⟨rfl,hy⟩,rfl,rfl⟩;refine Ops.app ?_
 skip
 refine zq [54,26,2,5] ?_;refine Wp.cond_t rfl (fun h1=>?_) (fun h1=>?_)
 ·
  have hno:¬readsD l:=by simpa using h1
  refine zq [3,4,23,14,1,2,5,10,12] ?_;exact Ends.ret (L' := []) (res_list (rs:=[.cell 2 44,.tmp 3]) rfl ⟨_,_,rfl,rv_cellK [_,_,_,_,_,_,_] rfl rfl rfl ⟨rfl,rfl,rfl,rfl,rfl,rfl,rfl,trivial⟩,⟨_,_,rfl,rv_tmp rfl,rfl⟩⟩ rfl) ⟨noD,10,_,_,_,_,_,_,_,_,_,_,_,_,_,_,.inr ⟨fun h=>hno h.2,rfl,rfl⟩,noD_DS,rfl,rfl⟩
 have hyes:readsD l:=by simpa using h1
 obtain ⟨D,v1,v2,v3,v4,v5,v6,v7,H1,H2,H3,H4,H5,H6,H7,hrd,hds,rfl⟩:=hy hyes;obtain ⟨x1,y1,rfl⟩:=hds.o.form;obtain ⟨x2,y2,rfl⟩:=hds.p.form;obtain ⟨x3,y3,rfl⟩:=hds.m.form;obtain ⟨x4,y4,rfl⟩:=hds.f.form;obtain ⟨x5,y5,rfl⟩:=hds.t.form;obtain ⟨x6,y6,rfl⟩:=hds.w.form;obtain ⟨x7,y7,rfl⟩:=hds.s.form;refine Wp.app ?_;refine zq [11,5,3,4,36,14,1,2,5,10] ?_;exact Ends.ret (L' := H1++(H2++(H3++(H4++(H5++(H6++H7)))))) (res_list (rs:=[.cell 2 44,.tmp 3]) rfl ⟨_,_,rfl,rv_cellK [_,_,_,_,_,_,_] rfl rfl rfl ⟨rfl,rfl,rfl,rfl,rfl,rfl,rfl,trivial⟩,⟨_,_,rfl,rv_tmp rfl,rfl⟩⟩ rfl) ⟨D,0,_,_,_,_,_,_,_,_,_,_,_,_,_,_,.inl ⟨hp,hrd,rfl⟩,hds,rfl,rfl⟩
end
section
theorem Lies.readsAt{cc X:List Value}{o:Nat}(h:Lies cc o X)(Pr Q S:List Value)(hX:X=Pr++(Q++S)):Reads cc (o+Pr.length) Q:=by
 rw[reads_iff];intro j v hv;have:=h (Pr.length+j) v (by rw[hX,List.getElem?_append_right (by omega),show Pr.length+j-Pr.length=j by omega,List.getElem?_append_left (List.getElem?_eq_some_iff.1 hv).1];exact hv)
 rw[show o+(Pr.length+j)=o+Pr.length+j by omega]at this
 rwa [nth_eq]at this
theorem Lies.reads{cc X:List Value}{o:Nat}(h:Lies cc o X):Reads cc o X:=h.readsAt [] X [] (by simp)
def ASl {α:Type} (G:Hp) (k:Nat) (v:Value) (f:α→List Value) (l:List α):Prop:=∃a c,v=.slice a l.length c∧ArgS G k a (l.map f)
theorem ASl.form{α:Type}{G:Hp}{k:Nat}{v:Value}{f:α→List Value}{l:List α}(h:ASl G k v f l):∃a c,v=.slice a l.length c:=⟨_,_,h.choose_spec.choose_spec.1⟩
theorem ASl.mono{α:Type}{G G' : Hp}{k:Nat}{v:Value}{f:α→List Value}{l:List α}(h:ASl G k v f l)(hg:∀p,p∈G→p∈G'):ASl G' k v f l:=by
 obtain ⟨a,c,e,h⟩:=h;refine ⟨a,c,e,fun i x hx=>?_⟩;obtain ⟨h1,b,o,cc,T,fz,h2,h3,h4⟩:=h i x hx;exact ⟨h1,b,o,cc,T,fz,h2,hg _ h3,h4⟩
theorem lies_of{cc X:List Value}{o:Nat}(h:Reads cc o X):Lies cc o X:=fun i v hv=>by
 rw[reads_iff]at h;rw[nth_eq];exact h i v hv
theorem da_el{α:Type}{G:Hp}{k i:Nat}{v:Value}{f:α→List Value}{l:List α}{a:α}(h:ASl G k v f l)(hi:l[i]?=some a) :
    ∃b o cc T fz cap,v=.slice (some ⟨b,o,none⟩) l.length cap∧(b,Obj.cells (List.toArray cc) T fz)∈G∧Lies cc (o+i*k) (f a):=by
  obtain ⟨x,c,rfl,h⟩:=h;obtain ⟨_,b,o,cc,T,fz,rfl,h2,h3⟩:=h i (f a) (by rw[List.getElem?_map,hi];rfl);exact ⟨b,o,cc,T,fz,c,rfl,h2,lies_of h3⟩
theorem slc_as{α:Type}{f:α→List Value}{k T:Nat}[he:Enc f k]{v:Value}{l:List α}{H:Hp}(h:Slc T k v l.length (cel f l) H)(hk:0<k):ASl H k v f l:=by
 obtain ⟨a,c,rfl⟩:=h.form;refine ⟨a,c,rfl,fun i x hx=>?_⟩;rw[List.getElem?_map]at hx;obtain ⟨y,hy,rfl⟩:=Option.map_eq_some_iff.1 hx;obtain ⟨b,o,cc,cap,hv,rfl,hl,_⟩:=slc_el h hy hk;cases hv;exact ⟨he.len _,b,o,cc,T,_,rfl,List.mem_cons_self ..,hl.reads⟩
structure DA (G:Hp) (D:Dd) (v1 v2 v3 v4 v5 v6 v7:Value):Prop where
  o:ASl G 3 v1 (cE fsO) D.o
  p:ASl G 8 v2 (cE fsP) D.p
  m:ASl G 4 v3 (cE fsM) D.m
  f:ASl G 3 v4 (cE fsF) D.f
  t:ASl G 8 v5 (cE fsT) D.t
  w:ASl G 4 v6 (cE fsW) D.w
  s:ASl G 2 v7 (cE fsS) D.s
theorem cel_take1{α:Type}{f:α→List Value}{l:List α}{i:Nat}{a:α}(h:l[i]?=some a):cel f (l.take (i+1))=cel f (l.take i)++f a:=by
 rw[List.take_add_one,h,cel_app];simp[cel]
def greatD (D:Dd):Prop:=(((((((D.o.length:Int)>100∨(D.p.length:Int)>300)∨(D.m.length:Int)>100)∨(D.f.length:Int)>600)∨(D.t.length:Int)>100)∨(D.w.length:Int)>100)∨(D.s.length:Int)>100)
instance (D:Dd):Decidable (greatD D):=by unfold greatD;infer_instance
section
variable(G:Hp)(D:Dd)(v1 v2 v3 v4 v5 v6 v7:Value)(hs:DA G D v1 v2 v3 v4 v5 v6 v7)
include G D v1 v2 v3 v4 v5 v6 v7 hs
theorem tr_great:TrR prog 9 [.agg #[v1,v2,v3,v4,v5,v6,v7]] ([]) (.bool (decide (greatD D))):=by
 obtain ⟨s1,c1,rfl⟩:=hs.o.form;obtain ⟨s2,c2,rfl⟩:=hs.p.form;obtain ⟨s3,c3,rfl⟩:=hs.m.form;obtain ⟨s4,c4,rfl⟩:=hs.f.form;obtain ⟨s5,c5,rfl⟩:=hs.t.form;obtain ⟨s6,c6,rfl⟩:=hs.w.form;obtain ⟨s7,c7,rfl⟩:=hs.s.form;refine YR func9 ntmps9 fun W F=>?_
 refine Wr ?_;refine zB fun b1=>?_
 refine zq [1,2,5,3,4,6,8] ?_;refine Yp (pv_len_slice (T:=22) rfl rfl) ?_;refine zq [44,0] ?_;refine Yn rfl rfl (fun hg=>pv_fieldAddr0 rfl rfl) ?_;refine Yn rfl rfl (fun hg=>Ys 8 rfl hg (pv_load rfl rfl rfl)) ?_;refine Yn rfl rfl (fun hg=>Ys 8 rfl hg (Ys 9 rfl hg (pv_len_slice (T:=23) rfl rfl))) ?_;refine Yn rfl rfl (fun hg=>Ys 8 rfl hg (Ys 9 rfl hg (Ys 10 rfl hg (pv_gtr rfl rfl)))) ?_;refine zq [47,0] ?_;refine Yn rfl rfl (fun hg=>pv_fieldAddr0 rfl rfl) ?_;refine Yn rfl rfl (fun hg=>Ys 14 rfl hg (pv_load rfl rfl rfl)) ?_;refine Yn rfl rfl (fun hg=>Ys 14 rfl hg (Ys 15 rfl hg (pv_len_slice (T:=24) rfl rfl))) ?_;refine Yn rfl rfl (fun hg=>Ys 14 rfl hg (Ys 15 rfl hg (Ys 16 rfl hg (pv_gtr rfl rfl)))) ?_;refine zq [47,0] ?_;refine Yn rfl rfl (fun hg=>pv_fieldAddr0 rfl rfl) ?_;refine Yn rfl rfl (fun hg=>Ys 20 rfl hg (pv_load rfl rfl rfl)) ?_;refine Yn rfl rfl (fun hg=>Ys 20 rfl hg (Ys 21 rfl hg (pv_len_slice (T:=25) rfl rfl))) ?_;refine Yn rfl rfl (fun hg=>Ys 20 rfl hg (Ys 21 rfl hg (Ys 22 rfl hg (pv_gtr rfl rfl)))) ?_;refine zq [47,0] ?_;refine Yn rfl rfl (fun hg=>pv_fieldAddr0 rfl rfl) ?_;refine Yn rfl rfl (fun hg=>Ys 26 rfl hg (pv_load rfl rfl rfl)) ?_;refine Yn rfl rfl (fun hg=>Ys 26 rfl hg (Ys 27 rfl hg (pv_len_slice (T:=26) rfl rfl))) ?_;refine Yn rfl rfl (fun hg=>Ys 26 rfl hg (Ys 27 rfl hg (Ys 28 rfl hg (pv_gtr rfl rfl)))) ?_;refine zq [47,0] ?_;refine Yn rfl rfl (fun hg=>pv_fieldAddr0 rfl rfl) ?_;refine Yn rfl rfl (fun hg=>Ys 32 rfl hg (pv_load rfl rfl rfl)) ?_;refine Yn rfl rfl (fun hg=>Ys 32 rfl hg (Ys 33 rfl hg (pv_len_slice (T:=27) rfl rfl))) ?_;refine Yn rfl rfl (fun hg=>Ys 32 rfl hg (Ys 33 rfl hg (Ys 34 rfl hg (pv_gtr rfl rfl)))) ?_;refine zq [47,0] ?_;refine Yn rfl rfl (fun hg=>pv_fieldAddr0 rfl rfl) ?_;refine Yn rfl rfl (fun hg=>Ys 38 rfl hg (pv_load rfl rfl rfl)) ?_;refine Yn rfl rfl (fun hg=>Ys 38 rfl hg (Ys 39 rfl hg (pv_len_slice (T:=28) rfl rfl))) ?_;refine Yn rfl rfl (fun hg=>Ys 38 rfl hg (Ys 39 rfl hg (Ys 40 rfl hg (pv_gtr rfl rfl)))) ?_;refine zq [47,1,2,5,10] ?_;exact zr ⟨rfl,rfl⟩
theorem tr_to(hlo:D.o.length≤2^20)(hlp:D.p.length≤2^20)(hlm:D.m.length≤2^20)(hlf:D.f.length≤2^20)(hlt:D.t.length≤2^20)(hlw:D.w.length≤2^20)(hls:D.s.length≤2^20):Tr prog 11 [.agg #[v1,v2,v3,v4,v5,v6,v7]] (G) (fun u L' => ∃(w1 w2 w3 w4 w5 w6 w7:Value) (K1 K2 K3 K4 K5 K6 K7:Hp),DSB D w1 w2 w3 w4 w5 w6 w7 K1 K2 K3 K4 K5 K6 K7∧u=.agg #[w1,w2,w3,w4,w5,w6,w7]∧L' = K1++(K2++(K3++(K4++(K5++(K6++(K7++G))))))):=by
 obtain ⟨s1,c1,rfl⟩:=hs.o.form;obtain ⟨s2,c2,rfl⟩:=hs.p.form;obtain ⟨s3,c3,rfl⟩:=hs.m.form;obtain ⟨s4,c4,rfl⟩:=hs.f.form;obtain ⟨s5,c5,rfl⟩:=hs.t.form;obtain ⟨s6,c6,rfl⟩:=hs.w.form;obtain ⟨s7,c7,rfl⟩:=hs.s.form;refine YR func11 ntmps11 fun W F=>?_
 refine Wr ?_;refine zB fun b1=>?_
 refine zA fun b2=>?_
 refine zq [2,5,3,4] ?_;refine zA fun b3=>?_
 refine zq [2,5,3,3,4,1,2,5,20] ?_;refine YM (σ:=Nat×Value×Hp) [(1,_),(2,_),(3,_)] (fun s=>[(4,.int .i64 s.1)]) (fun s=>(b3,.cells [s.2.1,.slice none 0 0,.slice none 0 0,.slice none 0 0,.slice none 0 0,.slice none 0 0,.slice none 0 0].toArray 44)::((b2,.cells [.slice none 0 0,.slice none 0 0,.slice none 0 0,.slice none 0 0,.slice none 0 0,.slice none 0 0,.slice none 0 0].toArray 44)::((b1,.cells [.slice s1 D.o.length c1,.slice s2 D.p.length c2,.slice s3 D.m.length c3,.slice s4 D.f.length c4,.slice s5 D.t.length c5,.slice s6 D.w.length c6,.slice s7 D.s.length c7].toArray 30)::(s.2.2++(G++F))))) (fun s=>s.1≤D.o.length∧Slc 116 3 s.2.1 s.1 (cel (cE fsO) (D.o.take s.1)) s.2.2) (fun s=>D.o.length-s.1) (0,.slice none 0 0,[]) ⟨Nat.zero_le _,Slc.nil _ _⟩ ?_;rintro ⟨i,vv,G1⟩ KK ⟨hi,hsv⟩ hK;dsimp only[Y1,Y2]at hK ⊢;dsimp only at hi hsv ⊢;refine zq [3,3,4,0,6,8] ?_;refine Yp (pv_len_slice (T:=22) rfl rfl) ?_;refine zq [42,2,5] ?_;refine Yd rfl (fun h1=>?_) (fun h1=>?_)
 ·
  obtain ⟨e,he⟩:∃e,D.o[i]?=some e:=Y9;obtain ⟨eb,eo,cc,TT,fz,cap,hva,hbm,hx⟩:=da_el hs.o he;cases hva;have hbg:Blk G eb (.cells cc.toArray TT fz):=⟨hbm⟩
  obtain ⟨a0,a1,a2,hae⟩:=El.three rfl e;rw[cE,hae]at hx;refine zq [11,5,3,20,3,4,6,8,0] ?_;refine Yi rfl rfl (i) rfl ?_;refine Yp (pv_loadK [.int .i64 a0,.int .i64 a1,.int .i64 a2] rfl rfl rfl hx.reads) ?_;refine zA fun b4=>?_
  refine zq [14,2,5,4,6,8,6,8,6,8,6,8,23] ?_;refine Yq (ef_buildSlice1 (k:=3) rfl rfl rfl rfl rfl) fun b5=>?_
  refine Ops.ef rfl (ef_append (H:=G1) (xs:=[.int .i64 a0,.int .i64 a1,.int .i64 a2]) rfl hsv rfl ⟨rfl,rfl,rfl,trivial⟩ rfl rfl rfl (by omega) (by omega) rfl rfl) ?_;rintro _ _ ⟨vn1,Hn,hn1,rfl,rfl⟩;refine Ops.app ?_;have hsn:Slc 116 3 vn1 (i+1) (cel (cE fsO) (D.o.take (i+1))) Hn:=by rw[cel_take1 he,cE,hae];exact hn1
  obtain ⟨x9,y9,rfl⟩:=hsn.form;refine zq [6,25,2,19,5,4,0] ?_;refine Ya rfl rfl (i+1) ?_;refine zq [1,2,49] ?_;refine Yy (hK (i+1,.slice x9 (i+1) y9,Hn) ⟨by dsimp only;omega,hsn⟩ (by dsimp only;omega))
 obtain rfl:i=D.o.length:=by omega
 rw[List.take_length]at hsv;obtain ⟨p1,q1,rfl⟩:=hsv.form;have hg1:=hsv
 clear hsv
 refine zq [41,16,16,40,5,3,3,4,1,2,5,20] ?_;refine YM (σ:=Nat×Value×Hp) [(1,_),(2,_),(3,_)] (fun s=>[(6,.int .i64 s.1)]) (fun s=>(b3,.cells [.slice p1 D.o.length q1,s.2.1,.slice none 0 0,.slice none 0 0,.slice none 0 0,.slice none 0 0,.slice none 0 0].toArray 44)::((b2,.cells [.slice none 0 0,.slice none 0 0,.slice none 0 0,.slice none 0 0,.slice none 0 0,.slice none 0 0,.slice none 0 0].toArray 44)::((b1,.cells [.slice s1 D.o.length c1,.slice s2 D.p.length c2,.slice s3 D.m.length c3,.slice s4 D.f.length c4,.slice s5 D.t.length c5,.slice s6 D.w.length c6,.slice s7 D.s.length c7].toArray 30)::(G1++(s.2.2++(G++F)))))) (fun s=>s.1≤D.p.length∧Slc 65 8 s.2.1 s.1 (cel (cE fsP) (D.p.take s.1)) s.2.2) (fun s=>D.p.length-s.1) (0,.slice none 0 0,[]) ⟨Nat.zero_le _,Slc.nil _ _⟩ ?_;rintro ⟨i,vv,G2⟩ KK ⟨hi,hsv⟩ hK;dsimp only[Y1,Y2]at hK ⊢;dsimp only at hi hsv ⊢;refine zq [3,3,4,0,6,8] ?_;refine Yp (pv_len_slice (T:=23) rfl rfl) ?_;refine zq [42,2,5] ?_;refine Yd rfl (fun h2=>?_) (fun h2=>?_)
 ·
  obtain ⟨e,he⟩:∃e,D.p[i]?=some e:=Y9;obtain ⟨eb,eo,cc,TT,fz,cap,hva,hbm,hx⟩:=da_el hs.p he;cases hva;have hbg:Blk G eb (.cells cc.toArray TT fz):=⟨hbm⟩
  obtain ⟨a0,a1,a2,a3,a4,a5,a6,a7,hae⟩:=El.eight rfl e;rw[cE,hae]at hx;refine zq [11,5,3,20] ?_;refine AnyH.start ((b1,.cells [.slice s1 D.o.length c1,.slice (some ⟨eb,eo,none⟩) D.p.length c2,.slice s3 D.m.length c3,.slice s4 D.f.length c4,.slice s5 D.t.length c5,.slice s6 D.w.length c6,.slice s7 D.s.length c7].toArray 30)::G) 19 rfl ?_;refine zd [0,0,2,0,3,2,4,1] ?_;refine Yh 5 rfl (pv_indexAddr (i:=i) rfl rfl rfl (by omega)) ?_;refine zd [6,6] ?_;refine Yh 7 rfl (pv_loadK [.int .i64 a0,.int .i64 a1] rfl rfl rfl (hx.readsAt [] [.int .i64 a0,.int .i64 a1] [.int .i64 a2,.int .i64 a3,.int .i64 a4,.int .u64 a5,.int .u64 a6,.int .i64 a7] rfl)) ?_;refine zd [8,0,9,2,10,1] ?_;refine Yh 11 rfl (pv_indexAddr (i:=i) rfl rfl rfl (by omega)) ?_;refine zd [12,6] ?_;refine Yh 13 rfl (pv_loadK [.int .i64 a2,.int .i64 a3,.int .i64 a4,.int .u64 a5,.int .u64 a6,.int .i64 a7] rfl rfl rfl (hx.readsAt [.int .i64 a0,.int .i64 a1] [.int .i64 a2,.int .i64 a3,.int .i64 a4,.int .u64 a5,.int .u64 a6,.int .i64 a7] [] rfl)) ?_;refine zd [14,9] ?_;refine YB 1 15 ?_ ?_
  ·
   refine Yv rfl rfl (pv_load rfl rfl rfl) ?_;refine YA 15 ?_;refine Yw rfl rfl (ef_buildSlice1 (k:=8) rfl rfl rfl rfl rfl) fun b6=>?_
   refine YA 16 ?_;refine Turn.ef rfl rfl (ef_append (H:=G2) (xs:=[.int .i64 a0,.int .i64 a1,.int .i64 a2,.int .i64 a3,.int .i64 a4,.int .u64 a5,.int .u64 a6,.int .i64 a7]) rfl hsv rfl ⟨rfl,rfl,rfl,rfl,rfl,rfl,rfl,rfl,trivial⟩ rfl rfl rfl (by omega) (by omega) rfl rfl) ?_ ?_ <;> rintro _ _ ⟨vn2,Hn,hn2,rfl,rfl⟩
   ·infer_instance
   refine AnyH.app ?_;have hsn:Slc 65 8 vn2 (i+1) (cel (cE fsP) (D.p.take (i+1))) Hn:=by rw[cel_take1 he,cE,hae];exact hn2
   obtain ⟨x9,y9,rfl⟩:=hsn.form;refine zd [17,0] ?_;refine z1 18 ?_;refine YD ?_;refine zq [19,5,4,0] ?_;refine Ya rfl rfl (i+1) ?_;refine zq [1,2,49] ?_;refine Yy (hK (i+1,.slice x9 (i+1) y9,Hn) ⟨by dsimp only;omega,hsn⟩ (by dsimp only;omega))
  refine Yw rfl rfl (ef_buildSlice1 (k:=8) rfl rfl rfl rfl rfl) fun b7=>?_
  refine YA 1 ?_;refine Yv rfl rfl (pv_load rfl rfl rfl) ?_;refine YA 16 ?_;refine Turn.ef rfl rfl (ef_append (H:=G2) (xs:=[.int .i64 a0,.int .i64 a1,.int .i64 a2,.int .i64 a3,.int .i64 a4,.int .u64 a5,.int .u64 a6,.int .i64 a7]) rfl hsv rfl ⟨rfl,rfl,rfl,rfl,rfl,rfl,rfl,rfl,trivial⟩ rfl rfl rfl (by omega) (by omega) rfl rfl) ?_ ?_ <;> rintro _ _ ⟨vn3,Hn,hn3,rfl,rfl⟩
  ·infer_instance
  refine AnyH.app ?_;have hsn:Slc 65 8 vn3 (i+1) (cel (cE fsP) (D.p.take (i+1))) Hn:=by rw[cel_take1 he,cE,hae];exact hn3
  obtain ⟨x9,y9,rfl⟩:=hsn.form;refine zd [17,0] ?_;refine z1 18 ?_;refine YD ?_;refine zq [19,5,4,0] ?_;refine Ya rfl rfl (i+1) ?_;refine zq [1,2,49] ?_;refine Yy (hK (i+1,.slice x9 (i+1) y9,Hn) ⟨by dsimp only;omega,hsn⟩ (by dsimp only;omega))
 obtain rfl:i=D.p.length:=by omega
 rw[List.take_length]at hsv;obtain ⟨p2,q2,rfl⟩:=hsv.form;have hg2:=hsv
 clear hsv
 refine zq [41,16,16,40,5,3,3,4,1,2,5,20] ?_;refine YM (σ:=Nat×Value×Hp) [(1,_),(2,_),(3,_)] (fun s=>[(7,.int .i64 s.1)]) (fun s=>(b3,.cells [.slice p1 D.o.length q1,.slice p2 D.p.length q2,s.2.1,.slice none 0 0,.slice none 0 0,.slice none 0 0,.slice none 0 0].toArray 44)::((b2,.cells [.slice none 0 0,.slice none 0 0,.slice none 0 0,.slice none 0 0,.slice none 0 0,.slice none 0 0,.slice none 0 0].toArray 44)::((b1,.cells [.slice s1 D.o.length c1,.slice s2 D.p.length c2,.slice s3 D.m.length c3,.slice s4 D.f.length c4,.slice s5 D.t.length c5,.slice s6 D.w.length c6,.slice s7 D.s.length c7].toArray 30)::(G1++(G2++(s.2.2++(G++F))))))) (fun s=>s.1≤D.m.length∧Slc 69 4 s.2.1 s.1 (cel (cE fsM) (D.m.take s.1)) s.2.2) (fun s=>D.m.length-s.1) (0,.slice none 0 0,[]) ⟨Nat.zero_le _,Slc.nil _ _⟩ ?_;rintro ⟨i,vv,G3⟩ KK ⟨hi,hsv⟩ hK;dsimp only[Y1,Y2]at hK ⊢;dsimp only at hi hsv ⊢;refine zq [3,3,4,0,6,8] ?_;refine Yp (pv_len_slice (T:=24) rfl rfl) ?_;refine zq [42,2,5] ?_;refine Yd rfl (fun h3=>?_) (fun h3=>?_)
 ·
  obtain ⟨e,he⟩:∃e,D.m[i]?=some e:=Y9;obtain ⟨eb,eo,cc,TT,fz,cap,hva,hbm,hx⟩:=da_el hs.m he;cases hva;have hbg:Blk G eb (.cells cc.toArray TT fz):=⟨hbm⟩
  obtain ⟨a0,a1,a2,a3,hae⟩:=El.four rfl e;rw[cE,hae]at hx;refine zq [11,5,3,20,3,4,6,8,0] ?_;refine Yi rfl rfl (i) rfl ?_;refine Yp (pv_loadK [.int .i64 a0,.int .i64 a1,.int .i64 a2,.bool (decide (a3=1))] rfl rfl rfl hx.reads) ?_;refine zA fun b8=>?_
  refine zq [14,2,5,4,6,8,6,8,6,8,6,8,6,8,23] ?_;refine Yq (ef_buildSlice1 (k:=4) rfl rfl rfl rfl rfl) fun b9=>?_
  refine Ops.ef rfl (ef_append (H:=G3) (xs:=[.int .i64 a0,.int .i64 a1,.int .i64 a2,.bool (decide (a3=1))]) rfl hsv rfl ⟨rfl,rfl,rfl,rfl,trivial⟩ rfl rfl rfl (by omega) (by omega) rfl rfl) ?_;rintro _ _ ⟨vn4,Hn,hn4,rfl,rfl⟩;refine Ops.app ?_;have hsn:Slc 69 4 vn4 (i+1) (cel (cE fsM) (D.m.take (i+1))) Hn:=by rw[cel_take1 he,cE,hae];exact hn4
  obtain ⟨x9,y9,rfl⟩:=hsn.form;refine zq [6,25,2,19,5,4,0] ?_;refine Ya rfl rfl (i+1) ?_;refine zq [1,2,49] ?_;refine Yy (hK (i+1,.slice x9 (i+1) y9,Hn) ⟨by dsimp only;omega,hsn⟩ (by dsimp only;omega))
 obtain rfl:i=D.m.length:=by omega
 rw[List.take_length]at hsv;obtain ⟨p3,q3,rfl⟩:=hsv.form;have hg3:=hsv
 clear hsv
 refine zq [41,16,16,40,5,3,3,4,1,2,5,20] ?_;refine YM (σ:=Nat×Value×Hp) [(1,_),(2,_),(3,_)] (fun s=>[(9,.int .i64 s.1)]) (fun s=>(b3,.cells [.slice p1 D.o.length q1,.slice p2 D.p.length q2,.slice p3 D.m.length q3,s.2.1,.slice none 0 0,.slice none 0 0,.slice none 0 0].toArray 44)::((b2,.cells [.slice none 0 0,.slice none 0 0,.slice none 0 0,.slice none 0 0,.slice none 0 0,.slice none 0 0,.slice none 0 0].toArray 44)::((b1,.cells [.slice s1 D.o.length c1,.slice s2 D.p.length c2,.slice s3 D.m.length c3,.slice s4 D.f.length c4,.slice s5 D.t.length c5,.slice s6 D.w.length c6,.slice s7 D.s.length c7].toArray 30)::(G1++(G2++(G3++(s.2.2++(G++F)))))))) (fun s=>s.1≤D.f.length∧Slc 119 3 s.2.1 s.1 (cel (cE fsF) (D.f.take s.1)) s.2.2) (fun s=>D.f.length-s.1) (0,.slice none 0 0,[]) ⟨Nat.zero_le _,Slc.nil _ _⟩ ?_;rintro ⟨i,vv,G4⟩ KK ⟨hi,hsv⟩ hK;dsimp only[Y1,Y2]at hK ⊢;dsimp only at hi hsv ⊢;refine zq [3,3,4,0,6,8] ?_;refine Yp (pv_len_slice (T:=25) rfl rfl) ?_;refine zq [42,2,5] ?_;refine Yd rfl (fun h4=>?_) (fun h4=>?_)
 ·
  obtain ⟨e,he⟩:∃e,D.f[i]?=some e:=Y9;obtain ⟨eb,eo,cc,TT,fz,cap,hva,hbm,hx⟩:=da_el hs.f he;cases hva;have hbg:Blk G eb (.cells cc.toArray TT fz):=⟨hbm⟩
  obtain ⟨a0,a1,a2,hae⟩:=El.three rfl e;rw[cE,hae]at hx;refine zq [11,5,3,20,3,4,6,8,0] ?_;refine Yi rfl rfl (i) rfl ?_;refine Yp (pv_loadK [.int .i64 a0,.int .i64 a1,.int .u64 a2] rfl rfl rfl hx.reads) ?_;refine zA fun b10=>?_
  refine zq [14,2,5,4,6,8,6,8,6,8,6,8,23] ?_;refine Yq (ef_buildSlice1 (k:=3) rfl rfl rfl rfl rfl) fun b11=>?_
  refine Ops.ef rfl (ef_append (H:=G4) (xs:=[.int .i64 a0,.int .i64 a1,.int .u64 a2]) rfl hsv rfl ⟨rfl,rfl,rfl,trivial⟩ rfl rfl rfl (by omega) (by omega) rfl rfl) ?_;rintro _ _ ⟨vn5,Hn,hn5,rfl,rfl⟩;refine Ops.app ?_;have hsn:Slc 119 3 vn5 (i+1) (cel (cE fsF) (D.f.take (i+1))) Hn:=by rw[cel_take1 he,cE,hae];exact hn5
  obtain ⟨x9,y9,rfl⟩:=hsn.form;refine zq [6,25,2,19,5,4,0] ?_;refine Ya rfl rfl (i+1) ?_;refine zq [1,2,49] ?_;refine Yy (hK (i+1,.slice x9 (i+1) y9,Hn) ⟨by dsimp only;omega,hsn⟩ (by dsimp only;omega))
 obtain rfl:i=D.f.length:=by omega
 rw[List.take_length]at hsv;obtain ⟨p4,q4,rfl⟩:=hsv.form;have hg4:=hsv
 clear hsv
 refine zq [41,16,16,40,5,3,3,4,1,2,5,20] ?_;refine YM (σ:=Nat×Value×Hp) [(1,_),(2,_),(3,_)] (fun s=>[(11,.int .i64 s.1)]) (fun s=>(b3,.cells [.slice p1 D.o.length q1,.slice p2 D.p.length q2,.slice p3 D.m.length q3,.slice p4 D.f.length q4,s.2.1,.slice none 0 0,.slice none 0 0].toArray 44)::((b2,.cells [.slice none 0 0,.slice none 0 0,.slice none 0 0,.slice none 0 0,.slice none 0 0,.slice none 0 0,.slice none 0 0].toArray 44)::((b1,.cells [.slice s1 D.o.length c1,.slice s2 D.p.length c2,.slice s3 D.m.length c3,.slice s4 D.f.length c4,.slice s5 D.t.length c5,.slice s6 D.w.length c6,.slice s7 D.s.length c7].toArray 30)::(G1++(G2++(G3++(G4++(s.2.2++(G++F))))))))) (fun s=>s.1≤D.t.length∧Slc 67 8 s.2.1 s.1 (cel (cE fsT) (D.t.take s.1)) s.2.2) (fun s=>D.t.length-s.1) (0,.slice none 0 0,[]) ⟨Nat.zero_le _,Slc.nil _ _⟩ ?_;rintro ⟨i,vv,G5⟩ KK ⟨hi,hsv⟩ hK;dsimp only[Y1,Y2]at hK ⊢;dsimp only at hi hsv ⊢;refine zq [3,3,4,0,6,8] ?_;refine Yp (pv_len_slice (T:=26) rfl rfl) ?_;refine zq [42,2,5] ?_;refine Yd rfl (fun h5=>?_) (fun h5=>?_)
 ·
  obtain ⟨e,he⟩:∃e,D.t[i]?=some e:=Y9;obtain ⟨eb,eo,cc,TT,fz,cap,hva,hbm,hx⟩:=da_el hs.t he;cases hva;have hbg:Blk G eb (.cells cc.toArray TT fz):=⟨hbm⟩
  obtain ⟨a0,a1,a2,a3,a4,a5,a6,a7,hae⟩:=El.eight rfl e;rw[cE,hae]at hx;refine zq [11,5,3,20,3,4,6,8,0] ?_;refine Yi rfl rfl (i) rfl ?_;refine Yp (pv_loadK [.int .i64 a0,.int .i64 a1,.int .i64 a2,.int .i64 a3,.int .i64 a4,.int .u64 a5,.int .i64 a6,.int .i64 a7] rfl rfl rfl hx.reads) ?_;refine zA fun b12=>?_
  refine zq [14,2,5,4,6,8,6,8,6,8,6,8,6,8,6,8,6,8,6,8,6,8,23] ?_;refine Yq (ef_buildSlice1 (k:=8) rfl rfl rfl rfl rfl) fun b13=>?_
  refine Ops.ef rfl (ef_append (H:=G5) (xs:=[.int .i64 a0,.int .i64 a1,.int .i64 a2,.int .i64 a3,.int .i64 a4,.int .u64 a5,.int .i64 a6,.int .i64 a7]) rfl hsv rfl ⟨rfl,rfl,rfl,rfl,rfl,rfl,rfl,rfl,trivial⟩ rfl rfl rfl (by omega) (by omega) rfl rfl) ?_;rintro _ _ ⟨vn6,Hn,hn6,rfl,rfl⟩;refine Ops.app ?_;have hsn:Slc 67 8 vn6 (i+1) (cel (cE fsT) (D.t.take (i+1))) Hn:=by rw[cel_take1 he,cE,hae];exact hn6
  obtain ⟨x9,y9,rfl⟩:=hsn.form;refine zq [6,25,2,19,5,4,0] ?_;refine Ya rfl rfl (i+1) ?_;refine zq [1,2,49] ?_;refine Yy (hK (i+1,.slice x9 (i+1) y9,Hn) ⟨by dsimp only;omega,hsn⟩ (by dsimp only;omega))
 obtain rfl:i=D.t.length:=by omega
 rw[List.take_length]at hsv;obtain ⟨p5,q5,rfl⟩:=hsv.form;have hg5:=hsv
 clear hsv
 refine zq [41,16,16,40,5,3,3,4,1,2,5,20] ?_;refine YM (σ:=Nat×Value×Hp) [(1,_),(2,_),(3,_)] (fun s=>[(13,.int .i64 s.1)]) (fun s=>(b3,.cells [.slice p1 D.o.length q1,.slice p2 D.p.length q2,.slice p3 D.m.length q3,.slice p4 D.f.length q4,.slice p5 D.t.length q5,s.2.1,.slice none 0 0].toArray 44)::((b2,.cells [.slice none 0 0,.slice none 0 0,.slice none 0 0,.slice none 0 0,.slice none 0 0,.slice none 0 0,.slice none 0 0].toArray 44)::((b1,.cells [.slice s1 D.o.length c1,.slice s2 D.p.length c2,.slice s3 D.m.length c3,.slice s4 D.f.length c4,.slice s5 D.t.length c5,.slice s6 D.w.length c6,.slice s7 D.s.length c7].toArray 30)::(G1++(G2++(G3++(G4++(G5++(s.2.2++(G++F)))))))))) (fun s=>s.1≤D.w.length∧Slc 122 4 s.2.1 s.1 (cel (cE fsW) (D.w.take s.1)) s.2.2) (fun s=>D.w.length-s.1) (0,.slice none 0 0,[]) ⟨Nat.zero_le _,Slc.nil _ _⟩ ?_;rintro ⟨i,vv,G6⟩ KK ⟨hi,hsv⟩ hK;dsimp only[Y1,Y2]at hK ⊢;dsimp only at hi hsv ⊢;refine zq [3,3,4,0,6,8] ?_;refine Yp (pv_len_slice (T:=27) rfl rfl) ?_;refine zq [42,2,5] ?_;refine Yd rfl (fun h6=>?_) (fun h6=>?_)
 ·
  obtain ⟨e,he⟩:∃e,D.w[i]?=some e:=Y9;obtain ⟨eb,eo,cc,TT,fz,cap,hva,hbm,hx⟩:=da_el hs.w he;cases hva;have hbg:Blk G eb (.cells cc.toArray TT fz):=⟨hbm⟩
  obtain ⟨a0,a1,a2,a3,hae⟩:=El.four rfl e;rw[cE,hae]at hx;refine zq [11,5,3,20,3,4,6,8,0] ?_;refine Yi rfl rfl (i) rfl ?_;refine Yp (pv_loadK [.int .i64 a0,.int .i64 a1,.int .i64 a2,.int .u64 a3] rfl rfl rfl hx.reads) ?_;refine zA fun b14=>?_
  refine zq [14,2,5,4,6,8,6,8,6,8,6,8,6,8,23] ?_;refine Yq (ef_buildSlice1 (k:=4) rfl rfl rfl rfl rfl) fun b15=>?_
  refine Ops.ef rfl (ef_append (H:=G6) (xs:=[.int .i64 a0,.int .i64 a1,.int .i64 a2,.int .u64 a3]) rfl hsv rfl ⟨rfl,rfl,rfl,rfl,trivial⟩ rfl rfl rfl (by omega) (by omega) rfl rfl) ?_;rintro _ _ ⟨vn7,Hn,hn7,rfl,rfl⟩;refine Ops.app ?_;have hsn:Slc 122 4 vn7 (i+1) (cel (cE fsW) (D.w.take (i+1))) Hn:=by rw[cel_take1 he,cE,hae];exact hn7
  obtain ⟨x9,y9,rfl⟩:=hsn.form;refine zq [6,25,2,19,5,4,0] ?_;refine Ya rfl rfl (i+1) ?_;refine zq [1,2,49] ?_;refine Yy (hK (i+1,.slice x9 (i+1) y9,Hn) ⟨by dsimp only;omega,hsn⟩ (by dsimp only;omega))
 obtain rfl:i=D.w.length:=by omega
 rw[List.take_length]at hsv;obtain ⟨p6,q6,rfl⟩:=hsv.form;have hg6:=hsv
 clear hsv
 refine zq [41,16,16,40,5,3,3,4,1,2,5,20] ?_;refine YM (σ:=Nat×Value×Hp) [(1,_),(2,_),(3,_)] (fun s=>[(15,.int .i64 s.1)]) (fun s=>(b3,.cells [.slice p1 D.o.length q1,.slice p2 D.p.length q2,.slice p3 D.m.length q3,.slice p4 D.f.length q4,.slice p5 D.t.length q5,.slice p6 D.w.length q6,s.2.1].toArray 44)::((b2,.cells [.slice none 0 0,.slice none 0 0,.slice none 0 0,.slice none 0 0,.slice none 0 0,.slice none 0 0,.slice none 0 0].toArray 44)::((b1,.cells [.slice s1 D.o.length c1,.slice s2 D.p.length c2,.slice s3 D.m.length c3,.slice s4 D.f.length c4,.slice s5 D.t.length c5,.slice s6 D.w.length c6,.slice s7 D.s.length c7].toArray 30)::(G1++(G2++(G3++(G4++(G5++(G6++(s.2.2++(G++F))))))))))) (fun s=>s.1≤D.s.length∧Slc 125 2 s.2.1 s.1 (cel (cE fsS) (D.s.take s.1)) s.2.2) (fun s=>D.s.length-s.1) (0,.slice none 0 0,[]) ⟨Nat.zero_le _,Slc.nil _ _⟩ ?_;rintro ⟨i,vv,G7⟩ KK ⟨hi,hsv⟩ hK;dsimp only[Y1,Y2]at hK ⊢;dsimp only at hi hsv ⊢;refine zq [3,3,4,0,6,8] ?_;refine Yp (pv_len_slice (T:=28) rfl rfl) ?_;refine zq [42,2,5] ?_;refine Yd rfl (fun h7=>?_) (fun h7=>?_)
 ·
  obtain ⟨e,he⟩:∃e,D.s[i]?=some e:=Y9;obtain ⟨eb,eo,cc,TT,fz,cap,hva,hbm,hx⟩:=da_el hs.s he;cases hva;have hbg:Blk G eb (.cells cc.toArray TT fz):=⟨hbm⟩
  obtain ⟨a0,a1,hae⟩:=El.two rfl e;rw[cE,hae]at hx;refine zq [11,5,3,20] ?_;refine AnyH.start ((b1,.cells [.slice s1 D.o.length c1,.slice s2 D.p.length c2,.slice s3 D.m.length c3,.slice s4 D.f.length c4,.slice s5 D.t.length c5,.slice s6 D.w.length c6,.slice (some ⟨eb,eo,none⟩) D.s.length c7].toArray 30)::G) 19 rfl ?_;refine zd [0,0,2,0,3,2,4,1] ?_;refine Yh 5 rfl (pv_indexAddr (i:=i) rfl rfl rfl (by omega)) ?_;refine zd [6,6] ?_;refine Yh 7 rfl (pv_load rfl rfl (hx.at_ (v:=.int .i64 a0) 0 rfl)) ?_;refine zd [8,0,9,2,10,1] ?_;refine Yh 11 rfl (pv_indexAddr (i:=i) rfl rfl rfl (by omega)) ?_;refine zd [12,6] ?_;refine Yh 13 rfl (pv_load rfl rfl (hx.at_ (v:=.int .i64 a1) 1 rfl)) ?_;refine zd [14,9] ?_;refine YB 1 15 ?_ ?_
  ·
   refine Yv rfl rfl (pv_load rfl rfl rfl) ?_;refine YA 15 ?_;refine Yw rfl rfl (ef_buildSlice1 (k:=2) rfl rfl rfl rfl rfl) fun b16=>?_
   refine YA 16 ?_;refine Turn.ef rfl rfl (ef_append (H:=G7) (xs:=[.int .i64 a0,.int .i64 a1]) rfl hsv rfl ⟨rfl,rfl,trivial⟩ rfl rfl rfl (by omega) (by omega) rfl rfl) ?_ ?_ <;> rintro _ _ ⟨vn8,Hn,hn8,rfl,rfl⟩
   ·infer_instance
   refine AnyH.app ?_;have hsn:Slc 125 2 vn8 (i+1) (cel (cE fsS) (D.s.take (i+1))) Hn:=by rw[cel_take1 he,cE,hae];exact hn8
   obtain ⟨x9,y9,rfl⟩:=hsn.form;refine zd [17,0] ?_;refine z1 18 ?_;refine YD ?_;refine zq [19,5,4,0] ?_;refine Ya rfl rfl (i+1) ?_;refine zq [1,2,49] ?_;refine Yy (hK (i+1,.slice x9 (i+1) y9,Hn) ⟨by dsimp only;omega,hsn⟩ (by dsimp only;omega))
  refine Yw rfl rfl (ef_buildSlice1 (k:=2) rfl rfl rfl rfl rfl) fun b17=>?_
  refine YA 1 ?_;refine Yv rfl rfl (pv_load rfl rfl rfl) ?_;refine YA 16 ?_;refine Turn.ef rfl rfl (ef_append (H:=G7) (xs:=[.int .i64 a0,.int .i64 a1]) rfl hsv rfl ⟨rfl,rfl,trivial⟩ rfl rfl rfl (by omega) (by omega) rfl rfl) ?_ ?_ <;> rintro _ _ ⟨vn9,Hn,hn9,rfl,rfl⟩
  ·infer_instance
  refine AnyH.app ?_;have hsn:Slc 125 2 vn9 (i+1) (cel (cE fsS) (D.s.take (i+1))) Hn:=by rw[cel_take1 he,cE,hae];exact hn9
  obtain ⟨x9,y9,rfl⟩:=hsn.form;refine zd [17,0] ?_;refine z1 18 ?_;refine YD ?_;refine zq [19,5,4,0] ?_;refine Ya rfl rfl (i+1) ?_;refine zq [1,2,49] ?_;refine Yy (hK (i+1,.slice x9 (i+1) y9,Hn) ⟨by dsimp only;omega,hsn⟩ (by dsimp only;omega))
 obtain rfl:i=D.s.length:=by omega
 rw[List.take_length]at hsv;obtain ⟨p7,q7,rfl⟩:=hsv.form;have hg7:=hsv
 clear hsv
 refine zq [41,16,16,40,5,3,4,36,14,2,5,10] ?_;exact Ends.ret (L' := G1++(G2++(G3++(G4++(G5++(G6++(G7++G))))))) (res_one rfl (rv_cellK [_,_,_,_,_,_,_] rfl rfl rfl ⟨rfl,rfl,rfl,rfl,rfl,rfl,rfl,trivial⟩)) ⟨_,_,_,_,_,_,_,G1,G2,G3,G4,G5,G6,G7,⟨hg1,hg2,hg3,hg4,hg5,hg6,hg7⟩,rfl,rfl⟩
end
end
section
def BA.ok:BA→Prop
  | .create _ _ _ size=>I64 size
  | .plant _ c=>c.Rg
  | .map _ _ a _=>I64 a
  | .poke _ v=>U64 v
  | _=>True
theorem KX.wire{k:Kn}(h:KX k)(l d o b:Int):KX (k.wire l d o b):=by
 unfold Kn.wire
 split
 ·
  exact h
 ·
  exact ⟨⟨h.kw.len,h.kw.wok,h.kw.nk,h.kw.mp,⟨by dsimp only;rw[List.length_modify];exact h.kw.q.1,h.kw.q.2⟩,h.kw.at_,h.kw.rw,h.kw.rr,h.kw.ths,h.kw.tk⟩,h.rok⟩
theorem BA.kx{b:BA}(hb:b.ok){k:Kn}(h:KX k)(hn:k.nk<2^18):KX (b.run k).2:=by
 cases b <;> simp only[BA.run]
 case bad=>exact h
 case create n kd q size =>
  split
  ·
   rename_i h0;exact h.made h0
  ·
   exact h
 case plant s c=>exact h.plant s hb hn
 case map=>exact h.map _ _ _ _
 case poke a v=>exact h.setW (memPut_len ..) (h.kw.wok.put _ hb)
 case setup=>exact h.setup _ _ _ _ _ RegsM.zero_ok
 case wire=>exact h.wire _ _ _ _
 case start=>exact (h.start _).1
theorem BA.nk(b:BA)(k:Kn):(b.run k).2.nk≤k.nk+1:=by
 cases b <;> simp only[BA.run]
 case create n kd q size =>
  split
  ·
   unfold Kn.made;dsimp only;omega
  ·
   omega
 case plant s c =>
  unfold Kn.plant;split
  ·
   dsimp only;omega
  ·
   dsimp only;omega
 case map n into a wr =>
  unfold Kn.map;split
  ·
   split
   ·
    omega
   ·
    dsimp only;omega
  ·
   omega
 case setup n lvl dom pc root space =>
  unfold Kn.setup;split
  ·
   omega
  ·
   split
   ·
    dsimp only;omega
   ·
    omega
 case wire =>
  unfold Kn.wire;split
  ·
   omega
  ·
   dsimp only;omega
 case start n =>
  unfold Kn.start;split
  ·
   omega
  ·
   split
   ·
    unfold Kn.be Kn.setThr Kn.setI
    split
    ·
     split
     ·
      dsimp only;omega
     ·
      dsimp only;omega
    ·
     dsimp only;omega
   ·
    omega
 all_goals omega
theorem bRun_kx:∀(l:List BA) (s:Int×Kn),KX s.2→s.2.nk+l.length<2^18→(∀b,b∈l→b.ok)→KX (bRun s l).2∧(bRun s l).2.nk≤s.2.nk+l.length
  | [],s,h,hn,_=>⟨h,by simp[bRun]⟩
  | b::l,s,h,hn,hl=>by
    rw[Y4]at hn;have hb:=b.nk s.2
    have h1:KX (BA.go s b).2∧(BA.go s b).2.nk≤s.2.nk+1:=by
      unfold BA.go;split
      · exact ⟨BA.kx (hl b (List.mem_cons_self ..)) h (by omega),hb⟩
      · exact ⟨h,by omega⟩
    obtain ⟨h2,h3⟩:=bRun_kx l (BA.go s b) h1.1 (by omega) (fun c hc=>hl c (List.mem_cons_of_mem _ hc));rw[bRun_cons,Y4];exact ⟨h2,by omega⟩
theorem rgE_n:∀{fs:List Fld} {v:List Int} {i:Nat} {f:Fld},rgE fs v→v.length=fs.length→fs[i]?=some f→f.rg (v.getD i 0)
  | [],v,i,f,_,_,h=>by simp at h
  | g::fs,[],i,f,_,hl,h=>by simp at hl
  | g::fs,x::v,0,f,hr,hl,h=>by simp at h;subst h;exact hr.1
  | g::fs,x::v,i+1,f,hr,hl,h=>by
    have:=rgE_n (i:=i) hr.2 (by simpa using hl) (by simpa using h)
    simpa using this
theorem El.rgn{fs:List Fld}(e:El fs){i:Nat}{f:Fld}(h:fs[i]?=some f):f.rg (e.n i):=rgE_n e.rg e.len h
theorem aO_ok(l:List (Int×Int))(i:Nat)(e:El fsO):(aO l i e).ok:=e.rgn (i:=1) (f:=.two) rfl
theorem aP_ok(e:El fsP):(aP e).ok:=by
 have h1:Fld.two.rg (e.n 4):=e.rgn rfl
 have h2:Fld.w4.rg (e.n 5):=e.rgn rfl
 have h3:Fld.w4.rg (e.n 6):=e.rgn rfl
 simp only[Fld.rg,RgI]at h1 h2 h3;exact ⟨by unfold i64R;dsimp only;omega,by unfold u64R;dsimp only;omega,by unfold u64R;dsimp only;omega⟩
theorem aM_ok{o:List (El fsO)}{tb:Bool}{e:El fsM}:∀b,b∈aM o tb e→b.ok:=by
 intro b hb;unfold aM at hb
 split at hb
 ·
  exact (List.not_mem_nil hb).elim
 ·
  rw[List.mem_singleton]at hb;subst hb
  split
  ·
   trivial
  ·
   exact e.rgn (i:=2) (f:=.two) rfl
theorem aF_ok(o:List (El fsO))(l:List (Int×Int))(e:El fsF):(aF o l e).ok:=by
 unfold aF
 split
 ·
  trivial
 ·
  split
  ·
   trivial
  ·
   exact e.rgn (i:=2) (f:=.w8) rfl
theorem aT_ok(o:List (El fsO))(e:El fsT):(aT o e).ok:=by
 unfold aT
 split
 ·
  trivial
 ·
  split <;> trivial
theorem acts_ok(D:Dd)(l:List (Int×Int)):∀b,b∈actsD D l→b.ok:=by
 intro b hb;unfold actsD at hb;simp only[List.mem_append]at hb
 rcases hb with hb | hb | hb | hb | hb | hb | hb | hb
 ·
  obtain ⟨i,e,_,rfl⟩:=mem_mapIdx' hb;exact aO_ok ..
 ·
  obtain ⟨e,_,rfl⟩:=List.mem_map.1 hb;exact aP_ok ..
 ·
  obtain ⟨e,_,he⟩:=List.mem_flatMap.1 hb;exact aM_ok b he
 ·
  obtain ⟨e,_,he⟩:=List.mem_flatMap.1 hb;exact aM_ok b he
 ·
  obtain ⟨e,_,rfl⟩:=List.mem_map.1 hb;exact aF_ok ..
 ·
  obtain ⟨e,_,rfl⟩:=List.mem_map.1 hb;exact aT_ok ..
 ·
  obtain ⟨e,_,rfl⟩:=List.mem_map.1 hb;trivial
 ·
  obtain ⟨e,_,rfl⟩:=List.mem_map.1 hb;trivial
structure DSmall (D:Dd):Prop where
  o:D.o.length≤2^11
  p:D.p.length≤2^11
  m:D.m.length≤2^11
  f:D.f.length≤2^11
  t:D.t.length≤2^11
  w:D.w.length≤2^11
  s:D.s.length≤2^11
theorem aM_len(o:List (El fsO))(tb:Bool)(l:List (El fsM)):(l.flatMap (aM o tb)).length≤l.length:=by
 induction l with
 | nil=>simp
 | cons e l ih =>
  rw[List.flatMap_cons,Y3,Y4];have:(aM o tb e).length≤1:=by unfold aM; split <;> simp
  omega
theorem acts_len{D:Dd}(h:DSmall D)(l:List (Int×Int)):(actsD D l).length<2^17:=by
 obtain ⟨h1,h2,h3,h4,h5,h6,h7⟩:=h;have a1:=aM_len D.o true D.m
 have a2:=aM_len D.o false D.m
 unfold actsD;simp only[Y3,List.length_map,List.length_mapIdx];omega
theorem new_nk(n:Nat)(T:Ones):(Kn.new n T).nk=0:=rfl
theorem acts_kx{D:Dd}(h:DSmall D){l:List (Int×Int)}{n:Nat}{T:Ones}(h1:64≤n)(h2:n≤65536)(hT:tmsOk T){a b:List BA}(hab:actsD D l=a++b):KX (bRun (0,Kn.new n T) a).2:=by
 have hl:=acts_len h l
 have hok:=acts_ok D l
 rw[hab]at hl hok;rw[Y3]at hl;exact (bRun_kx a _ (new_kx h1 h2 hT) (by rw[new_nk];omega) (fun c hc=>hok c (List.mem_append_left _ hc))).1
end
end Go.Proofs.YtmoeokkelkgnhaaGreat
