/- Lemmas for the statement. -/
import Derived.Test.YtlgcfimhfmgkmaaGreatDoorMBK
import Derived.Test.YtlgcfimhfmgkmaaGreatDoorMBL
set_option linter.unusedVariables false
set_option linter.unusedSimpArgs false
namespace Go.Proofs.YtlgcfimhfmgkmaaGreatDoor
open Go.RowKit
section
set_option maxRecDepth 100000 in
set_option maxHeartbeats 8000000 in
theorem Zqr (Y:SI) (w:World) (hg:Y.g=w.heap.size) (hT:Tabs w) (hL:Zy w Y.LA Y.ln Y.lc Y.s.log) (hI:ZG 3 It.ints w Y.IA Y.iN Y.s.items) (hA:Zj w Y.A Y.n Y.c Y.es) (hak:Y.s.acked≤9223372036854775807) (hic:Y.IA=none→Y.iN=0∧Y.ic=0) (hes:∀ r,r∈Y.s.log→r.es.length≤12) (hn:Y.es.length≤12) :
  Calls Tryz.prog 13 #[.agg #[.int .i64 Y.s.cl,.int .i64 Y.s.next,.int .i64 Y.s.acked,.slice Y.LA Y.ln Y.lc,.slice Y.IA Y.iN Y.ic],.agg #[.int .i64 Y.t,.slice Y.A Y.n Y.c],.int .i64 Y.size] w fun e w'=>∃ v,e=.returned v∧Zfx w w' Y.s Y.t Y.size Y.es v:=by
 have hmx:Tryz.prog.follows .mixedOrders=true:=by kernel_rfl
 obtain ⟨w1,e1,hE1,hb1⟩:∃ W,W=(((w.alloc (.cells #[.int .i64 Y.s.cl,.int .i64 Y.s.next,.int .i64 Y.s.acked,.slice Y.LA Y.ln Y.lc,.slice Y.IA Y.iN Y.ic] 33 (0,0))).alloc (.cells #[.int .i64 Y.t,.slice Y.A Y.n Y.c] 24 (0,0))).alloc (.cells #[.int .i64 Y.size] 3 (0,0))).alloc ZR∧SE W Y∧Below w.heap.size w W:=by
  refine ⟨_,rfl,?_,Zjk w _ _ _ _⟩
  have hb:=Zjk w (.cells #[.int .i64 Y.s.cl,.int .i64 Y.s.next,.int .i64 Y.s.acked,.slice Y.LA Y.ln Y.lc,.slice Y.IA Y.iN Y.ic] 33 (0,0)) (.cells #[.int .i64 Y.t,.slice Y.A Y.n Y.c] 24 (0,0)) (.cells #[.int .i64 Y.size] 3 (0,0)) ZR
  refine ⟨hT.below hb,hL.below hb,hI.below hb,hA.below hb,?_,?_,?_,?_⟩<;>rw [hg]
  ·exact Zqm w _ _ _ _
  ·exact Zqn w _ _ _ _
  ·exact Zqo w _ _ _ _
  ·exact Zqp w _ _ _ _
 obtain ⟨R,eR⟩:∃ R,R=YU Y.s:=⟨_,rfl⟩
 obtain ⟨V,eV⟩:∃ V,V=Zl Y.t Y.es:=⟨_,rfl⟩
 have F1:=ZiD Y.s.cl Y.s.next Y.s.acked Y.s.log Y.s.items Y.LA Y.IA Y.ln Y.lc Y.iN Y.ic w1 hE1.T hE1.L hE1.I hak
 have F2:∀ W,Below w1.heap.size w1 W→_:=fun W hb=>Qd Y.t Y.A Y.n Y.c Y.es W (hE1.T.below hb) (hE1.A.below hb)
 rw [show YU ⟨Y.s.cl,Y.s.next,Y.s.acked,Y.s.log,Y.s.items⟩=R from eR.symm] at F1
 rw [←eV] at F2
 obtain ⟨f0,f1,f2,f3,f4⟩:=ce5 hE1.hs
 have H:=Qh (Qi (Qi hE1 hb1) (Qi (Qi hic hes) (Qi hn (Qi eR eV))))
 have HG:=Qh hg
 clear hE1 hb1 hT hL hI hA hak hic hes hn eR eV
 unfold ZR at e1
 have HW1:=Qh e1
 clear e1 hg
 go_enter Tryz.func13,Tryz.ntmps13
 go_upto_region 1 with fail
 rw [←HW1.out,←HG.out]
 clear HW1
 go_cut [23] (fun v wx=>v=.bool (!R || !V || decide (Y.size<400) || decide (1200<Y.size))∧Below w1.heap.size w1 wx)
 case first=>
  rcases R with _ | _
  ·go_wp2_with (go_at_call 21;refine F1.mono ?_;rintro e w2 ⟨rfl,hb2⟩;have H2:=Qh hb2;clear hb2)
   go_meet
   exact ⟨rfl,H2.out⟩
  rcases V with _ | _
  ·go_wp2_with (first
    | (go_at_call 21;refine F1.mono ?_;rintro e w2 ⟨rfl,hb2⟩;have k0:w2.cell? ⟨Y.g+1,0,none⟩=some (.int .i64 Y.t):=Za ((hb2.block _ (lt_of_block H.out.1.1.hw)).trans H.out.1.1.hw) 0 _ rfl;have k1:w2.cell? ⟨Y.g+1,1,none⟩=some (.slice Y.A Y.n Y.c):=Za ((hb2.block _ (lt_of_block H.out.1.1.hw)).trans H.out.1.1.hw) 1 _ rfl;have H2:=Qh hb2;clear hb2)
    | (go_at_call 9;refine (F2 _ H2.out).mono ?_;rintro e w3 ⟨rfl,hb3⟩;have H3:=Qh (Ze H2.out hb3);clear hb3))
   go_meet
   exact ⟨rfl,H3.out⟩
  obtain ⟨D1,eD1⟩:∃ D,D=decide (Y.size<400):=⟨_,rfl⟩
  obtain ⟨D2,eD2⟩:∃ D,D=decide (1200<Y.size):=⟨_,rfl⟩
  have d1:=eD1.symm
  have d2:=eD2.symm
  clear eD1 eD2
  rcases D1 with _ | _<;>rcases D2 with _ | _
  all_goals
   go_wp2_with (first
    | (go_at_call 21;refine F1.mono ?_;rintro e w2 ⟨rfl,hb2⟩;have k0:w2.cell? ⟨Y.g+1,0,none⟩=some (.int .i64 Y.t):=Za ((hb2.block _ (lt_of_block H.out.1.1.hw)).trans H.out.1.1.hw) 0 _ rfl;have k1:w2.cell? ⟨Y.g+1,1,none⟩=some (.slice Y.A Y.n Y.c):=Za ((hb2.block _ (lt_of_block H.out.1.1.hw)).trans H.out.1.1.hw) 1 _ rfl;have H2:=Qh hb2;clear hb2)
    | (go_at_call 9;refine (F2 _ H2.out).mono ?_;rintro e w3 ⟨rfl,hb3⟩;have H3:=Qh (Ze H2.out hb3);have k2:w3.cell? ⟨Y.g+2,0,none⟩=some (.int .i64 Y.size):=Za ((H3.out.block _ (lt_of_block H.out.1.1.hz)).trans H.out.1.1.hz) 0 _ rfl;clear hb3))
   go_meet
   exact ⟨by rw [d1,d2];rfl,H3.out⟩
 case rest=>
 obtain ⟨rfl,hb2⟩:=hcut
 obtain ⟨w2,e2⟩:∃ W,W=wc:=⟨_,rfl⟩
 rw [←e2] at hb2 ⊢
 clear e2 f0 f1 f2 f3 f4 F1 F2
 have hE2:=H.out.1.1.below hb2
 obtain ⟨B,eB⟩:∃ B,B=(!R || !V || decide (Y.size<400) || decide (1200<Y.size)):=⟨_,rfl⟩
 rw [←eB]
 have HSB:=Qh (show JX Y.s Y.t Y.size Y.es=B from by rw [eB,H.out.2.2.2.1,H.out.2.2.2.2];rfl)
 have hbw:Below w.heap.size w w2:=Ze H.out.1.2 hb2
 have HBW:=Qh hbw
 have HE2:=Qh hE2
 have HG3:=Qh (show w.heap.size≤Y.g+3 from by have:=HG.out;omega)
 clear eB hb2 hbw hE2
 rcases B with _ | _
 rotate_left
 ·
  have hr2:=HE2.out.hr
  have hfz:=fun i=>Zd hr2 i
  obtain ⟨z0,z1,z2,z3,z4⟩:=ce5 hr2
  have HR2:=Qh hr2
  clear hr2
  go_wp2_with fail
  refine bodyPost_ret (Za9 rfl _ _ (Y.g+3) _ rfl rfl (Yk (.int .i64 0) (.int .i64 0) (.int .i64 0) (.slice none 0 0) (.slice none 0 0) HR2.out)) rfl ?_
  exact ⟨_,rfl,.inl ⟨HSB.out,rfl,Yl _ _ _ _ _ HBW.out HG3.out⟩⟩
 have HP:=Qh (Zfz HSB.out)
 have f1:w2.cell? ⟨Y.g,1,none⟩=some (.int .i64 Y.s.next):=Za HE2.out.hs 1 _ rfl
 by_cases hnx:1073741824<Y.s.next
 ·have d1:decide (1073741824<Y.s.next)=true:=decide_eq_true hnx
  have HNX:=Qh hnx
  clear hnx
  have hr2:=HE2.out.hr
  have hfz:=fun i=>Zd hr2 i
  obtain ⟨z0,z1,z2,z3,z4⟩:=ce5 hr2
  have HR2:=Qh hr2
  clear hr2
  go_wp2_with fail
  refine bodyPost_ret (Za9 rfl _ _ (Y.g+3) _ rfl rfl (Yk (.int .i64 0) (.int .i64 0) (.int .i64 0) (.slice none 0 0) (.slice none 0 0) HR2.out)) rfl ?_
  exact ⟨_,rfl,.inr (.inl ⟨HSB.out,HNX.out,rfl,Yl _ _ _ _ _ HBW.out HG3.out⟩)⟩
 have d1:decide (1073741824<Y.s.next)=false:=decide_eq_false hnx
 have HNX:=Qh (show Y.s.next≤1073741824 from by omega)
 clear hnx
 go_upto_region 5 with fail
 clear d1 f1
 have FV:=Znx Y.s.cl Y.t Y.A Y.n Y.c Y.es w2 HE2.out.T HE2.out.A HP.out.op (Zjd HP.out.va)
 obtain ⟨f0,f1⟩:=cs2 HE2.out.hw
 have f2:w2.cell? ⟨Y.g,0,none⟩=some (.int .i64 Y.s.cl):=Za HE2.out.hs 0 _ rfl
 obtain ⟨fs,efs⟩:∃ x,x=vwF Y.s Y.es:=⟨_,rfl⟩
 rw [show Ql Y.s.cl (Xa Y.s.cl Y.es) Y.es=fs from efs.symm] at FV
 have HFS:=Qh efs
 have HVV:=Qh (show Zl Y.t fs=true from by rw [efs];exact HP.out.vv)
 have HFL:=Qh (show fs.length≤12 from by rw [efs];exact Nat.le_trans (ZaV _ _ _) H.out.2.2.1)
 clear efs
 go_upto_region 6 with (go_at_call 12;refine FV.mono ?_;rintro e v3 ⟨VA,vn,vc,rfl,hV,hb3⟩;have H3:=Qh (Qi hV hb3);clear hV hb3)
 obtain ⟨w3,q9,ex,eq,hbx,hq⟩:=nm1 v3 (.cells #[.int .i64 Y.t,.slice VA vn vc] 24 (0,0))
 rw [←ex,←eq]
 clear ex eq
 have HB3:=Qh (Ze H3.out.2 hbx)
 have HE3:=Qh (HE2.out.below HB3.out)
 have Zqs:=Qh (Ze HBW.out HB3.out)
 have H9:=Qh (Qi hq (H3.out.1.below hbx))
 clear hq hbx f0 f1 f2 FV
 have FD:=ZdB Y.s.acked Y.LA Y.ln Y.lc Y.s.log w3 HE3.out.L
 have f0:w3.cell? ⟨Y.g,3,none⟩=some (.slice Y.LA Y.ln Y.lc):=Za HE3.out.hs 3 _ rfl
 have f1:w3.cell? ⟨Y.g,2,none⟩=some (.int .i64 Y.s.acked):=Za HE3.out.hs 2 _ rfl
 obtain ⟨r,er⟩:∃ x,x=bsF Y.s:=⟨_,rfl⟩
 rw [HP.out.fd,←er] at FD
 have HRR:=Qh er
 have HRV:=Qh (show Zl r.tick r.es=true from by rw [er];exact HP.out.bv)
 have HRL:=Qh (show r.es.length≤12 from by rw [er];exact ZfA HP.out H.out.2.1.2)
 clear er
 go_upto_region 7 with (go_at_call 45;refine FD.mono ?_;rintro e v4 ⟨r1,RA,rn,rc,b,rfl,hf,hb4⟩;have hr9:r1=r∧Zj v4 RA rn rc r.es:=(by rcases hf with ⟨h1,_,h3⟩|⟨h1,_⟩;injection h1 with h1;subst h1;exact ⟨rfl,h3⟩;cases h1);obtain ⟨er,Zjp⟩:=hr9;have er:=er.symm;subst er;have H4:=Qh (Qi Zjp hb4);clear Zjp hf hb4;unfold Zau)
 obtain ⟨w4,q11,ex,eq,hbx,hq⟩:=nm1 v4 (.cells #[.int .i64 r.num,.int .i64 r.base,.int .i64 r.tick,.slice RA rn rc] 45 (0,0))
 rw [←ex,←eq]
 clear ex eq
 have HB4:=Qh (Ze H4.out.2 hbx)
 have HE4:=Qh (HE3.out.below HB4.out)
 have Zqt:=Qh (Ze Zqs.out HB4.out)
 have H9:=Qh (Qi ((HB4.out.block _ (lt_of_block H9.out.1)).trans H9.out.1) (H9.out.2.below HB4.out))
 have H11:=Qh (Qi hq (H4.out.1.below hbx))
 clear hq hbx f0 f1 FD
 have FG:=ZnF r.tick Y.t RA VA rn rc vn vc r.es fs w4 HE4.out.T H11.out.2 H9.out.2 HRV.out HVV.out
 have f0:w4.cell? ⟨q11,2,none⟩=some (.int .i64 r.tick):=Za H11.out.1 2 _ rfl
 have f1:w4.cell? ⟨q11,3,none⟩=some (.slice RA rn rc):=Za H11.out.1 3 _ rfl
 obtain ⟨f2,f3⟩:=cs2 H9.out.1
 obtain ⟨gone,ZfD⟩:∃ x,x=YL (Zw r.es fs):=⟨_,rfl⟩
 rw [←ZfD] at FG
 have HGO:=Qh (show gone=gnF Y.s Y.es from by rw [ZfD,HRR.out,HFS.out];rfl)
 have HGF:=Qh (show gone.length≤24∧∀ x,x∈gone→-9223372036854775808≤x∧x≤9223372036854775807 from by rw [HGO.out];exact Zqk HP.out H.out.2.1.2 H.out.2.2.1)
 clear ZfD
 go_upto_region 8 with (go_at_call 46;refine FG.mono ?_;rintro e v5 ⟨v,rfl,hown,hb5⟩;obtain ⟨GA,gc,rfl,hGI⟩:=JP hown rfl (by have:=HGF.out.1;omega) HGF.out.2;have H5:=Qh (Qi hGI (Qi (fun e=>Zfb hown e:GA=none→gone.length=0∧gc=0) hb5));clear hown hGI hb5)
 obtain ⟨w5,q13,ex,eq,hbx,hq⟩:=nm1 v5 (.cells #[.slice GA gone.length gc] 48 (0,0))
 rw [←ex,←eq]
 clear ex eq
 have HB5:=Qh (Ze H5.out.2.2 hbx)
 have HE5:=Qh (HE4.out.below HB5.out)
 have Zqu:=Qh (Ze Zqt.out HB5.out)
 have H9:=Qh (Qi ((HB5.out.block _ (lt_of_block H9.out.1)).trans H9.out.1) (H9.out.2.below HB5.out))
 have H11:=Qh (Qi ((HB5.out.block _ (lt_of_block H11.out.1)).trans H11.out.1) (H11.out.2.below HB5.out))
 have H13:=Qh (Qi hq (Qi (H5.out.1.below hbx) H5.out.2.1))
 clear hq hbx f0 f1 f2 f3 FG
 have FC:=ZnG r.tick Y.t RA VA rn rc vn vc r.es fs w5 HE5.out.T H11.out.2 H9.out.2 HRV.out HVV.out
 obtain ⟨ids,ZfE⟩:∃ x,x=ZO (Zw r.es fs):=⟨_,rfl⟩
 rw [←ZfE] at FC
 have HID:=Qh (show ids=idF Y.s Y.es from by rw [ZfE,HRR.out,HFS.out];rfl)
 have HIF:=Qh (show ids.length≤24∧∀ x,x∈ids→-9223372036854775808≤x∧x≤9223372036854775807 from by rw [HID.out];exact Zql HP.out H.out.2.1.2 H.out.2.2.1)
 clear ZfE
 have f0:w5.cell? ⟨q11,2,none⟩=some (.int .i64 r.tick):=Za H11.out.1 2 _ rfl
 have f1:w5.cell? ⟨q11,3,none⟩=some (.slice RA rn rc):=Za H11.out.1 3 _ rfl
 obtain ⟨f2,f3⟩:=cs2 H9.out.1
 go_upto_region 9 with (go_at_call 15;refine FC.mono ?_;rintro e w6 ⟨v,rfl,hown,hb6⟩;obtain ⟨CA,cc,rfl,hIC⟩:=JP hown rfl (by have:=HIF.out.1;omega) HIF.out.2;have H6:=Qh (Qi hIC hb6);clear hown hIC hb6)
 clear f0 f1 f2 f3 FC
 have HE6:=Qh (HE5.out.below H6.out.2)
 have Zqv:=Qh (Ze Zqu.out H6.out.2)
 have H9:=Qh (Qi ((H6.out.2.block _ (lt_of_block H9.out.1)).trans H9.out.1) (H9.out.2.below H6.out.2))
 have H11:=Qh (Qi ((H6.out.2.block _ (lt_of_block H11.out.1)).trans H11.out.1) (H11.out.2.below H6.out.2))
 have H13:=Qh (Qi ((H6.out.2.block _ (lt_of_block H13.out.1)).trans H13.out.1) (Qi (H13.out.2.1.below H6.out.2) H13.out.2.2))
 have FW:=Zp3 Y.t Y.s.cl VA CA GA vn vc ids.length cc gone.length gc fs ids gone w6 H9.out.2 H6.out.1 H13.out.2.1 (Zjd HVV.out) (by have h:=H9.out.2.len;have:=HFL.out;omega)
 obtain ⟨f0,f1⟩:=cs2 H9.out.1
 have f2:w6.cell? ⟨Y.g,0,none⟩=some (.int .i64 Y.s.cl):=Za HE6.out.hs 0 _ rfl
 have f3:w6.cell? ⟨q13,0,none⟩=some (.slice GA gone.length gc):=Za H13.out.1 0 _ rfl
 obtain ⟨ws,ews⟩:∃ x,x=Jz Y.s.cl fs ids gone:=⟨_,rfl⟩
 rw [←ews] at FW
 have HWS:=Qh (show ws=wtF Y.s Y.es from by rw [ews,HID.out,HGO.out,HFS.out];rfl)
 have HWL:=Qh (show ws.length≤12 from by rw [ews];exact Nat.le_trans (Zp9 _ _ _ _) HFL.out)
 clear ews
 go_upto_region 10 with (go_at_call 47;refine FW.mono ?_;rintro e v7 ⟨OA,oc,rfl,hSW⟩;have hWI:=Zqi hSW.head (by have:=HWL.out;omega);have H7:=Qh (Qi hWI hSW.bel);clear hSW hWI)
 obtain ⟨w7,q17,ex,eq,hbx,hq⟩:=nm1 v7 (.cells #[.slice OA ws.length oc] 101 (0,0))
 rw [←ex,←eq]
 clear ex eq
 have HB7:=Qh (Ze H7.out.2 hbx)
 have Zbb:=hq
 have HE7:=Qh (HE6.out.below HB7.out)
 have ZdQ:=Qh (Ze Zqv.out HB7.out)
 have H9:=Qh (Qi ((HB7.out.block _ (lt_of_block H9.out.1)).trans H9.out.1) (H9.out.2.below HB7.out))
 have H11:=Qh (Qi ((HB7.out.block _ (lt_of_block H11.out.1)).trans H11.out.1) (H11.out.2.below HB7.out))
 have H13:=Qh (Qi ((HB7.out.block _ (lt_of_block H13.out.1)).trans H13.out.1) (Qi (H13.out.2.1.below HB7.out) H13.out.2.2))
 have hWI:=H7.out.1.below hbx
 clear hq hbx f0 f1 f2 f3 FW
 have f0:w7.cell? ⟨q17,0,none⟩=some (.slice OA ws.length oc):=Za Zbb 0 _ rfl
 obtain ⟨X,eX⟩:∃ X,X=plX Y.s Y.t Y.size Y.es:=⟨_,rfl⟩
 have FT:∀ (j:Nat) (W:World),Below w7.heap.size w7 W→j≤ws.length→Calls Tryz.prog 48 #[.int .i64 (j:Nat),.pointer (some ⟨Y.g,0,none⟩),.pointer (some ⟨q17,0,none⟩),.pointer (some ⟨q11,0,none⟩),.pointer (some ⟨q9,0,none⟩),.pointer (some ⟨q13,0,none⟩),.pointer (some ⟨Y.g+2,0,none⟩)] W fun e w'=>ZbJ W w' X j e:=by
  intro j W hb hj
  have E0:TE w7 ⟨Y.g,q17,q11,q9,q13,Y.g+2,Y.s,Y.LA,Y.ln,Y.lc,Y.IA,Y.iN,Y.ic,OA,ws.length,oc,ws,r,RA,rn,rc,Y.t,VA,vn,vc,fs,GA,gone.length,gc,gone,Y.size⟩:=
   ⟨HE7.out.T,HE7.out.hs,Zbb,H11.out.1,H9.out.1,H13.out.1,HE7.out.hz,HE7.out.L,HE7.out.I,hWI,H11.out.2,H9.out.2,H13.out.2.1⟩
  have hln:Y.ln≤33:=by rw [HE7.out.L.len];exact HP.out.ok.ln
  refine (Zqq ⟨Y.g,q17,q11,q9,q13,Y.g+2,Y.s,Y.LA,Y.ln,Y.lc,Y.IA,Y.iN,Y.ic,OA,ws.length,oc,ws,r,RA,rn,rc,Y.t,VA,vn,vc,fs,GA,gone.length,gc,gone,Y.size⟩ j W (E0.below hb) ⟨HP.out.ok.it,by rw [HWS.out];exact HP.out.wr,HRV.out,HVV.out,by show Y.ln≤34;omega,fun r hr=>by have:=H.out.2.1.2 r hr;omega,HRL.out,H13.out.2.2,⟨by show Y.iN≤1000000;have h:=HE7.out.I.len;have:=(Zcd HP.out.ok.it).1;omega,H.out.2.1.1⟩,⟨by have:=HP.out.ok.nx;show 0≤Y.s.next;omega,HNX.out⟩,HP.out.ok.ak,⟨by have:=HP.out.sz;show 0≤Y.size;omega,HP.out.sz.2⟩,by show gone.length≤1000;have:=HGF.out.1;omega⟩ (by have:=HWL.out;omega) ?_).mono (fun e w' h=>by rw [eX];exact h.plain rfl HWS.out HRR.out rfl HFS.out HGO.out rfl)
  have h:=merge_le ((YT Y.s.items ws j).map (idS ws)) HRV.out HVV.out
  show (XR r.es fs (gone++(YT Y.s.items ws j).map (idS ws))).length≤12
  rw [show gone=YL (Zw r.es fs) from by rw [HGO.out,HRR.out,HFS.out];rfl]
  exact Nat.le_trans h HFL.out
 have HFT:=Qh FT
 have HX:=Qh eX
 have HRS:=Qh (show ∀ j,YU (Xz X j)=true from fun j=>by rw [eX];exact Zjj HP.out HNX.out H.out.2.2.1 j)
 obtain ⟨m,em⟩:∃ m,m=ws.length:=⟨_,rfl⟩
 have HM:=Qh (show m≤12∧m=ws.length∧m=(wtF Y.s Y.es).length from ⟨by rw [em];exact HWL.out,em,by rw [em,HWS.out]⟩)
 rw [←em] at f0
 clear Zbb hWI FT em eX
 go_wp2_with fail
 clear f0
 go_loopg [19] (m+1) (fun gh iv wr=>∃ k:Int,iv=.int .i64 k∧k+1=(gh:Nat)∧gh≤m+1∧(∀ j,gh≤j→j≤m→¬ Qr X j)∧Below w7.heap.size w7 wr)
 case atStart=>exact ⟨(m:Int),rfl,by omega,Nat.le_refl _,fun j h1 h2=>by omega,Below.refl _ _⟩
 case round=>
  obtain ⟨k,rfl,hk,hgm,hno,hbr⟩:=hrel
  obtain ⟨W,eW⟩:∃ W,W=wr:=⟨_,rfl⟩
  rw [←eW] at hbr ⊢
  clear eW
  have HBR:=Qh hbr
  have HER:=Qh (HE7.out.below hbr)
  by_cases hk0:0≤k
  rotate_left
  ·have d0:decide (0≤k)=false:=decide_eq_false hk0
   have HNO:=Qh (show ∀ j,j≤m→¬ Qr X j from fun j hj=>hno j (by omega) hj)
   clear hk hgm hno hbr hk0
   have hr2:=HER.out.hr
   have hfz:=fun i=>Zd hr2 i
   obtain ⟨z0,z1,z2,z3,z4⟩:=ce5 hr2
   have HR2:=Qh hr2
   clear hr2
   go_wp2_with fail
   refine bodyPost_ret (Za9 rfl _ _ (Y.g+3) _ rfl rfl (Yk (.int .i64 0) (.int .i64 0) (.int .i64 0) (.slice none 0 0) (.slice none 0 0) HR2.out)) rfl ?_
   exact ⟨_,rfl,.inr (.inr ⟨⟨HSB.out,HNX.out⟩,.inr ⟨fun j hj=>by rw [←HX.out];exact HNO.out j (by rw [HM.out.2.2];exact hj),rfl,Yl _ _ _ _ _ (Ze ZdQ.out HBR.out) HG3.out⟩⟩)⟩
  obtain ⟨j,rfl⟩:∃ j:Nat,k=(j:Int):=⟨k.toNat,by omega⟩
  have d0:decide (0≤(j:Int))=true:=decide_eq_true hk0
  have HJ:=Qh (show j≤m∧(∀ i,j<i→i≤m→¬ Qr X i) from ⟨by omega,fun i h1 h2=>hno i (by omega) h2⟩)
  have HK:=Qh hk
  clear hk hgm hno hbr hk0
  by_cases hfit:Qr X j
  rotate_left
  ·have HF:=Qh hfit
   clear hfit
   go_upto_region 15 with (go_at_call 48;refine (HFT.out j W HBR.out (by have:=HJ.out.1;have:=HM.out.2.1;omega)).mono ?_;rintro e V h;rcases h with ⟨_,rfl,hb2⟩|⟨h,_⟩;rotate_left;exact absurd h HF.out;unfold Za7;have H2:=Qh hb2;clear hb2)
   obtain ⟨W2,q,ex,eq,hbx,hq⟩:=nm1 V (ZR)
   unfold ZR at ex;rw [←ex,←eq]
   clear ex eq
   have HBX:=Qh (Ze HBR.out (Ze H2.out hbx))
   clear hq hbx d0
   have HU:=Qh (show wrap64 ((j:Int)-1)=(j:Int)-1 from Zn _ (by omega) (by have:=HJ.out.1;have:=HM.out.1;omega))
   go_wp2_with fail
   go_roundg j
   case measure=>have:=HK.out;omega
   case rel=>exact ⟨(j:Int)-1,by rw [HU.out],by omega,by have:=HJ.out.1;omega,fun i h1 h2=>by rcases Nat.lt_or_eq_of_le h1 with h1 | h1;exact HJ.out.2 i h1 h2;rw [←h1];exact HF.out,HBX.out⟩
  ·have HF:=Qh hfit
   clear hfit
   go_upto_region 15 with (go_at_call 48;refine (HFT.out j W HBR.out (by have:=HJ.out.1;have:=HM.out.2.1;omega)).mono ?_;rintro e V h;rcases h with ⟨h,_⟩|⟨_,v,pv,B,rfl,hS,hp,hbN⟩;exact absurd HF.out (by unfold Qr;omega);obtain ⟨LA,IA,ln,lc,iN,ic,rfl,hSV⟩:=hS;have hS2:Xy w7.heap.size V (Xz X j) (.agg #[.int .i64 (Xz X j).cl,.int .i64 (Xz X j).next,.int .i64 (Xz X j).acked,.slice LA ln lc,.slice IA iN ic]):=Xy.base (B:=W.heap.size) ⟨LA,IA,ln,lc,iN,ic,rfl,hSV⟩ HBR.out.size;have H2:=Qh (Qi hS2 (Qi (Qi hp.1 (show w7.heap.size≤B from by have:=HBR.out.size;have:=hp.2;omega)) hbN));clear hS2 hSV hp hbN)
   obtain ⟨W2,q,ex,eq,hbx,hq⟩:=nm1 V (.cells #[.int .i64 (Xz X j).cl,.int .i64 (Xz X j).next,.int .i64 (Xz X j).acked,.slice LA ln lc,.slice IA iN ic] 33 (0,0))
   rw [←ex,←eq]
   clear ex eq
   have hS:=H2.out.1.below hbx
   have hp:=Qi (Y3 H2.out.2.1.1 hbx) H2.out.2.1.2
   have hbx:=Ze HBR.out (Ze H2.out.2.2 hbx)
   clear d0
   have HE2:=Qh (HE7.out.below hbx)
   obtain ⟨a0,ea0⟩:∃ x,x=(Xz X j).cl:=⟨_,rfl⟩
   obtain ⟨a1,ea1⟩:∃ x,x=(Xz X j).next:=⟨_,rfl⟩
   obtain ⟨a2,ea2⟩:∃ x,x=(Xz X j).acked:=⟨_,rfl⟩
   rw [←ea0,←ea1,←ea2] at hq hS
   obtain ⟨q0,q1,q2,q3,q4⟩:=ce5 hq
   have hr2:=HE2.out.hr
   have hfz:=fun i=>Zd hr2 i
   obtain ⟨z0,z1,z2,z3,z4⟩:=ce5 hr2
   have HR2:=Qh hr2
   have HS:=Qh (Qi hS (Qi hp hbx))
   clear hr2 hq hS hp hbx ea0 ea1 ea2
   go_wp2_with fail
   refine bodyPost_ret (Za9 rfl _ _ (Y.g+3) _ rfl rfl (Yk (.int .i64 a0) (.int .i64 a1) (.int .i64 a2) (.slice LA ln lc) (.slice IA iN ic) HR2.out)) rfl ?_
   have hg7:=Zh HE7.out.hr
   have hz7:=ZdQ.out.size
   refine ⟨.tuple #[.agg #[.int .i64 a0,.int .i64 a1,.int .i64 a2,.slice LA ln lc,.slice IA iN ic],pv,.int .i64 0],rfl,.inr (.inr ⟨⟨HSB.out,HNX.out⟩,.inl ⟨j,.agg #[.int .i64 a0,.int .i64 a1,.int .i64 a2,.slice LA ln lc,.slice IA iN ic],pv,B,?_⟩⟩)⟩
   rw [←HX.out,←HM.out.2.2]
   exact ⟨⟨HF.out,HJ.out⟩,rfl,Xy.base (HS.out.1.keepQ (HRS.out j) (Zh HR2.out) (Zqj HR2.out) (fun b _ hb=>Xn _ _ _ _ _ _ _ hb) (Yl (B:=0) _ _ _ _ _ (Below.refl _ _) (Nat.zero_le _)).size) ZdQ.out.size,⟨XW HS.out.2.1.1 (fun b hb=>Xn _ _ _ _ _ _ _ (by have:=(Yg HS.out.2.1.1 hb).2;have:=HS.out.2.1.2;omega)),by have:=HS.out.2.1.2;omega⟩,Yl _ _ _ _ _ (Ze ZdQ.out HS.out.2.2) HG3.out⟩
end
end Go.Proofs.YtlgcfimhfmgkmaaGreatDoor
