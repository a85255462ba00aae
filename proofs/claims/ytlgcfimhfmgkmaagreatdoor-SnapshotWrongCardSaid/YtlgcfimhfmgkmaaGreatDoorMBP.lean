/- Lemmas for the statement. -/
import Derived.Test.YtlgcfimhfmgkmaaGreatDoorMBO
set_option linter.unusedVariables false
set_option linter.unusedSimpArgs false
namespace Go.Proofs.YtlgcfimhfmgkmaaGreatDoor
open Go.RowKit
section
theorem Tq33 {p:Prop} (h:p:=by
 have hb:=Zab w (.cells #[.int .i64 Y.r.base,.int .i64 Y.r.last,.slice Y.LA Y.ln Y.lc] 38 (0,0)) (.cells #[.int .i64 0,.int .i64 0,.slice none 0 0] 38 (0,0)) (.cells #[.int .i64 0,.slice none 0 0] 24 (0,0))
 refine ⟨_,rfl,⟨hT.below hb,hL.below hb,ZdJ hP hb,?_,?_,?_⟩,hb⟩<;>rw [hg]
 ·exact Zbp w _ _ _
 ·exact Zbq w _ _ _
 ·exact ZaQ w _ _ _):p:=h
theorem Tq21 {p:Prop} (h:p:=by
 refine Zi 13 rfl (fun K hK=>?_)
 have hq:=HQ.out.1
 obtain ⟨y0,y1,y2⟩:=cs3 hq
 have y3:=Zd hq 0
 have y4:=Zd hq 1
 have y5:=Zd hq 2
 clear hq
 go_simp
 refine hK _ _ ?_;clear hK K
 refine ⟨Or.inl (by kernel_rfl),?_⟩
 refine ZX (by kernel_rfl) ?_ _
 try clear HC
 go_wp2_with fail
 go_meet
 clear y0 y1 y2 y3 y4 y5
 exact ⟨q,OA,oc,ls,_,rfl,HLS.out,Ses.objSet (i:=2) (.slice OA ls.length oc) (Ses.objSet (i:=1) (.int .i64 ml) (Ses.objSet (i:=0) (.int .i64 mb) HS.out))⟩):p:=h
theorem Tq18 {p:Prop} (h:p:=by
 refine Zi 9 rfl (fun K hK=>?_)
 have hq:=HQ.out.1
 obtain ⟨y0,y1⟩:=cs2 hq
 have y2:=Zd hq 0
 have y3:=Zd hq 1
 clear hq
 go_simp
 refine hK _ _ ?_;clear hK K
 refine ⟨Or.inl (by kernel_rfl),?_⟩
 refine tkq 10 rfl ?_
 refine ZX (by kernel_rfl) ?_ _
 try clear HC
 go_wp2_with fail
 go_meet
 clear y0 y1 y2 y3
 exact ⟨q,VA,vn,vc,rfl,rfl,Yw _ _ HQ.out.1,HR.out.keepQ (fun e he=>(Z4 HCD.out.2.1 e he).1) (Zfy HQ.out.1) (fun b _ hb=>YE _ _ _ _ hb),HQ.out.2,YB _ _ HB.out HQ.out.2⟩):p:=h
theorem Tq14 {p:Prop} (h:p:=by
 go_upto_region 2 with (go_at_call 23;refine F1.mono ?_;rintro e w2 ⟨rfl,hb2⟩;have H2:=Qh hb2;clear hb2)
 clear f0 f1 f2 F1
 have HE2:=Qh (H.out.1.below H2.out)
 have hz:=HE2.out.hz
 have hw:=HE2.out.hw
 obtain ⟨z0,z1,z2⟩:=cs3 hz
 obtain ⟨y0,y1⟩:=cs2 hw
 have hfz:=fun i=>Zd hz i
 have hfw:=fun i=>Zd hw i
 have HZ:=Qh hz
 have HW:=Qh hw
 clear hz hw
 go_wp2_with fail
 refine bodyPost_ret (Zcv rfl _ _ (Y.g+1) (Y.g+2) _ _ rfl rfl rfl rfl (Zct (.int .i64 0) (.int .i64 0) (.slice none 0 0) (.int .i64 0) (.slice none 0 0) HZ.out) (Zcu (.int .i64 0) (.int .i64 0) (.slice none 0 0) (.int .i64 0) (.slice none 0 0) HW.out)) rfl ?_
 exact ⟨_,rfl,.inl ⟨2,ZqF HVV.out.symm,rfl,ZbL _ _ _ _ _ (Ze H.out.2 H2.out) HGL.out⟩⟩):p:=h
set_option maxRecDepth 100000 in
set_option maxHeartbeats 8000000 in
theorem ZqM (Y:RI) (t:Int) (fs:List Ent) (w:World) (hg:Y.g=w.heap.size) (hT:Tabs w) (hL:Zy w Y.LA Y.ln Y.lc Y.r.log) (hP:Z8 w (some ⟨Y.pb,Y.po,none⟩) Y.pn Y.f) (hpn:8≤Y.pn) (hpc:Y.pn≤Y.pc∧Y.pn≤1000000) (hf:∀ i,Y.f i<256) (hes:∀ x,x∈Y.r.log→x.es.length≤12) (hcode:ZqK Y t fs) :
  Calls Tryz.prog 14 #[.agg #[.int .i64 Y.r.base,.int .i64 Y.r.last,.slice Y.LA Y.ln Y.lc],.slice (some ⟨Y.pb,Y.po,none⟩) Y.pn Y.pc] w fun e w'=>∃ v,e=.returned v∧ZfF w w' Y.r Y.pn Y.f t fs v:=by
 have hmx:Tryz.prog.follows .mixedOrders=true:=by kernel_rfl
 obtain ⟨w1,e1,hE1,hb1⟩:∃ W,W=((w.alloc (.cells #[.int .i64 Y.r.base,.int .i64 Y.r.last,.slice Y.LA Y.ln Y.lc] 38 (0,0))).alloc (.cells #[.int .i64 0,.int .i64 0,.slice none 0 0] 38 (0,0))).alloc (.cells #[.int .i64 0,.slice none 0 0] 24 (0,0))∧RE W Y∧Below w.heap.size w W:=by
  exact Tq33
 obtain ⟨V,eV⟩:∃ V,V=XI Y.r:=⟨_,rfl⟩
 have F1:=Zjt Y.r.base Y.r.last Y.r.log Y.LA Y.ln Y.lc w1 hE1.T hE1.L
 rw [show XI ⟨Y.r.base,Y.r.last,Y.r.log⟩=V from eV.symm] at F1
 obtain ⟨f0,f1,f2⟩:=cs3 hE1.hr
 have HGL:=Qh (show w.heap.size≤Y.g from by rw [hg];exact Nat.le_refl _)
 have H:=Qh (Qi hE1 hb1)
 have HF:=Qh hf
 have HES:=Qh hes
 have HCO:=Qh hcode
 have HP8:=Qh hpn
 have HPC:=Qh hpc
 have HVV:=Qh eV
 have HG:=Qh hg
 have HW1:=Qh e1
 clear e1 hg hE1 hb1 hT hL hP hf hes hcode hpn hpc eV
 go_enter Tryz.func14,Tryz.ntmps14
 go_upto_region 1 with fail
 rw [←HW1.out,←HG.out]
 clear HW1
 rcases V with _ | _
 ·exact Tq14
 have d8:decide ((Y.pn:Int)<8)=false:=decide_eq_false (by have:=HP8.out;omega)
 go_upto_region 5 with (go_at_call 23;refine F1.mono ?_;rintro e w2 ⟨rfl,hb2⟩;have H2:=Qh hb2;clear hb2)
 clear f0 f1 f2 F1 d8
 have HV:=Qh HVV.out.symm
 have HE2:=Qh (H.out.1.below H2.out)
 have HB2:=Qh (Ze H.out.2 H2.out)
 obtain ⟨N,eN⟩:∃ N,N=n4 Y.f 0:=⟨_,rfl⟩
 obtain ⟨Mk,eM⟩:∃ Mk,Mk=n4 Y.f 4:=⟨_,rfl⟩
 have HN:=Qh eN
 have HM:=Qh eM
 clear eN eM
 have p0:(4:Int)≤(Y.pn:Int):=by have:=HP8.out;omega
 have p1:¬ Y.pc=4:=by have:=HP8.out;have:=HPC.out;omega
 have p2:(Y.pn:Int)≤(Y.pc:Int):=by have:=HPC.out;omega
 go_cut [7,8] (fun v7 v8 wx=>v7=.int .i64 ((N:Nat):Int)∧v8=.int .i64 ((Mk:Nat):Int)∧Below w2.heap.size w2 wx)
 case first=>
  obtain ⟨wd5,ed⟩:∃ W,W=w2.drew:=⟨_,rfl⟩
  have hbd:Below w2.heap.size w2 wd5:=by rw [ed];exact (Below.refl _ _).drew
  have HC:True:=trivial
  have HB:=Qh hbd
  have HD:=Qh ed
  clear hbd ed
  refine Yy (fun W=>True) 4 hmx ?_
  change Zz _ _ _ _ _ _ _ _ _ (World.drew _)
  rw [←HD.out]
  refine tkp 0 rfl (Or.inr HC) ?_
  refine tkp 2 rfl (Or.inr HC) ?_
  refine tkp 3 rfl (Or.inr HC) ?_
  refine Zi 1 rfl (fun K hK=>?_)
  go_simp
  refine (ZiK Y.pb Y.po _ _ (Y.f 0) (Y.f 1) (Y.f 2) (Y.f 3) (HF.out 0) (HF.out 1) (HF.out 2) (HF.out 3) (by have:=HP8.out;omega) wd5 (Qs (HE2.out.below HB.out).P (i:=0) (by have:=HP8.out;omega)) (Qs (HE2.out.below HB.out).P (i:=1) (by have:=HP8.out;omega)) (Qs (HE2.out.below HB.out).P (i:=2) (by have:=HP8.out;omega)) (Qs (HE2.out.below HB.out).P (i:=3) (by have:=HP8.out;omega))).mono ?_
  rintro e v51 ⟨rfl,hbN⟩
  have HB:=Qh (Ze HB.out hbN)
  clear hbN
  refine hK _ _ ?_;clear hK K
  refine ⟨Or.inr HC,?_⟩
  refine Zi 4 rfl (fun K hK=>?_)
  go_simp
  refine (ZiK Y.pb (Y.po+4) _ _ (Y.f 4) (Y.f 5) (Y.f 6) (Y.f 7) (HF.out 4) (HF.out 5) (HF.out 6) (HF.out 7) (by have:=HP8.out;omega) v51 (Qs (HE2.out.below HB.out).P (i:=4) (by have:=HP8.out;omega)) (Qs (HE2.out.below HB.out).P (i:=5) (by have:=HP8.out;omega)) (Qs (HE2.out.below HB.out).P (i:=6) (by have:=HP8.out;omega)) (Qs (HE2.out.below HB.out).P (i:=7) (by have:=HP8.out;omega))).mono ?_
  rintro e v52 ⟨rfl,hbN⟩
  have HB:=Qh (Ze HB.out hbN)
  clear hbN
  refine hK _ _ ?_;clear hK K
  refine ⟨Or.inl (by kernel_rfl),?_⟩
  refine tkq 5 rfl ?_
  refine tkq 6 rfl ?_
  refine ZX (by kernel_rfl) ?_ _
  try clear HC
  go_wp2_with fail
  go_meet
  exact ⟨by rw [HN.out];rfl,by rw [HM.out];rfl,HB.out⟩
 case rest=>
 obtain ⟨rfl,rfl,hb3⟩:=hcut
 obtain ⟨w3,e3⟩:∃ W,W=wc:=⟨_,rfl⟩
 rw [←e3] at hb3 ⊢
 have HE3:=Qh (HE2.out.below hb3)
 have HB3:=Qh (Ze HB2.out hb3)
 clear e3 hb3 p0 p1 p2
 obtain ⟨a,ea⟩:∃ a,a=decide ((N:Int)<1):=⟨_,rfl⟩
 obtain ⟨b,eb⟩:∃ b,b=decide ((1073741824:Int)<(N:Int)):=⟨_,rfl⟩
 obtain ⟨c,ec⟩:∃ c,c=decide ((N:Int)≤(Mk:Int)):=⟨_,rfl⟩
 have ZbM:=Qh (Qi ea (Qi eb ec))
 clear ea eb ec
 go_upto_region 6 with fail
 go_cut [43] (fun v wx=>v=.bool (a || b || c)∧wx=w3)
 case first=>
  have t1:decide ((N:Int)<1)=a:=ZbM.out.1.symm
  have t2:decide ((1073741824:Int)<(N:Int))=b:=ZbM.out.2.1.symm
  have t3:decide ((N:Int)≤(Mk:Int))=c:=ZbM.out.2.2.symm
  have t4:decide (N≤Mk)=c:=by rw [←t3];congr 1;exact propext (by omega)
  rcases a with _ | _<;>rcases b with _ | _<;>rcases c with _ | _
  all_goals
   go_wp2_with fail
   go_meet
   exact ⟨rfl,rfl⟩
 case rest=>
 obtain ⟨rfl,ewc⟩:=hcut
 rw [ewc]
 clear ewc
 obtain ⟨D,eD⟩:∃ D,D=(a || b || c):=⟨_,rfl⟩
 rw [←eD]
 have HDD:=Qh (show D=decide (N<1∨1073741824<N∨N≤Mk) from by
  rw [eD,ZbM.out.1,ZbM.out.2.1,ZbM.out.2.2]
  by_cases h1:N<1<;>by_cases h2:1073741824<N<;>by_cases h3:N≤Mk<;>simp [h1,h2,h3]<;>omega)
 clear eD
 rcases D with _ | _
 rotate_left
 ·
  have hz:=HE3.out.hz
  have hw:=HE3.out.hw
  obtain ⟨z0,z1,z2⟩:=cs3 hz
  obtain ⟨y0,y1⟩:=cs2 hw
  have hfz:=fun i=>Zd hz i
  have hfw:=fun i=>Zd hw i
  have HZ:=Qh hz
  have HW:=Qh hw
  clear hz hw
  go_wp2_with fail
  refine bodyPost_ret (Zcv rfl _ _ (Y.g+1) (Y.g+2) _ _ rfl rfl rfl rfl (Zct (.int .i64 0) (.int .i64 0) (.slice none 0 0) (.int .i64 0) (.slice none 0 0) HZ.out) (Zcu (.int .i64 0) (.int .i64 0) (.slice none 0 0) (.int .i64 0) (.slice none 0 0) HW.out)) rfl ?_
  exact ⟨_,rfl,.inl ⟨261,by rw [←HN.out,←HM.out];exact ZqG HV.out (by have:=HP8.out;omega) (of_decide_eq_true HDD.out.symm),rfl,ZbL _ _ _ _ _ HB3.out HGL.out⟩⟩
 have HR1:=Qh (of_decide_eq_false HDD.out.symm)
 have FN:=ZdB (N:Int) Y.LA Y.ln Y.lc Y.r.log w3 HE3.out.L
 have f0:w3.cell? ⟨Y.g,2,none⟩=some (.slice Y.LA Y.ln Y.lc):=Za HE3.out.hr 2 _ rfl
 go_upto_region 9 with (go_at_call 45;refine FN.mono ?_;rintro e v4 ⟨x1,RA1,rn1,rc1,bk,rfl,hf4,hb4⟩;have H4:=Qh (Qi hf4 hb4);clear hf4 hb4;unfold Zau)
 obtain ⟨w4,q9,ex,eq,hbx,hq⟩:=nm1 v4 (.cells #[.int .i64 x1.num,.int .i64 x1.base,.int .i64 x1.tick,.slice RA1 rn1 rc1] 45 (0,0))
 rw [←ex,←eq]
 clear ex eq
 have HB4:=Qh (Ze HB3.out (Ze H4.out.2 hbx))
 have HE4:=Qh (HE3.out.below (Ze H4.out.2 hbx))
 clear hq hbx f0 FN
 obtain ⟨dl,edl⟩:∃ d,d=decide ((N:Int)<Y.r.base):=⟨_,rfl⟩
 have f0:w4.cell? ⟨Y.g,0,none⟩=some (.int .i64 Y.r.base):=Za HE4.out.hr 0 _ rfl
 have HDL:=Qh edl
 clear edl
 go_cut [59] (fun v wx=>v=.bool (bk || dl)∧wx=w4)
 case first=>
  have t1:decide ((N:Int)<Y.r.base)=dl:=HDL.out.symm
  rcases bk with _ | _<;>rcases dl with _ | _
  all_goals
   go_wp2_with fail
   go_meet
   exact ⟨rfl,rfl⟩
 case rest=>
 obtain ⟨rfl,ewc⟩:=hcut
 rw [ewc]
 clear ewc f0
 obtain ⟨D,eD⟩:∃ D,D=(bk || dl):=⟨_,rfl⟩
 rw [←eD]
 have Zju:=Qh (show D=true↔((Z6 Y.r.log (N:Int)).isSome=true∨(N:Int)<Y.r.base) from by
  rw [eD,HDL.out,Bool.or_eq_true,decide_eq_true_eq]
  rcases H4.out.1 with ⟨h1,h2,_⟩|⟨h1,h2,_⟩
  ·rw [h1,h2];simp
  ·rw [h1,h2];simp)
 clear eD
 rcases D with _ | _
 rotate_left
 ·
  have hz:=HE4.out.hz
  have hw:=HE4.out.hw
  obtain ⟨z0,z1,z2⟩:=cs3 hz
  obtain ⟨y0,y1⟩:=cs2 hw
  have hfz:=fun i=>Zd hz i
  have hfw:=fun i=>Zd hw i
  have HZ:=Qh hz
  have HW:=Qh hw
  clear hz hw
  go_wp2_with fail
  refine bodyPost_ret (Zcv rfl _ _ (Y.g+1) (Y.g+2) _ _ rfl rfl rfl rfl (Zct (.int .i64 0) (.int .i64 0) (.slice none 0 0) (.int .i64 0) (.slice none 0 0) HZ.out) (Zcu (.int .i64 0) (.int .i64 0) (.slice none 0 0) (.int .i64 0) (.slice none 0 0) HW.out)) rfl ?_
  exact ⟨_,rfl,.inl ⟨262,by rw [←HN.out,←HM.out];exact ZqH HV.out (by have:=HP8.out;omega) HR1.out (Zju.out.1 (by first | rfl | trivial)),rfl,ZbL _ _ _ _ _ HB4.out HGL.out⟩⟩
 have HR2:=Qh (show ¬ ((Z6 Y.r.log (N:Int)).isSome=true∨(N:Int)<Y.r.base) from fun h=>by have:=Zju.out.2 h;cases this)
 have FM:=ZdB (Mk:Int) Y.LA Y.ln Y.lc Y.r.log w4 HE4.out.L
 have f0:w4.cell? ⟨Y.g,2,none⟩=some (.slice Y.LA Y.ln Y.lc):=Za HE4.out.hr 2 _ rfl
 go_upto_region 12 with (go_at_call 45;refine FM.mono ?_;rintro e v5 ⟨x,RA,rn,rc,b5,rfl,hf5,hb5⟩;have H5:=Qh (Qi hf5 hb5);clear hf5 hb5;unfold Zau)
 obtain ⟨w5,q11,ex,eq,hbx,hq⟩:=nm1 v5 (.cells #[.int .i64 x.num,.int .i64 x.base,.int .i64 x.tick,.slice RA rn rc] 45 (0,0))
 rw [←ex,←eq]
 clear ex eq
 have HB5:=Qh (Ze HB4.out (Ze H5.out.2 hbx))
 have HE5:=Qh (HE4.out.below (Ze H5.out.2 hbx))
 have hfm:=H5.out.1
 unfold ZdA at hfm
 rcases hfm with ⟨hfx,hbt,hRx⟩|⟨hfx,hbt,_⟩
 rotate_left
 ·subst hbt
  have HFX:=Qh hfx
  clear hfx hq hbx f0 FM
  have hz:=HE5.out.hz
  have hw:=HE5.out.hw
  obtain ⟨z0,z1,z2⟩:=cs3 hz
  obtain ⟨y0,y1⟩:=cs2 hw
  have hfz:=fun i=>Zd hz i
  have hfw:=fun i=>Zd hw i
  have HZ:=Qh hz
  have HW:=Qh hw
  clear hz hw
  go_wp2_with fail
  refine bodyPost_ret (Zcv rfl _ _ (Y.g+1) (Y.g+2) _ _ rfl rfl rfl rfl (Zct (.int .i64 0) (.int .i64 0) (.slice none 0 0) (.int .i64 0) (.slice none 0 0) HZ.out) (Zcu (.int .i64 0) (.int .i64 0) (.slice none 0 0) (.int .i64 0) (.slice none 0 0) HW.out)) rfl ?_
  exact ⟨_,rfl,.inl ⟨260,by rw [←HN.out,←HM.out];exact ZqI HV.out (by have:=HP8.out;omega) HR1.out HR2.out HFX.out,rfl,ZbL _ _ _ _ _ HB5.out HGL.out⟩⟩
 subst hbt
 have HFX:=Qh hfx
 have H11:=Qh (Qi hq (hRx.below hbx))
 clear hfx hRx hq hbx f0 FM
 have hE0:YV Y.r Y.pn (n4 Y.f 0) (n4 Y.f 4)=none:=by rw [←HN.out,←HM.out];exact ZqJ HV.out (by have:=HP8.out;omega) HR1.out HR2.out HFX.out
 have HE0:=Qh hE0
 obtain ⟨x',hx',hcp,hcf,hfv,hfl,hlt⟩:=HCO.out hE0
 rw [←HM.out,HFX.out] at hx'
 rw [←HN.out] at hlt
 injection hx' with hx'
 subst hx'
 have HXV:=Qh (ZqE HV.out HFX.out)
 have HXL:=Qh (show x.es.length≤12 from by
  by_cases hm:(Mk:Int)=0
  ·have h:=HFX.out
   unfold Z6 at h
   rw [if_pos hm] at h
   injection h with h
   rw [←h];simp [Rec.zero]
  ·exact HES.out x (Zfw hm HFX.out).1)
 have HCD:=Qh (Qi hcp (Qi hfv hfl))
 have HLT:=Qh hlt
 obtain ⟨A1,eA1⟩:∃ A1,(if Y.pc=8 then (some ⟨Y.pb,Y.po,none⟩:Option Addr) else some ⟨Y.pb,Y.po+8,none⟩)=A1:=⟨_,rfl⟩
 have HA1:=Qh (show A1≠none∧∀ W,Z8 W (some ⟨Y.pb,Y.po,none⟩) Y.pn Y.f→Z8 W A1 (Y.pn-8) (M.byteOf (Xo x.tick t x.es fs)) from by
  refine ⟨by rw [←eA1];split<;>simp,fun W hW i hi=>?_⟩
  have h1:¬ Y.pc=8:=by have:=HPC.out.1;omega
  rw [←eA1,if_neg h1]
  refine ⟨_,rfl,?_⟩
  rw [←hcf i (by omega)]
  have:=Qs hW (i:=8+i) (by omega)
  rcases i with _ | i
  ·exact this
  ·simpa [Addr.add,Nat.add_assoc] using this)
 have p0:(8:Int)≤(Y.pn:Int):=by have:=HP8.out;omega
 have p2:(Y.pn:Int)≤(Y.pc:Int):=by have:=HPC.out;omega
 clear hE0 hcp hcf hfv hfl hlt
 go_upto_region 14 with fail
 go_cut [13,14] (fun v13 v14 wx=>∃ q VA vn vc,v13=.pointer (some ⟨q,0,none⟩)∧v14=.int .i64 0∧wx.heap[q]?=some (wO t (.slice VA vn vc))∧Zj wx VA vn vc fs∧w5.heap.size≤q∧Below w5.heap.size w5 wx)
 case first=>
  obtain ⟨ZbN,ed⟩:∃ W,W=w5.drew:=⟨_,rfl⟩
  have hbd:Below w5.heap.size w5 ZbN:=by rw [ed];exact (Below.refl _ _).drew
  have HC:ZbN.cell? ⟨q11,2,none⟩=some (.int .i64 x.tick)∧ZbN.cell? ⟨q11,3,none⟩=some (.slice RA rn rc):=⟨Za ((hbd.block _ (lt_of_block H11.out.1)).trans H11.out.1) 2 _ rfl,Za ((hbd.block _ (lt_of_block H11.out.1)).trans H11.out.1) 3 _ rfl⟩
  have HB:=Qh hbd
  have HD:=Qh ed
  clear hbd ed
  refine Yy (fun W=>W.cell? ⟨q11,2,none⟩=some (.int .i64 x.tick)∧W.cell? ⟨q11,3,none⟩=some (.slice RA rn rc)) 4 hmx ?_
  change Zz _ _ _ _ _ _ _ _ _ (World.drew _)
  rw [←HD.out]
  refine tkp 0 rfl (Or.inr HC) ?_
  refine tkp 2 rfl (Or.inr HC) ?_
  refine tkp 3 rfl (Or.inr HC) ?_
  refine tkl 1 rfl HC (by intro W ⟨hC0,hC1⟩;go_simp;try with_reducible rfl) ?_
  refine Jf (j:=4) (k:=8) (by kernel_rfl) ?_ ?_
  ·refine wpOp_step rfl (fun K hK=>?_)
   go_simp
   refine (ZiO x.tick t RA A1 rn rc (Y.pn-8) (Y.pc-8) x.es fs ZbN (HE5.out.T.below HB.out) (H11.out.2.below HB.out) HXV.out HCD.out.2.1 ⟨HXL.out,HCD.out.2.2⟩ (by have:=HCD.out.1;omega) (HA1.out.2 ZbN (HE5.out.below HB.out).P) (fun e=>absurd e HA1.out.1) (by have:=HPC.out.2;omega)).mono ?_
   rintro e v141 ⟨VA,vn,vc,rfl,hV,hbN⟩
   have HB:=Qh (Ze HB.out hbN)
   have HR:=Qh hV
   clear hV hbN
   refine hK _ _ ?_;clear hK K
   refine ⟨Or.inl (by kernel_rfl),?_⟩
   refine tkq 5 rfl ?_
   refine tkq 6 rfl ?_
   refine tkq 7 rfl ?_
   refine Zi 8 rfl (fun K hK=>?_)
   go_simp
   obtain ⟨ZqN,q,e9,el,hbN,hlN⟩:=nm1 v141 (wO 0 (.slice none 0 0))
   unfold wO at e9
   have hq0:w5.heap.size≤q:=by rw [el];exact HB.out.size
   have HR:=Qh (HR.out.below hbN)
   have HB:=Qh (Ze HB.out hbN)
   have HQ:=Qh (Qi hlN hq0)
   clear hbN hlN hq0
   refine hK _ _ ?_;clear hK K
   rw [←e9,←el]
   clear e9 el
   refine ⟨Or.inl (by kernel_rfl),?_⟩
   exact Tq18
  ·refine wpOp_step rfl (fun K hK=>?_)
   go_simp
   obtain ⟨v141,q,e9,el,hbN,hlN⟩:=nm1 ZbN (wO 0 (.slice none 0 0))
   unfold wO at e9
   have hq0:w5.heap.size≤q:=by rw [el];exact HB.out.size
   have HC:=cr2 hbN HC
   have HB:=Qh (Ze HB.out hbN)
   have HQ:=Qh (Qi hlN hq0)
   clear hbN hlN hq0
   refine hK _ _ ?_;clear hK K
   rw [←e9,←el]
   clear e9 el
   refine ⟨Or.inr HC,?_⟩
   refine Zi 4 rfl (fun K hK=>?_)
   go_simp
   refine (ZiO x.tick t RA A1 rn rc (Y.pn-8) (Y.pc-8) x.es fs v141 (HE5.out.T.below HB.out) (H11.out.2.below HB.out) HXV.out HCD.out.2.1 ⟨HXL.out,HCD.out.2.2⟩ (by have:=HCD.out.1;omega) (HA1.out.2 v141 (HE5.out.below HB.out).P) (fun e=>absurd e HA1.out.1) (by have:=HPC.out.2;omega)).mono ?_
   rintro e ZqN ⟨VA,vn,vc,rfl,hV,hbN⟩
   have HB:=Qh (Ze HB.out hbN)
   have HQ:=Qh (Qi ((hbN.block _ (Zh HQ.out.1)).trans HQ.out.1) HQ.out.2)
   have HR:=Qh hV
   clear hV hbN
   refine hK _ _ ?_;clear hK K
   refine ⟨Or.inl (by kernel_rfl),?_⟩
   refine tkq 5 rfl ?_
   refine tkq 6 rfl ?_
   refine tkq 7 rfl ?_
   exact Tq18
 case rest=>
 obtain ⟨q13,VA,vn,vc,rfl,rfl,Xp,hV,Zjv,hb6⟩:=hcut
 obtain ⟨w6,e6⟩:∃ W,W=wc:=⟨_,rfl⟩
 rw [←e6] at Xp hV hb6 ⊢
 have HE6:=Qh (HE5.out.below hb6)
 have HB6:=Qh (Ze HB5.out hb6)
 have H13:=Qh Xp
 have ZdS:=Qh hV
 have ZqO:=Qh (lt_of_block Xp)
 have ZqP:=Qh Zjv
 have HV6:=Qh hV
 clear e6 hb6 Xp hV Zjv p0 p2 eA1
 go_upto_region 17 with fail
 obtain ⟨mb,emb⟩:∃ m,m=max Y.r.base (Mk:Int):=⟨_,rfl⟩
 obtain ⟨ml,eml⟩:∃ m,m=max Y.r.last (N:Int):=⟨_,rfl⟩
 have HMB:=Qh (Qi emb eml)
 have m0:max Y.r.base (Mk:Int)=mb:=emb.symm
 have m1:max Y.r.last (N:Int)=ml:=eml.symm
 clear emb eml
 go_cut [15] (fun v wx=>∃ (q:Nat) (OA:Option Addr) (oc:Nat) (ls:List LR) (B:Nat),v=.pointer (some ⟨q,0,none⟩)∧ls.map LR.r=Y.r.log∧Ses w6 wx (Zb q (.cells #[.int .i64 mb,.int .i64 ml,.slice OA ls.length oc] 38 (0,0)) :: rowP B 45 4 ls.length (.slice OA ls.length oc) (lrs ls) :: ls.map lrP))
 case first=>
  obtain ⟨Zbe,ed⟩:∃ W,W=w6.drew:=⟨_,rfl⟩
  have hbd:Below w6.heap.size w6 Zbe:=by rw [ed];exact (Below.refl _ _).drew
  have HC:Zbe.cell? ⟨Y.g,0,none⟩=some (.int .i64 Y.r.base)∧Zbe.cell? ⟨Y.g,1,none⟩=some (.int .i64 Y.r.last)∧Zbe.cell? ⟨Y.g,2,none⟩=some (.slice Y.LA Y.ln Y.lc):=⟨Za (HE6.out.below hbd).hr 0 _ rfl,Za (HE6.out.below hbd).hr 1 _ rfl,Za (HE6.out.below hbd).hr 2 _ rfl⟩
  have HB:=Qh hbd
  have HD:=Qh ed
  clear hbd ed
  refine Yy (fun W=>W.cell? ⟨Y.g,0,none⟩=some (.int .i64 Y.r.base)∧W.cell? ⟨Y.g,1,none⟩=some (.int .i64 Y.r.last)∧W.cell? ⟨Y.g,2,none⟩=some (.slice Y.LA Y.ln Y.lc)) 13 hmx ?_
  change Zz _ _ _ _ _ _ _ _ _ (World.drew _)
  rw [←HD.out]
  refine tkp 0 rfl (Or.inr HC) ?_
  refine tkp 2 rfl (Or.inr HC) ?_
  refine tkp 4 rfl (Or.inr HC) ?_
  refine tkp 6 rfl (Or.inr HC) ?_
  refine tkp 8 rfl (Or.inr HC) ?_
  refine tkl 1 rfl HC (by intro W ⟨hC0,hC1,hC2⟩;go_simp;try with_reducible rfl) ?_
  refine tkp 3 rfl (Or.inr HC) ?_
  refine tkl 5 rfl HC (by intro W ⟨hC0,hC1,hC2⟩;go_simp;try with_reducible rfl) ?_
  refine tkp 7 rfl (Or.inr HC) ?_
  refine tkl 9 rfl HC (by intro W ⟨hC0,hC1,hC2⟩;go_simp;try with_reducible rfl) ?_
  refine Jf (j:=10) (k:=12) (by kernel_rfl) ?_ ?_
  ·refine wpOp_step rfl (fun K hK=>?_)
   go_simp
   refine (Zdy Y.LA Y.ln Y.lc Y.r.log Zbe (HE6.out.below HB.out).L (by have h:=HE6.out.L.len;have:=(ZaE HV.out).2.1;omega) (fun y hy=>by have:=HES.out y hy;omega)).mono ?_
   rintro e v171 ⟨v,ls,rfl,hls,hSl⟩
   have hbN:=hSl.bel
   obtain ⟨OA,oc,ev⟩:=YF (w:=v171) (by exact hSl.head)
   subst ev
   have HLS:=Qh hls
   have hS2:=Ses.under ((Ses.start w6).below HB.out) hSl
   rw [List.append_nil] at hS2
   have HS:=Qh hS2
   clear hS2
   have HC:=cr3 hbN HC
   have HB:=Qh (Ze HB.out hbN)
   clear hls hSl hbN
   refine hK _ _ ?_;clear hK K
   refine ⟨Or.inr HC,?_⟩
   refine tkp 11 rfl (Or.inr HC) ?_
   refine Zi 12 rfl (fun K hK=>?_)
   go_simp
   obtain ⟨ZfG,q,e9,el,hbN,hlN⟩:=nm1 v171 (.cells #[.int .i64 0,.int .i64 0,.slice none 0 0] 38 (0,0))
   have hq0:w6.heap.size≤q:=by rw [el];exact HB.out.size
   have hSA:Ses w6 ZfG (Zb q (.cells #[.int .i64 0,.int .i64 0,.slice none 0 0] 38 (0,0)) :: rowP Zbe.heap.size 45 4 ls.length (.slice OA ls.length oc) (lrs ls) :: ls.map lrP):=by rw [e9,el];exact HS.out.allocObj _
   have HS:=Qh hSA
   clear hSA
   have HC:=cr3 hbN HC
   have HB:=Qh (Ze HB.out hbN)
   have HQ:=Qh (Qi hlN hq0)
   clear hbN hlN hq0
   refine hK _ _ ?_;clear hK K
   rw [←e9,←el]
   clear e9 el
   refine ⟨Or.inr HC,?_⟩
   exact Tq21
  ·refine wpOp_step rfl (fun K hK=>?_)
   go_simp
   obtain ⟨v171,q,e9,el,hbN,hlN⟩:=nm1 Zbe (.cells #[.int .i64 0,.int .i64 0,.slice none 0 0] 38 (0,0))
   have hq0:w6.heap.size≤q:=by rw [el];exact HB.out.size
   have hSA:Ses w6 v171 (Zb q (.cells #[.int .i64 0,.int .i64 0,.slice none 0 0] 38 (0,0)) :: []):=by rw [e9,el];exact ((Ses.start w6).below HB.out).allocObj _
   have HS:=Qh hSA
   clear hSA
   have HC:=cr3 hbN HC
   have HB:=Qh (Ze HB.out hbN)
   have HQ:=Qh (Qi hlN hq0)
   clear hbN hlN hq0
   refine hK _ _ ?_;clear hK K
   rw [←e9,←el]
   clear e9 el
   refine ⟨Or.inr HC,?_⟩
   refine Zi 10 rfl (fun K hK=>?_)
   go_simp
   refine (Zdy Y.LA Y.ln Y.lc Y.r.log v171 (HE6.out.below HB.out).L (by have h:=HE6.out.L.len;have:=(ZaE HV.out).2.1;omega) (fun y hy=>by have:=HES.out y hy;omega)).mono ?_
   rintro e ZfG ⟨v,ls,rfl,hls,hSl⟩
   have hbN:=hSl.bel
   obtain ⟨OA,oc,ev⟩:=YF (w:=ZfG) (by exact hSl.head)
   subst ev
   have HLS:=Qh hls
   have HS:=Qh ((Ses.under HS.out hSl).perm (List.perm_append_singleton _ _))
   have HC:=cr3 hbN HC
   have HB:=Qh (Ze HB.out hbN)
   have HQ:=Qh (Qi ((hbN.block _ (Zh HQ.out.1)).trans HQ.out.1) HQ.out.2)
   clear hls hSl hbN
   refine hK _ _ ?_;clear hK K
   refine ⟨Or.inr HC,?_⟩
   refine tkp 11 rfl (Or.inr HC) ?_
   exact Tq21
 case rest=>
 obtain ⟨q15,OA,oc,ls,B,rfl,hls,hS7⟩:=hcut
 obtain ⟨w7,e7⟩:∃ W,W=wc:=⟨_,rfl⟩
 rw [←e7] at hS7 ⊢
 clear e7 m0 m1
 have HLS:=Qh hls
 have HS7:=Qh hS7
 have HLL:=Qh (show ls.length≤33 from by have:=(ZaE HV.out).2.1;rw [←hls,List.length_map] at this;exact this)
 have hLr:Zy w7 OA ls.length oc Y.r.log:=by
  obtain ⟨A',c',e',hL⟩:=Zch (l:=ls) hS7.tail.head (by have:=HLL.out;omega) (fun x hx=>hS7.part (p:=lrP x) (.tail _ (.tail _ (List.mem_map.2 ⟨x,hx,rfl⟩))))
  injection e' with e1 _ e2
  rw [←e1,←e2,hls] at hL
  exact hL
 have FB:=Zqw (N:Int) OA ls.length oc Y.r.log w7 hLr (fun i j x y hij hx hy=>by
  obtain ⟨h1,rfl⟩:=List.getElem?_eq_some_iff.1 hx
  obtain ⟨h2,rfl⟩:=List.getElem?_eq_some_iff.1 hy
  exact List.pairwise_iff_getElem.1 (ZaE HV.out).2.2.1 i j h1 h2 hij) ⟨fun t y hy=>by have:=((ZaE HV.out).2.2.2 y (List.mem_of_getElem? hy)).1;omega,by have:=HR1.out;omega,by have:=HR1.out;omega⟩
 have k2:w7.cell? ⟨q15,2,none⟩=some (.slice OA ls.length oc):=Za hS7.head 2 _ rfl
 clear hls hS7 hLr
 go_upto_region 19 with (go_at_call 60;refine FB.mono ?_;rintro e w8 ⟨k,b8,rfl,⟨⟨hk,hlo,hhi⟩,_⟩,hb8⟩;have HK:=Qh (Qi hk hhi);have HB8:=Qh hb8;clear hk hlo hhi hb8)
 have hkl:k=ls.length:=by
  have hll:=congrArg List.length HLS.out
  rw [List.length_map] at hll
  rcases Nat.lt_or_ge k ls.length with h | h
  ·exfalso
   have h1:=HK.out.2 k _ (Nat.le_refl _) (List.getElem?_eq_getElem (by omega:k<Y.r.log.length))
   have h2:=HLT.out _ (List.getElem_mem (by omega:k<Y.r.log.length))
   omega
  ·have:=HK.out.1;omega
 subst hkl
 clear k2 FB HK
 have HS8:=Qh (HS7.out.below HB8.out)
 have ZdT:=HS8.out.bel
 have HE8:=Qh (HE6.out.below ZdT)
 have ZdS:=Qh (ZdS.out.below ZdT)
 have H13:=Qh ((ZdT.block _ (lt_of_block H13.out)).trans H13.out)
 clear ZdT
 go_cut [] (fun wx=>∃ (g9 c9:Nat) (F:List Nat) (EA:Option Addr) (en ec:Nat) (x9:LR) (B:Nat),x9=⟨⟨(N:Nat),(Mk:Nat),t,fs⟩,F,EA,en,ec⟩∧Ses w6 wx (Zb q15 (.cells #[.int .i64 mb,.int .i64 ml,.slice (some ⟨g9,0,none⟩) (ls.length+1) c9] 38 (0,0)) :: rowP B 45 4 (ls.length+1) (.slice (some ⟨g9,0,none⟩) (ls.length+1) c9) (lrs (ls++[x9])) :: eP F EA en ec fs :: ls.map lrP))
 case first=>
  obtain ⟨ZbO,ed⟩:∃ W,W=w8.drew:=⟨_,rfl⟩
  have hbd:Below w8.heap.size w8 ZbO:=by rw [ed];exact (Below.refl _ _).drew
  have HC:ZbO.cell? ⟨q15,2,none⟩=some (.slice OA ls.length oc)∧ZbO.cell? ⟨q13,0,none⟩=some (.int .i64 t)∧ZbO.cell? ⟨q13,1,none⟩=some (.slice VA vn vc):=⟨Za (HS8.out.below hbd).head 2 _ rfl,Za ((hbd.block _ (lt_of_block H13.out)).trans H13.out) 0 _ rfl,Za ((hbd.block _ (lt_of_block H13.out)).trans H13.out) 1 _ rfl⟩
  have HB:=Qh hbd
  have HD:=Qh ed
  clear hbd ed
  refine Yy (fun W=>W.cell? ⟨q15,2,none⟩=some (.slice OA ls.length oc)∧W.cell? ⟨q13,0,none⟩=some (.int .i64 t)∧W.cell? ⟨q13,1,none⟩=some (.slice VA vn vc)) 9 hmx ?_
  change Zz _ _ _ _ _ _ _ _ _ (World.drew _)
  rw [←HD.out]
  refine tkp 0 rfl (Or.inr HC) ?_
  refine tkp 2 rfl (Or.inr HC) ?_
  refine tkp 3 rfl (Or.inr HC) ?_
  refine tkp 4 rfl (Or.inr HC) ?_
  refine tkl 1 rfl HC (by intro W ⟨hC0,hC1,hC2⟩;go_simp;try with_reducible rfl) ?_
  refine tkl 5 rfl HC (by intro W ⟨hC0,hC1,hC2⟩;go_simp;try with_reducible rfl) ?_
  refine Zi 6 rfl (fun K hK=>?_)
  go_simp
  refine (Zix t VA vn vc fs ZbO (ZdS.out.below HB.out) (by have h:=ZdS.out.len;have:=HCD.out.2.2;omega)).mono ?_
  rintro e ZaF ⟨EA,en,ec,rfl,hNE,hbN⟩
  obtain ⟨F,hF1,hF2⟩:=hNE
  have hS0:Ses w6 ZbO (Zb q15 (.cells #[.int .i64 mb,.int .i64 ml,.slice OA ls.length oc] 38 (0,0)) :: rowP B 45 4 ls.length (.slice OA ls.length oc) (lrs ls) :: ls.map lrP):=HS8.out.below HB.out
  have hS1:Ses w6 ZaF (eP F EA en ec fs :: Zb q15 (.cells #[.int .i64 mb,.int .i64 ml,.slice OA ls.length oc] 38 (0,0)) :: rowP B 45 4 ls.length (.slice OA ls.length oc) (lrs ls) :: ls.map lrP):=Ses.new (p:=eP F EA en ec fs) hS0 hbN hF1 hF2
  have hS2:Ses w6 ZaF (rowP B 45 4 ls.length (.slice OA ls.length oc) (lrs ls) :: eP F EA en ec fs :: Zb q15 (.cells #[.int .i64 mb,.int .i64 ml,.slice OA ls.length oc] 38 (0,0)) :: ls.map lrP):=hS1.third'
  have HS:=Qh hS2
  clear hS0 hS1 hS2
  have HC:=cr3 hbN HC
  have HB:=Qh (Ze HB.out hbN)
  clear hF1 hF2 hbN
  refine hK _ _ ?_;clear hK K
  refine ⟨Or.inr HC,?_⟩
  refine tkp 7 rfl (Or.inr HC) ?_
  refine Zi 8 rfl (fun K hK=>?_)
  go_simp
  obtain ⟨ZfH,rb,e9,el⟩:∃ W q,W=ZaF.alloc (.cells #[.int .i64 (N:Nat),.int .i64 (Mk:Nat),.int .i64 t,.slice EA en ec] 45 (0,0))∧q=ZaF.heap.size:=⟨_,_,rfl,rfl⟩
  have hbN:Below ZaF.heap.size ZaF ZfH:=by rw [e9];exact Zg ZaF _
  obtain ⟨x9,ex9⟩:∃ x9:LR,x9=⟨⟨(N:Nat),(Mk:Nat),t,fs⟩,F,EA,en,ec⟩:=⟨_,rfl⟩
  have hrb:∀ j u,x9.cells[j]?=some u→ZfH.cell? ((⟨rb,0,none⟩:Addr).add j)=some u:=by rw [e9,ex9];exact XC ZaF #[.int .i64 (N:Nat),.int .i64 (Mk:Nat),.int .i64 t,.slice EA en ec] 45 rb el
  have HS:=Qh (HS.out.below hbN)
  have HX9:=Qh (Qi ex9 hrb)
  have HC:=cr3 hbN HC
  have HB:=Qh (Ze HB.out hbN)
  clear hbN ex9 hrb
  refine hK _ _ ?_;clear hK K
  rw [←e9,←el]
  clear e9 el
  refine ⟨Or.inr HC,?_⟩
  refine Zi 9 rfl (fun K hK=>?_)
  go_simp
  obtain ⟨B1,hB1,hSB⟩:=HS.out.rowBase
  have HSB:=Qh hSB
  refine (Zqz B1 ls.length oc OA ls x9 rb ZfH hSB.head (by have:=HLL.out;omega) rfl HX9.out.2 hB1).mono ?_
  rintro e v193 ⟨v,rfl,hown,hgr,hob⟩
  obtain ⟨g9,c9,ev⟩:=ownsRow_succ hown
  subst ev
  have HS:=Qh (HSB.out.rowApp hown hgr hob).third'
  clear hown hgr hob hSB hB1
  refine hK _ _ ?_;clear hK K
  refine ⟨Or.inl (by kernel_rfl),?_⟩
  refine tkq 10 rfl ?_
  refine Zi 11 rfl (fun K hK=>?_)
  have hq:=HS.out.head
  have y0:v193.cell? ⟨q15,2,none⟩=some (.slice OA ls.length oc):=Za hq 2 _ rfl
  have y1:=Zd hq 2
  clear hq
  go_simp
  refine hK _ _ ?_;clear hK K
  refine ⟨Or.inl (by kernel_rfl),?_⟩
  refine ZX (by kernel_rfl) ?_ _
  try clear HC
  go_wp2_with fail
  go_meet
  clear y0 y1
  exact ⟨g9,c9,F,EA,en,ec,x9,_,HX9.out.1,Ses.objSet (i:=2) (.slice (some ⟨g9,0,none⟩) (ls.length+1) c9) HS.out⟩
 case rest=>
 obtain ⟨g9,c9,F,EA,en,ec,x9,B9,hx9,hS9⟩:=hcut
 obtain ⟨w9,e9⟩:∃ W,W=wc:=⟨_,rfl⟩
 rw [←e9] at hS9 ⊢
 clear e9
 obtain ⟨L,eL⟩:∃ L,L=ls++[x9]:=⟨_,rfl⟩
 have hLn:ls.length+1=L.length:=by rw [eL];simp
 rw [←eL] at hS9
 have HX9:=Qh (Qi hx9 (Qi eL hLn))
 rw [hLn] at hS9
 have HS9:=Qh hS9
 have hpL:∀ x,x∈L→lrP x∈(eP F EA en ec fs :: ls.map lrP):=fun x hx=>by
  rw [eL] at hx
  rcases List.mem_append.1 hx with hx | hx
  ·exact .tail _ (List.mem_map.2 ⟨x,hx,rfl⟩)
  ·have:x=x9:=by simpa using hx
   rw [this,hx9];exact .head _
 have HPL:=Qh hpL
 have hr9:∀ x,x∈L→Zj w9 x.A x.n x.c x.r.es:=fun x hx=>hS9.part (p:=lrP x) (.tail _ (.tail _ (hpL x hx)))
 have hne:q15≠g9:=fun e=>(List.pairwise_cons.1 hS9.sep.2).1 _ (.head _) q15 (by simp [Zb]) (by rw [e];simp [rowP,Value.ownBlock])
 have hLL:L.length≤34:=by have:=HLL.out;omega
 have hml:0≤ml∧ml≤1073741824:=by have:=HMB.out.2;have:=(ZaE HV.out).1;have:=HR1.out;omega
 have FD:=Zqy mb ml hml q15 B9 g9 c9 L w9 hS9.tail.head (by omega) hr9 ⟨Za hS9.head 0 _ rfl,Za hS9.head 1 _ rfl⟩ hne
 have k2:w9.cell? ⟨q15,2,none⟩=some (.slice (some ⟨g9,0,none⟩) L.length c9):=Za hS9.head 2 _ rfl
 have ZqQ:=Qh hLL
 clear hS9 hx9 eL hLn hpL hr9 hne hml hLL
 go_upto_region 21 with (go_at_call 64;refine FD.mono ?_;rintro e v10 ⟨m,rfl,hm,hown,hgr⟩;have XB:=(Ses.rowApp (v':=.slice (some ⟨g9,0,none⟩) m c9) (Ses.front2 HS9.out) hown hgr (.inl rfl)).front2;have hg8:=XB.head;have u3:v10.cell? ⟨q15,2,none⟩=some (.slice (some ⟨g9,0,none⟩) L.length c9):=Za hg8 2 _ rfl;have y3:=Zd hg8 2;have H10:=Qh (Qi hm XB);clear hm hown hgr XB hg8)
 obtain ⟨w10,e10,XB⟩:∃ V,V=v10.setCell ⟨q15,2,none⟩ (.slice (some ⟨g9,0,none⟩) m c9)∧Ses w6 V (Zb q15 (.cells #[.int .i64 mb,.int .i64 ml,.slice (some ⟨g9,0,none⟩) m c9] 38 (0,0)) :: _):=⟨_,rfl,Ses.objSet (i:=2) (.slice (some ⟨g9,0,none⟩) m c9) H10.out.2⟩
 rw [←e10]
 clear e10 k2 u3 y3 FD
 have ZdU:=XB.bel
 have Jv:=HE6.out.below ZdU
 have h13:w10.heap[q13]?=some (wO t (.slice VA vn vc)):=by
  have h:=H13.out
  have hlt:q13<w6.heap.size:=ZqO.out
  rw [ZdU.block _ hlt,←(HS8.out.bel).block _ hlt];exact h
 have Zjw:Zj w10 VA vn vc fs:=HV6.out.below ZdU
 obtain ⟨k0,k1,k2⟩:=cs3 XB.head
 obtain ⟨j0,j1⟩:=cs2 h13
 have HC0:=Qi k0 (Qi k1 (Qi k2 (Qi j0 j1)))
 clear k0 k1 k2 j0 j1
 have hz:=Jv.hz
 have hw:=Jv.hw
 have HZ:=Qh (Qi hz (Qi hw (Qi XB Zjw)))
 have Zjx:q15≠Y.g+1:=Nat.ne_of_gt (Nat.lt_of_lt_of_le (Zh HE6.out.hz) (XB.base (Zb q15 (.cells #[.int .i64 mb,.int .i64 ml,.slice (some ⟨g9,0,none⟩) m c9] 38 (0,0))) (.head _) q15 (List.mem_singleton.2 rfl)))
 have Zjy:q13≠Y.g+1:=Nat.ne_of_gt (Nat.lt_of_lt_of_le (Zh HE5.out.hz) ZqP.out)
 have HNE:=Qh (Qi Zjx Zjy)
 clear Zjx Zjy
 clear XB Zjw Jv h13 ZdU hz hw
 obtain ⟨Xq,ed⟩:∃ W,W=w10.drew:=⟨_,rfl⟩
 have hbd:Below w10.heap.size w10 Xq:=by rw [ed];exact (Below.refl _ _).drew
 have HC:Xq.cell? ⟨q15,0,none⟩=some (.int .i64 mb)∧Xq.cell? ⟨q15,1,none⟩=some (.int .i64 ml)∧Xq.cell? ⟨q15,2,none⟩=some (.slice (some ⟨g9,0,none⟩) m c9)∧Xq.cell? ⟨q13,0,none⟩=some (.int .i64 t)∧Xq.cell? ⟨q13,1,none⟩=some (.slice VA vn vc):=⟨(hbd.cell (Zc HC0.1)).trans HC0.1,(hbd.cell (Zc HC0.2.1)).trans HC0.2.1,(hbd.cell (Zc HC0.2.2.1)).trans HC0.2.2.1,(hbd.cell (Zc HC0.2.2.2.1)).trans HC0.2.2.2.1,(hbd.cell (Zc HC0.2.2.2.2)).trans HC0.2.2.2.2⟩
 have HB:=Qh hbd
 have HD:=Qh ed
 clear hbd ed
 refine Yy (fun W=>W.cell? ⟨q15,0,none⟩=some (.int .i64 mb)∧W.cell? ⟨q15,1,none⟩=some (.int .i64 ml)∧W.cell? ⟨q15,2,none⟩=some (.slice (some ⟨g9,0,none⟩) m c9)∧W.cell? ⟨q13,0,none⟩=some (.int .i64 t)∧W.cell? ⟨q13,1,none⟩=some (.slice VA vn vc)) 3 hmx ?_
 change Zz _ _ _ _ _ _ _ _ _ (World.drew _)
 rw [←HD.out]
 refine tkl 0 rfl HC (by intro W ⟨hC0,hC1,hC2,hC3,hC4⟩;go_simp;try with_reducible rfl) ?_
 refine tkl 1 rfl HC (by intro W ⟨hC0,hC1,hC2,hC3,hC4⟩;go_simp;try with_reducible rfl) ?_
 refine Zi 2 rfl (fun K hK=>?_)
 have hz:Xq.heap[Y.g+1]?=some Zcs:=(HB.out.block _ (Zh HZ.out.1)).trans HZ.out.1
 obtain ⟨z0,z1,z2⟩:=cs3 hz
 have z3:=Zd hz 0
 have z4:=Zd hz 1
 have z5:=Zd hz 2
 clear hz
 go_simp
 clear z0 z1 z2 z3 z4 z5
 obtain ⟨Q0,e9,hN⟩:∃ W,W=((Xq.setCell ⟨Y.g+1,0,none⟩ (.int .i64 mb)).setCell ⟨Y.g+1,1,none⟩ (.int .i64 ml)).setCell ⟨Y.g+1,2,none⟩ (.slice (some ⟨g9,0,none⟩) m c9)∧W=JY Xq (Y.g+1) (.int .i64 mb) (.int .i64 ml) (.slice (some ⟨g9,0,none⟩) m c9):=⟨_,rfl,rfl⟩
 have h15:Q0.heap[q15]?=Xq.heap[q15]?:=by rw [hN];exact Zbd _ _ _ _ _ HNE.out.1
 have h13:Q0.heap[q13]?=Xq.heap[q13]?:=by rw [hN];exact Zbd _ _ _ _ _ HNE.out.2
 have HC:Q0.cell? ⟨q15,0,none⟩=some (.int .i64 mb)∧Q0.cell? ⟨q15,1,none⟩=some (.int .i64 ml)∧Q0.cell? ⟨q15,2,none⟩=some (.slice (some ⟨g9,0,none⟩) m c9)∧Q0.cell? ⟨q13,0,none⟩=some (.int .i64 t)∧Q0.cell? ⟨q13,1,none⟩=some (.slice VA vn vc):=⟨(Zm h15 _).trans HC.1,(Zm h15 _).trans HC.2.1,(Zm h15 _).trans HC.2.2.1,(Zm h13 _).trans HC.2.2.2.1,(Zm h13 _).trans HC.2.2.2.2⟩
 have HNW:=Qh hN
 clear h15 h13 hN
 refine hK _ _ ?_;clear hK K
 rw [←e9]
 clear e9
 refine ⟨Or.inr HC,?_⟩
 refine Zi 3 rfl (fun K hK=>?_)
 have hw:Q0.heap[Y.g+2]?=some (wO 0 (.slice none 0 0)):=by rw [HNW.out];exact (Zbd _ _ _ _ _ (by omega)).trans ((HB.out.block _ (lt_of_block HZ.out.2.1)).trans HZ.out.2.1)
 obtain ⟨y0,y1⟩:=cs2 hw
 have y2:=Zd hw 0
 have y3:=Zd hw 1
 clear hw
 go_simp
 clear y0 y1 y2 y3
 refine hK _ _ ?_;clear hK K
 refine ⟨Or.inl (by kernel_rfl),?_⟩
 refine tkq 4 rfl ?_
 refine ZX (by kernel_rfl) ?_ _
 try clear HC
 go_wp2_with fail
 have hWW:put2 Q0 (Y.g+2) (.int .i64 t) (.slice VA vn vc)=JZ Xq Y.g (.int .i64 mb) (.int .i64 ml) (.slice (some ⟨g9,0,none⟩) m c9) (.int .i64 t) (.slice VA vn vc):=by rw [HNW.out];rfl
 have hz:Xq.heap[Y.g+1]?=some Zcs:=(HB.out.block _ (Zh HZ.out.1)).trans HZ.out.1
 have hw:Xq.heap[Y.g+2]?=some (wO 0 (.slice none 0 0)):=(HB.out.block _ (lt_of_block HZ.out.2.1)).trans HZ.out.2.1
 have H1:(put2 Q0 (Y.g+2) (.int .i64 t) (.slice VA vn vc)).heap[Y.g+1]?=some (.cells #[.int .i64 mb,.int .i64 ml,.slice (some ⟨g9,0,none⟩) m c9] 38 (0,0)):=by rw [hWW];exact Zct _ _ _ _ _ hz
 have H2:(put2 Q0 (Y.g+2) (.int .i64 t) (.slice VA vn vc)).heap[Y.g+2]?=some (.cells #[.int .i64 t,.slice VA vn vc] 24 (0,0)):=by rw [hWW];exact Zcu _ _ _ _ _ hw
 refine bodyPost_ret (Zcv rfl _ _ (Y.g+1) (Y.g+2) _ _ rfl rfl rfl rfl H1 H2) rfl ?_
 have hfin:ZfF w (put2 Q0 (Y.g+2) (.int .i64 t) (.slice VA vn vc)) Y.r Y.pn Y.f t fs (.tuple #[.agg #[.int .i64 mb,.int .i64 ml,.slice (some ⟨g9,0,none⟩) m c9],.agg #[.int .i64 t,.slice VA vn vc],.int .i64 0]):=by
  rw [hWW]
  have hE:Zj (JZ Xq Y.g (.int .i64 mb) (.int .i64 ml) (.slice (some ⟨g9,0,none⟩) m c9) (.int .i64 t) (.slice VA vn vc)) VA vn vc fs:=Zj.keep32 _ _ _ _ _ (HZ.out.2.2.2.below HB.out) (fun e he=>(Z4 HCD.out.2.1 e he).1) hz hw
  have hBe:Below w.heap.size w (JZ Xq Y.g (.int .i64 mb) (.int .i64 ml) (.slice (some ⟨g9,0,none⟩) m c9) (.int .i64 t) (.slice VA vn vc)):=ZbL _ _ _ _ _ (Ze HB6.out (Ze HZ.out.2.2.1.bel HB.out)) HGL.out
  have ZqR:=(HZ.out.2.2.1.below HB.out).tail
  have hz32:=(ZbL (.int .i64 mb) (.int .i64 ml) (.slice (some ⟨g9,0,none⟩) m c9) (.int .i64 t) (.slice VA vn vc) (Below.refl Y.g Xq) (Nat.le_refl _)).size
  have ZqS:m=(L.filter fun x=>!(XK mb ml x.r.num)).length:=H10.out.1
  have ZqT:L.length≤1000000:=Nat.le_trans ZqQ.out (by decide)
  have hr:=ZqL (Y:=Y) (mb:=mb) (ml:=ml) (ls:=L) (m:=m) (w6:=w6) (W:=Xq) (w9:=JZ Xq Y.g (.int .i64 mb) (.int .i64 ml) (.slice (some ⟨g9,0,none⟩) m c9) (.int .i64 t) (.slice VA vn vc)) (fun b h1 h2=>ZqC _ _ _ _ _ _ _ h1 h2) hz32 (lt_of_block HE6.out.hw) ZqS ZqT ZqR HPL.out
  have Zft:((L.filter fun x=>!(XK mb ml x.r.num)).map LR.r)=(Zbc Y.r (n4 Y.f 0:Nat) (n4 Y.f 4:Nat) t fs).log:=by
   rw [←HN.out,←HM.out]
   show _=(Y.r.log++[(⟨(N:Int),(Mk:Int),t,fs⟩:Rec)]).filter (fun x=>!(XK (max Y.r.base (Mk:Int)) (max Y.r.last (N:Int)) x.num))
   rw [←HMB.out.1,←HMB.out.2,←HLS.out,HX9.out.2.1]
   have h2:ls.map LR.r++[(⟨(N:Int),(Mk:Int),t,fs⟩:Rec)]=(ls++[x9]).map LR.r:=by rw [List.map_append,HX9.out.1];rfl
   rw [h2,List.filter_map]
   rfl
  rw [Zft] at hr
  have hb2:(Zbc Y.r (n4 Y.f 0:Nat) (n4 Y.f 4:Nat) t fs).base=mb:=by rw [←HM.out];exact HMB.out.1.symm
  have hl2:(Zbc Y.r (n4 Y.f 0:Nat) (n4 Y.f 4:Nat) t fs).last=ml:=by rw [←HN.out];exact HMB.out.2.symm
  exact .inr ⟨HE0.out,.agg #[.int .i64 mb,.int .i64 ml,.slice (some ⟨g9,0,none⟩) m c9],VA,vn,vc,rfl,⟨some ⟨g9,0,none⟩,m,c9,by rw [hb2,hl2],hr⟩,hE,hBe⟩
 exact ⟨_,rfl,hfin⟩
end
end Go.Proofs.YtlgcfimhfmgkmaaGreatDoor
