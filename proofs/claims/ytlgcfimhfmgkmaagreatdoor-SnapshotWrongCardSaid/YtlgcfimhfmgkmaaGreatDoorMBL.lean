/- Lemmas for the statement. -/
import Derived.Test.YtlgcfimhfmgkmaaGreatDoorMBH
set_option linter.unusedVariables false
set_option linter.unusedSimpArgs false
namespace Go.Proofs.YtlgcfimhfmgkmaaGreatDoor
open Go.RowKit
section
theorem Tq2 {p:Prop} (h:p:=by
 refine ⟨Or.inr HC,?_⟩
 refine Zi 7 rfl (fun K hK=>?_)
 go_simp
 refine (Zca X.b.tick X.vt X.BA X.VA CA X.bn X.bc X.vn X.vc _ cc X.b.es X.fs (QZ X k) v3 (HE2.out.below HB.out).T (HE2.out.below HB.out).B (HE2.out.below HB.out).V HM.out H1.out.1.2.vb H1.out.1.2.vv (by have:=H1.out.2.2.2.2;omega)).mono ?_
 rintro e v4 ⟨MA,mn,mc,l,rfl,hl,hEl,hbN⟩
 have hl2:=Zcb (YG H1.out.1.2.vb) (YG H1.out.1.2.vv) hl.1 hl.2
 have hEl:Zj v4 MA mn mc (Z7 X k):=by rw [←show l=Z7 X k from hl2];exact hEl
 have HB:=Qh (Ze HB.out hbN)
 have HQ:=Qh (Qi ((hbN.block _ (lt_of_block HQ.out.1)).trans HQ.out.1) HQ.out.2)
 have HR:=Qh hEl
 clear hl hl2 hEl hbN
 refine hK _ _ ?_;clear hK K
 refine ⟨Or.inl (by kernel_rfl),?_⟩
 refine tkq 8 rfl ?_
 refine tkq 9 rfl ?_
 refine tkq 10 rfl ?_
 refine Zi 12 rfl (fun K hK=>?_)
 have hq:=HQ.out.1
 obtain ⟨y0,y1⟩:=cs2 hq
 have y2:=Zd hq 0
 have y3:=Zd hq 1
 clear hq
 go_simp
 refine hK _ _ ?_;clear hK K
 refine ⟨Or.inl (by kernel_rfl),?_⟩
 refine tkq 13 rfl ?_
 refine ZX (by kernel_rfl) ?_ _
 clear y0 y1 y2 y3
 try clear HC
 go_wp2_with fail
 go_meet
 exact ⟨q,MA,mn,mc,rfl,rfl,Yw _ _ HQ.out.1,HR.out.keep HN2.out HQ.out.1 (fun b _ hb=>YE _ _ _ _ hb),HQ.out.2,YB _ _ HB.out HQ.out.2⟩):p:=h
theorem Tq92 {p:Prop} (h:p:=by
 refine ⟨Or.inr HC,?_⟩
 refine Zi 6 rfl (fun K hK=>?_)
 go_simp
 refine (Zfo lb 2 [⟨X.GA,X.gn,X.gc,Zu X.gone⟩,⟨SA,sn,sc,Zu ((YT X.s.items X.ws k).map (idS X.ws))⟩] v2 rfl (Zfr ((HE2.out.G.below HB.out).src H1.out.1.2.gn) ((H2.out.2.1.1.below HB.out).src H2.out.2.1.2)) (Zfs HL.out) (by rw [(JS _ _ _ _ _ _ _ _).1];exact HN.out.1) (by decide)).mono ?_
 rintro e v3 ⟨vc,rfl,hown,hbN⟩
 rw [(JS _ _ _ _ _ _ _ _).1,(JS _ _ _ _ _ _ _ _).2] at hown
 obtain ⟨CA,cc,rfl,hIC⟩:=JP (l:=QZ X k) hown HN.out.2.1 HN.out.1 HN.out.2.2
 have HB:=Qh (Ze HB.out hbN)
 have HC:=cr5 hbN HC
 have HQ:=Qh (Qi ((hbN.block _ (lt_of_block HQ.out.1)).trans HQ.out.1) HQ.out.2)
 have HM:=Qh hIC
 clear hown hIC hbN
 refine hK _ _ ?_;clear hK K
 exact Tq2):p:=h
set_option maxRecDepth 100000 in
set_option maxHeartbeats 8000000 in
theorem Zqq (X:TV) (k:Nat) (w:World) (hE:TE w X) (hP:TP X) (hk:k≤1000) (hl:(XR X.b.es X.fs (QZ X k)).length≤12) :
  Calls Tryz.prog 48 #[.int .i64 (k:Nat),.pointer (some ⟨X.sb,0,none⟩),.pointer (some ⟨X.wb,0,none⟩),.pointer (some ⟨X.bb,0,none⟩),.pointer (some ⟨X.vb,0,none⟩),.pointer (some ⟨X.gb,0,none⟩),.pointer (some ⟨X.zb,0,none⟩)] w fun e w'=>ZbJ w w' X k e:=by
 have hmx:Tryz.prog.follows .mixedOrders=true:=by kernel_rfl
 obtain ⟨w1,g,e1,eg,hg1,hb1⟩:∃ W q,W=w.alloc ZR∧q=w.heap.size∧W.heap[q]?=some ZR∧Below w.heap.size w W:=⟨_,_,rfl,rfl,heap_alloc_new w _,Zg w _⟩
 have hE1:=hE.below hb1
 have F1:=ZoV X.IA X.NA X.iN X.ic X.wn X.wc k X.s.items X.ws w1 hE1.I hE1.N hP.vi hP.vw
 have f0:w1.cell? ⟨X.sb,4,none⟩=some (.slice X.IA X.iN X.ic):=Za hE1.hs 4 _ rfl
 have f1:w1.cell? ⟨X.wb,0,none⟩=some (.slice X.NA X.wn X.wc):=Za hE1.hw 0 _ rfl
 have HG:=Qh (show w.heap.size≤g from Nat.le_of_eq eg.symm)
 have H1:=Qh (Qi (Qi hE1 hP) (Qi hg1 (Qi hb1 (Qi hk hl))))
 clear hE hP hE1 hg1 hb1 hk hl
 unfold ZR at e1
 go_enter Tryz.func48,Tryz.ntmps48
 go_upto_region 1 with fail
 rw [←e1,←eg]
 clear e1 eg
 go_upto_region 4 with (go_at_call 49;refine F1.mono ?_;rintro e w2 ⟨ob,SA,sn,sc,rfl,hst,ZbC,hb2⟩;have H2:=Qh (Qi hst (Qi ZbC hb2));clear hst ZbC hb2)
 clear f0 f1 F1
 have hE2:=H1.out.1.1.below H2.out.2.2
 go_cut [14,13] (fun v14 v13 wx=>∃ q A n c,v14=.pointer (some ⟨q,0,none⟩)∧v13=.int .i64 0∧wx.heap[q]?=some (wO X.vt (.slice A n c))∧Zj wx A n c (Z7 X k)∧w2.heap.size≤q∧Below w2.heap.size w2 wx)
 case first=>
  have HN:=Qh (show X.gn+sn≤1000000∧X.gn+sn=(QZ X k).length∧∀ x,x∈QZ X k→-9223372036854775808≤x∧x≤9223372036854775807 from by
   have h1:=hE2.G.len
   have h2:=H2.out.2.1.1.len
   have h3:((YT X.s.items X.ws k).map (idS X.ws)).length≤k:=by rw [List.length_map,YT,List.length_take];exact Nat.min_le_left _ _
   have h4:=H1.out.1.2.gl
   have h5:=H1.out.2.2.2.1
   refine ⟨by omega,by rw [QZ,List.length_append];omega,fun x hx=>?_⟩
   rcases List.mem_append.1 hx with hx | hx
   ·exact hE2.G.rng x hx
   ·exact H2.out.2.1.1.rng x hx)
  have HN2:=Qh (show ∀ e,e∈Z7 X k→1≤e.id from fun e he=>(Z4 (ZeX H1.out.1.2.vb H1.out.1.2.vv (by have:=H1.out.2.2.2.2;omega)) e he).1)
  obtain ⟨wd,ed⟩:∃ W,W=w2.drew:=⟨_,rfl⟩
  have hbd:Below w2.heap.size w2 wd:=by rw [ed];exact (Below.refl _ _).drew
  have hEd:=hE2.below hbd
  have HC:wd.cell? ⟨X.bb,2,none⟩=some (.int .i64 X.b.tick)∧wd.cell? ⟨X.bb,3,none⟩=some (.slice X.BA X.bn X.bc)∧wd.cell? ⟨X.vb,0,none⟩=some (.int .i64 X.vt)∧wd.cell? ⟨X.vb,1,none⟩=some (.slice X.VA X.vn X.vc)∧wd.cell? ⟨X.gb,0,none⟩=some (.slice X.GA X.gn X.gc):=⟨Za hEd.hb 2 _ rfl,Za hEd.hb 3 _ rfl,Za hEd.hv 0 _ rfl,Za hEd.hv 1 _ rfl,Za hEd.hg 0 _ rfl⟩
  have HB:=Qh hbd
  have HE2:=Qh hE2
  have HD:=Qh ed
  clear hbd hEd hE2 ed
  refine Yy (fun W=>W.cell? ⟨X.bb,2,none⟩=some (.int .i64 X.b.tick)∧W.cell? ⟨X.bb,3,none⟩=some (.slice X.BA X.bn X.bc)∧W.cell? ⟨X.vb,0,none⟩=some (.int .i64 X.vt)∧W.cell? ⟨X.vb,1,none⟩=some (.slice X.VA X.vn X.vc)∧W.cell? ⟨X.gb,0,none⟩=some (.slice X.GA X.gn X.gc)) 7 hmx ?_
  change Zz _ _ _ _ _ _ _ _ _ (World.drew _)
  rw [←HD.out]
  refine tkp 0 rfl (Or.inr HC) ?_
  refine tkp 4 rfl (Or.inr HC) ?_
  refine tkl 1 rfl HC (by intro W ⟨hC0,hC1,hC2,hC3,hC4⟩;go_simp;try with_reducible rfl) ?_
  refine tkl 2 rfl HC (by intro W ⟨hC0,hC1,hC2,hC3,hC4⟩;go_simp;try with_reducible rfl) ?_
  refine tkl 3 rfl HC (by intro W ⟨hC0,hC1,hC2,hC3,hC4⟩;go_simp;try with_reducible rfl) ?_
  refine Jf (j:=5) (k:=11) (by kernel_rfl) ?_ ?_
  ·refine wpOp_step rfl (fun K hK=>?_)
   go_simp
   obtain ⟨v1,lb,e9,el,hbN,hlN⟩:=nm1 wd (.cells #[.slice X.GA X.gn X.gc,.slice SA sn sc] 48 (0,0))
   refine hK _ _ ?_;clear hK K
   rw [←e9,←el]
   clear e9 el
   have HB:=Qh (Ze HB.out hbN)
   have HC:=cr5 hbN HC
   have HL:=Qh hlN
   clear hbN hlN
   refine ⟨Or.inr HC,?_⟩
   refine Jf (j:=6) (k:=11) (by kernel_rfl) ?_ ?_
   ·refine wpOp_step rfl (fun K hK=>?_)
    go_simp
    refine (Zfo lb 2 [⟨X.GA,X.gn,X.gc,Zu X.gone⟩,⟨SA,sn,sc,Zu ((YT X.s.items X.ws k).map (idS X.ws))⟩] v1 rfl (Zfr ((HE2.out.G.below HB.out).src H1.out.1.2.gn) ((H2.out.2.1.1.below HB.out).src H2.out.2.1.2)) (Zfs HL.out) (by rw [(JS _ _ _ _ _ _ _ _).1];exact HN.out.1) (by decide)).mono ?_
    rintro e v2 ⟨vc,rfl,hown,hbN⟩
    rw [(JS _ _ _ _ _ _ _ _).1,(JS _ _ _ _ _ _ _ _).2] at hown
    obtain ⟨CA,cc,rfl,hIC⟩:=JP (l:=QZ X k) hown HN.out.2.1 HN.out.1 HN.out.2.2
    have HB:=Qh (Ze HB.out hbN)
    have HC:=cr5 hbN HC
    have HM:=Qh hIC
    clear hown hIC hbN
    refine hK _ _ ?_;clear hK K
    refine ⟨Or.inr HC,?_⟩
    refine Jf (j:=7) (k:=11) (by kernel_rfl) ?_ ?_
    ·refine wpOp_step rfl (fun K hK=>?_)
     go_simp
     refine (Zca X.b.tick X.vt X.BA X.VA CA X.bn X.bc X.vn X.vc _ cc X.b.es X.fs (QZ X k) v2 (HE2.out.below HB.out).T (HE2.out.below HB.out).B (HE2.out.below HB.out).V HM.out H1.out.1.2.vb H1.out.1.2.vv (by have:=H1.out.2.2.2.2;omega)).mono ?_
     rintro e v3 ⟨MA,mn,mc,l,rfl,hl,hEl,hbN⟩
     have hl2:=Zcb (YG H1.out.1.2.vb) (YG H1.out.1.2.vv) hl.1 hl.2
     have hEl:Zj v3 MA mn mc (Z7 X k):=by rw [←show l=Z7 X k from hl2];exact hEl
     have HB:=Qh (Ze HB.out hbN)
     have HR:=Qh hEl
     clear hl hl2 hEl hbN
     refine hK _ _ ?_;clear hK K
     refine ⟨Or.inl (by kernel_rfl),?_⟩
     refine tkq 8 rfl ?_
     refine tkq 9 rfl ?_
     refine tkq 10 rfl ?_
     refine Zi 11 rfl (fun K hK=>?_)
     go_simp
     obtain ⟨v4,q,e9,el,hbN,hlN⟩:=nm1 v3 (wO 0 (.slice none 0 0))
     unfold wO at e9
     refine hK _ _ ?_;clear hK K
     rw [←e9,←el]
     clear e9
     have hq0:w2.heap.size≤q:=by rw [el];exact HB.out.size
     clear el
     have HB:=Qh (Ze HB.out hbN)
     have HR:=Qh (HR.out.below hbN)
     have HQ:=Qh (Qi hlN hq0)
     clear hbN hlN hq0
     refine ⟨Or.inl (by kernel_rfl),?_⟩
     refine Zi 12 rfl (fun K hK=>?_)
     have hq:=HQ.out.1
     obtain ⟨y0,y1⟩:=cs2 hq
     have y2:=Zd hq 0
     have y3:=Zd hq 1
     clear hq
     go_simp
     refine hK _ _ ?_;clear hK K
     refine ⟨Or.inl (by kernel_rfl),?_⟩
     refine tkq 13 rfl ?_
     refine ZX (by kernel_rfl) ?_ _
     clear y0 y1 y2 y3
     try clear HC
     go_wp2_with fail
     go_meet
     exact ⟨q,MA,mn,mc,rfl,rfl,Yw _ _ HQ.out.1,HR.out.keep HN2.out HQ.out.1 (fun b _ hb=>YE _ _ _ _ hb),HQ.out.2,YB _ _ HB.out HQ.out.2⟩
    ·refine wpOp_step rfl (fun K hK=>?_)
     go_simp
     obtain ⟨v3,q,e9,el,hbN,hlN⟩:=nm1 v2 (wO 0 (.slice none 0 0))
     unfold wO at e9
     refine hK _ _ ?_;clear hK K
     rw [←e9,←el]
     clear e9
     have hq0:w2.heap.size≤q:=by rw [el];exact HB.out.size
     clear el
     have HB:=Qh (Ze HB.out hbN)
     have HC:=cr5 hbN HC
     have HM:=Qh (HM.out.below hbN)
     have HQ:=Qh (Qi hlN hq0)
     clear hbN hlN hq0
     exact Tq2
   ·refine wpOp_step rfl (fun K hK=>?_)
    go_simp
    obtain ⟨v2,q,e9,el,hbN,hlN⟩:=nm1 v1 (wO 0 (.slice none 0 0))
    unfold wO at e9
    refine hK _ _ ?_;clear hK K
    rw [←e9,←el]
    clear e9
    have hq0:w2.heap.size≤q:=by rw [el];exact HB.out.size
    clear el
    have HB:=Qh (Ze HB.out hbN)
    have HC:=cr5 hbN HC
    have HL:=Qh ((hbN.block _ (lt_of_block HL.out)).trans HL.out)
    have HQ:=Qh (Qi hlN hq0)
    clear hbN hlN hq0
    exact Tq92
  ·refine wpOp_step rfl (fun K hK=>?_)
   go_simp
   obtain ⟨v1,q,e9,el,hbN,hlN⟩:=nm1 wd (wO 0 (.slice none 0 0))
   unfold wO at e9
   refine hK _ _ ?_;clear hK K
   rw [←e9,←el]
   clear e9
   have hq0:w2.heap.size≤q:=by rw [el];exact HB.out.size
   clear el
   have HB:=Qh (Ze HB.out hbN)
   have HC:=cr5 hbN HC
   have HQ:=Qh (Qi hlN hq0)
   clear hbN hlN hq0
   refine ⟨Or.inr HC,?_⟩
   refine Zi 5 rfl (fun K hK=>?_)
   go_simp
   obtain ⟨v2,lb,e9,el,hbN,hlN⟩:=nm1 v1 (.cells #[.slice X.GA X.gn X.gc,.slice SA sn sc] 48 (0,0))
   refine hK _ _ ?_;clear hK K
   rw [←e9,←el]
   clear e9 el
   have HB:=Qh (Ze HB.out hbN)
   have HC:=cr5 hbN HC
   have HQ:=Qh (Qi ((hbN.block _ (lt_of_block HQ.out.1)).trans HQ.out.1) HQ.out.2)
   have HL:=Qh hlN
   clear hbN hlN
   exact Tq92
 case rest=>
 obtain ⟨q,MA,mn,mc,rfl,rfl,hq,hM,hlo,hb5⟩:=hcut
 obtain ⟨w5,e5⟩:∃ W,W=wc:=⟨_,rfl⟩
 rw [←e5] at hq hM hb5 ⊢
 clear e5
 have hE5:=hE2.below hb5
 have hnl:(Z7 X k).length≤12:=by unfold Z7 QT;rw [Zdg];exact H1.out.2.2.2.2
 have hnv:Zl X.vt (Z7 X k)=true:=ZeX H1.out.1.2.vb H1.out.1.2.vv (by have:=H1.out.2.2.2.2;omega)
 have F5:=Zh5 X.b.tick X.vt X.BA MA X.bn X.bc mn mc X.b.es (Z7 X k) w5 hE5.T hE5.B hM H1.out.1.2.vb hnv ⟨H1.out.1.2.lb,hnl⟩
 have f2:w5.cell? ⟨X.bb,2,none⟩=some (.int .i64 X.b.tick):=Za hE5.hb 2 _ rfl
 have f3:w5.cell? ⟨X.bb,3,none⟩=some (.slice X.BA X.bn X.bc):=Za hE5.hb 3 _ rfl
 obtain ⟨f4,f5⟩:=cs2 hq
 have H5:=Qh (Qi (Qi hq hM) (Qi hlo (Qi hb5 (Qi hnl hnv))))
 clear hq hM hlo hb5 hnl hnv hE5 hE2
 go_upto_region 8 with (go_at_call 52;refine F5.mono ?_;rintro e w6 ⟨PA,pn,pc,rfl,⟨hpn,hpr,hpz⟩,hb6⟩;have H6:=Qh (Qi (Qi hpn (Qi hpr hpz)) hb6);clear hpn hpr hpz hb6)
 clear f2 f3 f4 f5 F5
 have Zcq:=Ze H5.out.2.2.1 H6.out.2
 have hE6:=(H1.out.1.1.below H2.out.2.2).below Zcq
 have ZaA:Below w1.heap.size w1 w6:=Ze H2.out.2.2 Zcq
 have hpn:pn≤40000:=by rw [H6.out.1.1];exact ZpJ H1.out.1.2.vb H5.out.2.2.2.2 ⟨H1.out.1.2.lb,H5.out.2.2.2.1⟩
 have g6:w6.heap[g]?=some ZR:=(ZaA.block _ (Zh H1.out.2.1)).trans H1.out.2.1
 have f6:w6.cell? ⟨X.zb,0,none⟩=some (.int .i64 X.size):=Za hE6.hz 0 _ rfl
 have u6:wrap64 (8+(pn:Int))=8+(pn:Int):=Zn _ (by omega) (by omega)
 by_cases hfit:8+(pn:Int)≤X.size
 rotate_left
 ·have d6:decide (X.size<8+(pn:Int))=true:=decide_eq_true (by omega)
  have hfz:=fun i=>Zd g6 i
  obtain ⟨z0,z1,z2,z3,z4⟩:=ce5 g6
  have H7:=Qh (Qi g6 (Qi ZaA hfit))
  clear g6 ZaA hfit hE6 hpn Zcq
  go_wp2_with fail
  refine bodyPost_ret (Za9 rfl _ _ g _ rfl rfl (Yk (.int .i64 0) (.int .i64 0) (.int .i64 0) (.slice none 0 0) (.slice none 0 0) H7.out.1)) rfl ?_
  refine .inl ⟨by have h:=H7.out.2.2;rw [H6.out.1.1] at h;show X.size<8+((Zk (Xo X.b.tick X.vt X.b.es (Z7 X k)):Nat):Int);omega,rfl,Yl _ _ _ _ _ (Ze H1.out.2.2.1 H7.out.2.1) HG.out⟩
 have d6:decide (X.size<8+(pn:Int))=false:=decide_eq_false (by omega)
 obtain ⟨f0,f1,f2,f3,f4⟩:=ce5 hE6.hs
 have F7:=ZiB X.s.cl X.s.next X.s.acked X.s.log X.s.items X.LA X.IA X.ln X.lc X.iN X.ic w6 hE6.L hE6.I (by have:=H1.out.1.2.ln;omega) (fun r hr=>by have:=H1.out.1.2.les r hr;omega) H1.out.1.2.ic
 have H7:=Qh (Qi (Qi hE6 g6) (Qi ZaA (Qi hfit (Qi hpn Zcq))))
 clear hE6 g6 ZaA hfit hpn Zcq
 go_upto_region 11 with (go_at_call 53;refine F7.mono ?_;rintro e w7 ⟨B0,B2,OA,QA,oc,qc,ls,rfl,hls,Zjl⟩;obtain ⟨B,hB7,hS7⟩:=Zjl.rowBase;have H8:=Qh (Qi hls (Qi hS7 hB7));clear hls hS7 Zjl hB7)
 clear f0 f1 f2 f3 f4 d6 u6 f6
 obtain ⟨w8,g8,e8,eg8,hS8,Zjm⟩:∃ W q,W=w7.alloc (.cells #[.int .i64 X.s.cl,.int .i64 X.s.next,.int .i64 X.s.acked,.slice OA ls.length oc,.slice QA X.s.items.length qc] 33 (0,0))∧q=w7.heap.size∧Ses w6 W (Zb q (.cells #[.int .i64 X.s.cl,.int .i64 X.s.next,.int .i64 X.s.acked,.slice OA ls.length oc,.slice QA X.s.items.length qc] 33 (0,0)) :: (rowP B 45 4 ls.length (.slice OA ls.length oc) (lrs ls) :: (ls.map lrP++[rowP B2 134 3 X.s.items.length (.slice QA X.s.items.length qc) (ZM X.s.items)])))∧w7.heap.size≤W.heap.size:=⟨_,_,rfl,rfl,H8.out.2.1.allocObj _,(Zg w7 _).size⟩
 rw [←e8,←eg8]
 clear e8 eg8
 have hE8:=H7.out.1.1.below hS8.bel
 have hg8:w8.heap[g8]?=some (.cells #[.int .i64 X.s.cl,.int .i64 X.s.next,.int .i64 X.s.acked,.slice OA ls.length oc,.slice QA X.s.items.length qc] 33 (0,0)):=hS8.head
 have q8:w8.heap[q]?=some (wO X.vt (.slice MA mn mc)):=((Ze H6.out.2 hS8.bel).block _ (lt_of_block H5.out.1.1)).trans H5.out.1.1
 have p3:w8.cell? ⟨g8,3,none⟩=some (.slice OA ls.length oc):=Za hg8 3 _ rfl
 have p4:=Zd hg8 3
 have f1:w8.cell? ⟨X.sb,1,none⟩=some (.int .i64 X.s.next):=Za hE8.hs 1 _ rfl
 have f2:w8.cell? ⟨X.sb,2,none⟩=some (.int .i64 X.s.acked):=Za hE8.hs 2 _ rfl
 obtain ⟨f4,f5⟩:=cs2 q8
 obtain ⟨x9,ex9⟩:∃ x:LR,x=⟨⟨X.s.next,X.s.acked,X.vt,Z7 X k⟩,[],MA,mn,mc⟩:=⟨_,rfl⟩
 obtain ⟨w9,g9,e9,eg9,hb9,hg9,hS9⟩:∃ W q,W=w8.alloc (.cells #[.int .i64 X.s.next,.int .i64 X.s.acked,.int .i64 X.vt,.slice MA mn mc] 45 (0,0))∧q=w8.heap.size∧Below w8.heap.size w8 W∧(∀ j u,x9.cells[j]?=some u→W.cell? ((⟨q,0,none⟩:Addr).add j)=some u)∧Ses w6 W (rowP B 45 4 ls.length (.slice OA ls.length oc) (lrs ls) :: Zb g8 (.cells #[.int .i64 X.s.cl,.int .i64 X.s.next,.int .i64 X.s.acked,.slice OA ls.length oc,.slice QA X.s.items.length qc] 33 (0,0)) :: (ls.map lrP++[rowP B2 134 3 X.s.items.length (.slice QA X.s.items.length qc) (ZM X.s.items)])):=by
  refine ⟨_,_,rfl,rfl,Zg w8 _,fun j u hj=>?_,(hS8.below (Zg w8 _)).front2⟩
  rw [ex9] at hj
  have hc:=Za (heap_alloc_new w8 (.cells #[.int .i64 X.s.next,.int .i64 X.s.acked,.int .i64 X.vt,.slice MA mn mc] 45 (0,0))) j u (by simpa [LR.cells] using hj)
  rcases j with _ | j
  ·exact hc
  ·simpa [Addr.add] using hc
 obtain ⟨iz,hi,hz0,hz1,hz2⟩:=info_parts Zdx
 have HI:=Qh (Qi hi (Qi hz0 (Qi hz1 hz2)))
 have hlen:ls.length≤34:=by
  have h:=congrArg List.length H8.out.1
  rw [List.length_map] at h
  have:=H7.out.1.1.L.len
  have:=H1.out.1.2.ln
  omega
 have HN:=Qh (Qi (show ls.length+1≤maxLen by unfold maxLen;omega) (Qi (show (ls.length+1)*48≤140737488355328 by omega) (Qi hlen (show B≤w9.heap.size from Nat.le_trans H8.out.2.2 (Nat.le_trans Zjm hb9.size)))))
 have HX9:=Qh ex9
 have H9:=Qh (Qi (Qi hE8 hg8) (Qi q8 (Qi hb9 (Qi hg9 hS9))))
 have p5:w9.cell? ⟨g8,3,none⟩=some (.slice OA ls.length oc):=(hb9.cell (Zc p3)).trans p3
 clear hE8 hg8 q8 hb9 hg9 hS8 hS9 hi hz0 hz1 hz2 hlen Zjm ex9
 go_upto_region 12 with (at_builtin;rw [←e9,←eg9];clear e9 eg9;refine wpList_append_own_at _ rfl (.tmp 64) (.tmp 71) 30 rfl B 45 iz _ 4 48 Tryz.underlying30 HI.out.1 HI.out.2.1 HI.out.2.2.1 HI.out.2.2.2 rfl (by decide) _ ls.length _ rfl (H9.out.2.2.2.2.part (p:=rowP B 45 4 ls.length (.slice OA ls.length oc) (lrs ls)) (.head _)) ⟨g9,0,none⟩ 1 1 x9.cells rfl rfl H9.out.2.2.2.1 (ZbG x9) HN.out.1 HN.out.2.1 (HN.out.2.2.2) ?_;intro v10 w10 JB ZaB _ hblk;obtain ⟨g11,c11,rfl⟩:=ownsRow_succ JB;rw [←Zcg] at JB;have XB:=(H9.out.2.2.2.2.rowApp JB ZaB hblk).front2;have hg8:w10.heap[g8]?=some (.cells #[.int .i64 X.s.cl,.int .i64 X.s.next,.int .i64 X.s.acked,.slice OA ls.length oc,.slice QA X.s.items.length qc] 33 (0,0)):=XB.head;have p6:w10.cell? ⟨g8,3,none⟩=some (.slice OA ls.length oc):=Za hg8 3 _ rfl;have p7:=Zd hg8 3;have H10:=Qh XB;clear JB ZaB hblk XB hg8)
 obtain ⟨w11,e11,ZdP⟩:∃ V,V=w10.setCell ⟨g8,3,none⟩ (.slice (some ⟨g11,0,none⟩) (ls.length+1) c11)∧Ses w6 V (Zb g8 (.cells #[.int .i64 X.s.cl,.int .i64 X.s.next,.int .i64 X.s.acked,.slice (some ⟨g11,0,none⟩) (ls.length+1) c11,.slice QA X.s.items.length qc] 33 (0,0)) :: rowP B 45 4 (ls.length+1) (.slice (some ⟨g11,0,none⟩) (ls.length+1) c11) (lrs (ls++[x9])) :: (ls.map lrP++[rowP B2 134 3 X.s.items.length (.slice QA X.s.items.length qc) (ZM X.s.items)])):=⟨_,rfl,Ses.objSet (i:=3) (.slice (some ⟨g11,0,none⟩) (ls.length+1) c11) H10.out⟩
 rw [←e11]
 clear e11 f1 f2 f4 f5 p3 p4 p5 p6 p7
 have ZfB:=H7.out.1.1.below ZdP.bel
 have ZdM:w11.heap[g8]?=some (.cells #[.int .i64 X.s.cl,.int .i64 X.s.next,.int .i64 X.s.acked,.slice (some ⟨g11,0,none⟩) (ls.length+1) c11,.slice QA X.s.items.length qc] 33 (0,0)):=ZdP.head
 have f2:w11.cell? ⟨X.sb,2,none⟩=some (.int .i64 X.s.acked):=Za ZfB.hs 2 _ rfl
 have p3:w11.cell? ⟨g8,3,none⟩=some (.slice (some ⟨g11,0,none⟩) (ls.length+1) c11):=Za ZdM 3 _ rfl
 obtain ⟨dr,hdr,Zjn⟩:∃ dr:Nat,min X.s.acked 1=(dr:Int)∧dr≤1:=⟨(min X.s.acked 1).toNat,by have:=H1.out.1.2.ak;omega,by omega⟩
 have u0:wrap64 (32+(dr:Int))=32+(dr:Int):=Zn _ (by omega) (by omega)
 obtain ⟨D,eD⟩:∃ D,D=decide ((32+(dr:Int))<((ls.length+1:Nat):Int)):=⟨_,rfl⟩
 have eD2:decide ((32+(dr:Int))<(ls.length:Int)+1)=D:=by rw [eD];congr 1
 have Zjo:=Qh hdr
 have H11:=Qh (Qi (Qi ZfB ZdM) (Qi eD (Qi Zjn ZdP)))
 clear ZfB ZdM eD Zjn ZdP
 rcases D with _ | _
 ·go_upto_region 15 with fail
  obtain ⟨w12,nn,LS,Zar,hnn,hLS,QK⟩:∃ (V:World) (nn:Nat) (LS:List LR),V=w11∧nn=LS.length∧LS=XJ dr false (ls++[x9])∧Ses w6 V (Zb g8 (.cells #[.int .i64 X.s.cl,.int .i64 X.s.next,.int .i64 X.s.acked,.slice (some ⟨g11,0,none⟩) nn c11,.slice QA X.s.items.length qc] 33 (0,0)) :: rowP B 45 4 nn (.slice (some ⟨g11,0,none⟩) nn c11) (lrs LS) :: (ls.map lrP++[rowP B2 134 3 X.s.items.length (.slice QA X.s.items.length qc) (ZM X.s.items)])):=⟨_,ls.length+1,ls++[x9],rfl,by simp,rfl,H11.out.2.2.2⟩
  rw [←Zar]
  clear Zar f2 p3
  have Jw:=H7.out.1.1.below QK.bel
  have Xx:w12.heap[g8]?=some (.cells #[.int .i64 X.s.cl,.int .i64 X.s.next,.int .i64 X.s.acked,.slice (some ⟨g11,0,none⟩) nn c11,.slice QA X.s.items.length qc] 33 (0,0)):=QK.head
  have f1:w12.cell? ⟨X.sb,1,none⟩=some (.int .i64 X.s.next):=Za Jw.hs 1 _ rfl
  have p1:w12.cell? ⟨g8,1,none⟩=some (.int .i64 X.s.next):=Za Xx 1 _ rfl
  have p4:w12.cell? ⟨g8,4,none⟩=some (.slice QA X.s.items.length qc):=Za Xx 4 _ rfl
  have p2:=Zd Xx 1
  have p5:=Zd Xx 4
  have un:wrap64 (X.s.next+1)=X.s.next+1:=Zn _ (by have:=H1.out.1.2.nx;omega) (by have:=H1.out.1.2.nx;omega)
  have H12:=Qh (Qi QK (Qi hnn hLS))
  clear Jw Xx QK hnn hLS
  go_upto_region 16 with fail
  obtain ⟨w13,e13,Zcr⟩:∃ V,V=(w12.setCell ⟨g8,1,none⟩ (.int .i64 (X.s.next+1))).setCell ⟨g8,4,none⟩ (.slice (some ⟨ob,0,none⟩) X.wn X.wn)∧Ses w6 V (Zb g8 (.cells #[.int .i64 X.s.cl,.int .i64 (X.s.next+1),.int .i64 X.s.acked,.slice (some ⟨g11,0,none⟩) nn c11,.slice (some ⟨ob,0,none⟩) X.wn X.wn] 33 (0,0)) :: rowP B 45 4 nn (.slice (some ⟨g11,0,none⟩) nn c11) (lrs LS) :: (ls.map lrP++[rowP B2 134 3 X.s.items.length (.slice QA X.s.items.length qc) (ZM X.s.items)])):=⟨_,rfl,Ses.objSet (i:=4) (.slice (some ⟨ob,0,none⟩) X.wn X.wn) (Ses.objSet (i:=1) (.int .i64 (X.s.next+1)) H12.out.1)⟩
  rw [←e13]
  clear e13 f1 p1 p2 p4 p5 un
  obtain ⟨wd,ed⟩:∃ W,W=w13.drew:=⟨_,rfl⟩
  have hSd:=Zcr.below (w':=wd) (by rw [ed];exact (Below.refl _ _).drew)
  have hgd:wd.heap[g8]?=some (.cells #[.int .i64 X.s.cl,.int .i64 (X.s.next+1),.int .i64 X.s.acked,.slice (some ⟨g11,0,none⟩) nn c11,.slice (some ⟨ob,0,none⟩) X.wn X.wn] 33 (0,0)):=hSd.head
  have hEd:=H7.out.1.1.below hSd.bel
  have HC:wd.cell? ⟨g8,0,none⟩=some (.int .i64 X.s.cl)∧wd.cell? ⟨g8,1,none⟩=some (.int .i64 (X.s.next+1))∧wd.cell? ⟨g8,2,none⟩=some (.int .i64 X.s.acked)∧wd.cell? ⟨g8,3,none⟩=some (.slice (some ⟨g11,0,none⟩) nn c11)∧wd.cell? ⟨g8,4,none⟩=some (.slice (some ⟨ob,0,none⟩) X.wn X.wn)∧wd.cell? ⟨X.sb,1,none⟩=some (.int .i64 X.s.next)∧wd.cell? ⟨X.sb,2,none⟩=some (.int .i64 X.s.acked):=⟨Za hgd 0 _ rfl,Za hgd 1 _ rfl,Za hgd 2 _ rfl,Za hgd 3 _ rfl,Za hgd 4 _ rfl,Za hEd.hs 1 _ rfl,Za hEd.hs 2 _ rfl⟩
  have HB:=Qh (Below.refl wd.heap.size wd)
  have HSd:=Qh (Qi hSd (Qi hgd hEd))
  have HD:=Qh ed
  clear Zcr hSd hgd hEd ed
  obtain ⟨nx,enx,hnx⟩:∃ n:Nat,X.s.next=(n:Int)∧n≤1073741825:=⟨X.s.next.toNat,by have:=H1.out.1.2.nx;omega,by have:=H1.out.1.2.nx;omega⟩
  obtain ⟨na,ena,hna⟩:∃ n:Nat,X.s.acked=(n:Int)∧n≤1073741825:=⟨X.s.acked.toNat,by have:=H1.out.1.2.ak;omega,by have:=H1.out.1.2.ak;omega⟩
  have HNX:=Qh (Qi enx hnx)
  have HNA:=Qh (Qi ena hna)
  clear enx hnx ena hna
  refine Yy (fun W=>W.cell? ⟨g8,0,none⟩=some (.int .i64 X.s.cl)∧W.cell? ⟨g8,1,none⟩=some (.int .i64 (X.s.next+1))∧W.cell? ⟨g8,2,none⟩=some (.int .i64 X.s.acked)∧W.cell? ⟨g8,3,none⟩=some (.slice (some ⟨g11,0,none⟩) nn c11)∧W.cell? ⟨g8,4,none⟩=some (.slice (some ⟨ob,0,none⟩) X.wn X.wn)∧W.cell? ⟨X.sb,1,none⟩=some (.int .i64 X.s.next)∧W.cell? ⟨X.sb,2,none⟩=some (.int .i64 X.s.acked)) 10 hmx ?_
  change Zz _ _ _ _ _ _ _ _ _ (World.drew _)
  rw [←HD.out]
  refine tkp 1 rfl (Or.inr HC) ?_
  refine tkp 4 rfl (Or.inr HC) ?_
  refine tkp 7 rfl (Or.inr HC) ?_
  refine tkl 0 rfl HC (by intro W ⟨hC0,hC1,hC2,hC3,hC4,hC5,hC6⟩;go_simp;try with_reducible rfl) ?_
  refine tkl 2 rfl HC (by intro W ⟨hC0,hC1,hC2,hC3,hC4,hC5,hC6⟩;go_simp;try with_reducible rfl) ?_
  refine tkl 5 rfl HC (by intro W ⟨hC0,hC1,hC2,hC3,hC4,hC5,hC6⟩;go_simp;try with_reducible rfl) ?_
  refine Zi 3 rfl (fun K hK=>?_)
  go_simp
  have FB:=ZdE nx HNX.out.2 wd
  rw [←HNX.out.1] at FB
  refine FB.mono ?_
  rintro e v21 ⟨rfl,ev⟩
  have hbN:Below wd.heap.size wd v21:=by rw [ev];exact Zg wd _
  have hlN:v21.heap[wd.heap.size]?=some (.cells #[.int .u8 ((nx / 16777216:Nat):Int),.int .u8 ((nx / 65536 % 256:Nat):Int),.int .u8 ((nx / 256 % 256:Nat):Int),.int .u8 ((nx % 256:Nat):Int)] 5 (0,0)):=by rw [ev];exact heap_alloc_new wd _
  obtain ⟨b1,eb⟩:∃ q,q=wd.heap.size:=⟨_,rfl⟩
  rw [←eb] at hlN ⊢
  clear eb ev FB
  have HC:=cr7 hbN HC
  have HB:=Qh (Ze HB.out hbN)
  have HL1:=Qh hlN
  clear hbN hlN
  refine hK _ _ ?_;clear hK K
  refine ⟨Or.inr HC,?_⟩
  refine Zi 6 rfl (fun K hK=>?_)
  go_simp
  have FB:=ZdE na HNA.out.2 v21
  rw [←HNA.out.1] at FB
  refine FB.mono ?_
  rintro e v22 ⟨rfl,ev⟩
  have hbN:Below v21.heap.size v21 v22:=by rw [ev];exact Zg v21 _
  have hlN:v22.heap[v21.heap.size]?=some (.cells #[.int .u8 ((na / 16777216:Nat):Int),.int .u8 ((na / 65536 % 256:Nat):Int),.int .u8 ((na / 256 % 256:Nat):Int),.int .u8 ((na % 256:Nat):Int)] 5 (0,0)):=by rw [ev];exact heap_alloc_new v21 _
  obtain ⟨b2,eb⟩:∃ q,q=v21.heap.size:=⟨_,rfl⟩
  rw [←eb] at hlN ⊢
  clear eb ev FB
  have HC:=cr7 hbN HC
  have HB:=Qh (Ze HB.out hbN)
  have HL1:=Qh ((hbN.block _ (lt_of_block HL1.out)).trans HL1.out)
  have HL2:=Qh hlN
  clear hbN hlN
  refine hK _ _ ?_;clear hK K
  refine ⟨Or.inr HC,?_⟩
  refine Zi 8 rfl (fun K hK=>?_)
  go_simp
  obtain ⟨v23,lb,e9,el,hbN,hlN⟩:=nm1 v22 (.cells #[.slice (some ⟨b1,0,none⟩) 4 4,.slice (some ⟨b2,0,none⟩) 4 4,.slice PA pn pc] 41 (0,0))
  refine hK _ _ ?_;clear hK K
  rw [←e9,←el]
  clear e9 el
  have HC:=cr7 hbN HC
  have HB:=Qh (Ze HB.out hbN)
  have HL1:=Qh ((hbN.block _ (lt_of_block HL1.out)).trans HL1.out)
  have HL2:=Qh ((hbN.block _ (lt_of_block HL2.out)).trans HL2.out)
  have HL3:=Qh hlN
  clear hbN hlN
  refine ⟨Or.inr HC,?_⟩
  refine Zi 9 rfl (fun K hK=>?_)
  go_simp
  have hbp:Z8 v23 PA pn (M.byteOf (ZB X k)):=ZdJ H6.out.1.2.1 (Ze HSd.out.1.bel HB.out)
  refine (ZiN lb 3 [⟨some ⟨b1,0,none⟩,4,4,[.int .u8 ((nx / 16777216:Nat):Int),.int .u8 ((nx / 65536 % 256:Nat):Int),.int .u8 ((nx / 256 % 256:Nat):Int),.int .u8 ((nx % 256:Nat):Int)]⟩,⟨some ⟨b2,0,none⟩,4,4,[.int .u8 ((na / 16777216:Nat):Int),.int .u8 ((na / 65536 % 256:Nat):Int),.int .u8 ((na / 256 % 256:Nat):Int),.int .u8 ((na % 256:Nat):Int)]⟩,⟨PA,pn,pc,byV pn (M.byteOf (ZB X k))⟩] v23 rfl (ZiW (ZdK HL1.out rfl (ZdL _ _ _ _)) (ZdK HL2.out rfl (ZdL _ _ _ _)) (ZiV hbp H6.out.1.2.2)) (ZiX HL3.out) (by have:=H7.out.2.2.2.1;simp only [Yf,List.map_cons,List.map_nil,List.sum_cons,List.sum_nil];omega) (by decide)).mono ?_
  rintro e v24 ⟨pv,rfl,hown,hbN⟩
  have HC:=cr7 hbN HC
  have HZ:=Qh HB.out.size
  have HB:=Qh (Ze HB.out hbN)
  have HPV:=Qh hown
  have gz:v24.heap[g]?=some ZR:=((Ze HSd.out.1.bel HB.out).block _ (Zh H7.out.1.2)).trans H7.out.1.2
  have hfz:=fun i=>Zd gz i
  obtain ⟨z0,z1,z2,z3,z4⟩:=ce5 gz
  have HGZ:=Qh gz
  clear hown hbN hbp gz
  refine hK _ _ ?_;clear hK K
  refine ⟨Or.inr HC,?_⟩
  refine Zi 10 rfl (fun K hK=>?_)
  go_simp
  refine hK _ _ ?_;clear hK K
  refine ⟨Or.inl (by kernel_rfl),?_⟩
  refine tkq 11 rfl ?_
  refine tkq 12 rfl ?_
  refine ZX (by kernel_rfl) ?_ _
  clear HC z0 z1 z2 z3 z4 hfz
  go_wp2_with fail
  refine bodyPost_ret (Za9 rfl _ _ g _ rfl rfl (Yk (.int .i64 X.s.cl) (.int .i64 (X.s.next+1)) (.int .i64 X.s.acked) (.slice (some ⟨g11,0,none⟩) nn c11) (.slice (some ⟨ob,0,none⟩) X.wn X.wn) HGZ.out)) rfl ?_
  have hg1:=lt_of_block H1.out.2.1
  have hg6:=lt_of_block H7.out.1.2
  have hz6:=HSd.out.1.bel.size
  have hzz:=HZ.out
  have hzw:=H1.out.2.2.1.size
  exact Zi1 X k w w6 wd v24 g g8 g11 ob c11 nn B B2 dr mn mc v23.heap.size pn pc nx na b1 b2 MA QA PA qc _ ls LS x9 pv _ HX9.out ⟨H12.out.2.1,H12.out.2.2⟩ H8.out.1 H11.out.2.1 Zjo.out HSd.out.1 (H5.out.1.2.below H6.out.2) (fun e he=>(Z4 H5.out.2.2.2.2 e he).1) ((H2.out.1.1.below H5.out.2.2.1).below H6.out.2) (by have:=H2.out.1.2;omega) hg6 HG.out (Ze (Ze H1.out.2.2.1 H7.out.2.1) (Ze HSd.out.1.bel HB.out)) HB.out HGZ.out HPV.out ⟨by have:=HG.out;omega,by omega⟩ H6.out.1.1 HNX.out.1 HNA.out.1 H7.out.2.2.1 (by have:=HN.out.2.2.1;omega)
 have F11:=Zpn B g11 c11 (ls.length+1) dr (dr+1) (lrs (ls++[x9])) w11 H11.out.2.2.2.tail.head (fun u hu=>by
  unfold lrs at hu
  obtain ⟨y,_,hy⟩:=List.mem_flatMap.1 hu
  exact ZbG y u hy) (by omega) (by have:=of_decide_eq_true H11.out.2.1.symm;omega) (by have:=HN.out.2.2.1;omega)
 have eJ:((dr+1:Nat):Int)=(dr:Int)+1:=by omega
 rw [eJ] at F11
 obtain ⟨dn,edn⟩:∃ dn,dn=dr+(ls.length+1-(dr+1)):=⟨_,rfl⟩
 rw [←edn] at F11
 have Hdn:=Qh edn
 clear edn
 have u1:wrap64 ((dr:Int)+1)=(dr:Int)+1:=Zn _ (by have:=H11.out.2.2.1;omega) (by have:=H11.out.2.2.1;omega)
 clear eJ
 go_upto_region 15 with (go_at_call 54;refine F11.mono ?_;rintro e v12 ⟨rfl,ZfC,Xx⟩;rw [Zfl,ZdC,←ZpL] at ZfC;have QK:=(Ses.rowApp (v':=.slice (some ⟨g11,0,none⟩) dn c11) (Ses.front2 H11.out.2.2.2) ZfC Xx (.inl rfl)).front2;have hg8:v12.heap[g8]?=some (.cells #[.int .i64 X.s.cl,.int .i64 X.s.next,.int .i64 X.s.acked,.slice (some ⟨g11,0,none⟩) (ls.length+1) c11,.slice QA X.s.items.length qc] 33 (0,0)):=QK.head;have p6:v12.cell? ⟨g8,3,none⟩=some (.slice (some ⟨g11,0,none⟩) (ls.length+1) c11):=Za hg8 3 _ rfl;have p7:=Zd hg8 3;have H12:=Qh QK;clear ZfC Xx QK hg8)
 obtain ⟨w12,nn,LS,Zar,hnn,hLS,QK⟩:∃ (V:World) (nn:Nat) (LS:List LR),V=v12.setCell ⟨g8,3,none⟩ (.slice (some ⟨g11,0,none⟩) dn c11)∧nn=LS.length∧LS=XJ dr true (ls++[x9])∧Ses w6 V (Zb g8 (.cells #[.int .i64 X.s.cl,.int .i64 X.s.next,.int .i64 X.s.acked,.slice (some ⟨g11,0,none⟩) nn c11,.slice QA X.s.items.length qc] 33 (0,0)) :: rowP B 45 4 nn (.slice (some ⟨g11,0,none⟩) nn c11) (lrs LS) :: (ls.map lrP++[rowP B2 134 3 X.s.items.length (.slice QA X.s.items.length qc) (ZM X.s.items)])):=⟨_,dn,(ls++[x9]).take dr++(ls++[x9]).drop (dr+1),rfl,(by rw [Hdn.out,List.length_append,List.length_take,List.length_drop,List.length_append,List.length_singleton];have:=of_decide_eq_true H11.out.2.1.symm;omega),rfl,Ses.objSet (i:=3) (.slice (some ⟨g11,0,none⟩) dn c11) H12.out⟩
 rw [←Zar]
 clear Zar f2 p3 p6 p7
 have Jw:=H7.out.1.1.below QK.bel
 have Xx:w12.heap[g8]?=some (.cells #[.int .i64 X.s.cl,.int .i64 X.s.next,.int .i64 X.s.acked,.slice (some ⟨g11,0,none⟩) nn c11,.slice QA X.s.items.length qc] 33 (0,0)):=QK.head
 have f1:w12.cell? ⟨X.sb,1,none⟩=some (.int .i64 X.s.next):=Za Jw.hs 1 _ rfl
 have p1:w12.cell? ⟨g8,1,none⟩=some (.int .i64 X.s.next):=Za Xx 1 _ rfl
 have p4:w12.cell? ⟨g8,4,none⟩=some (.slice QA X.s.items.length qc):=Za Xx 4 _ rfl
 have p2:=Zd Xx 1
 have p5:=Zd Xx 4
 have un:wrap64 (X.s.next+1)=X.s.next+1:=Zn _ (by have:=H1.out.1.2.nx;omega) (by have:=H1.out.1.2.nx;omega)
 have H12:=Qh (Qi QK (Qi hnn hLS))
 clear Jw Xx QK hnn hLS
 go_upto_region 16 with fail
 obtain ⟨w13,e13,Zcr⟩:∃ V,V=(w12.setCell ⟨g8,1,none⟩ (.int .i64 (X.s.next+1))).setCell ⟨g8,4,none⟩ (.slice (some ⟨ob,0,none⟩) X.wn X.wn)∧Ses w6 V (Zb g8 (.cells #[.int .i64 X.s.cl,.int .i64 (X.s.next+1),.int .i64 X.s.acked,.slice (some ⟨g11,0,none⟩) nn c11,.slice (some ⟨ob,0,none⟩) X.wn X.wn] 33 (0,0)) :: rowP B 45 4 nn (.slice (some ⟨g11,0,none⟩) nn c11) (lrs LS) :: (ls.map lrP++[rowP B2 134 3 X.s.items.length (.slice QA X.s.items.length qc) (ZM X.s.items)])):=⟨_,rfl,Ses.objSet (i:=4) (.slice (some ⟨ob,0,none⟩) X.wn X.wn) (Ses.objSet (i:=1) (.int .i64 (X.s.next+1)) H12.out.1)⟩
 rw [←e13]
 clear e13 f1 p1 p2 p4 p5 un
 obtain ⟨wd,ed⟩:∃ W,W=w13.drew:=⟨_,rfl⟩
 have hSd:=Zcr.below (w':=wd) (by rw [ed];exact (Below.refl _ _).drew)
 have hgd:wd.heap[g8]?=some (.cells #[.int .i64 X.s.cl,.int .i64 (X.s.next+1),.int .i64 X.s.acked,.slice (some ⟨g11,0,none⟩) nn c11,.slice (some ⟨ob,0,none⟩) X.wn X.wn] 33 (0,0)):=hSd.head
 have hEd:=H7.out.1.1.below hSd.bel
 have HC:wd.cell? ⟨g8,0,none⟩=some (.int .i64 X.s.cl)∧wd.cell? ⟨g8,1,none⟩=some (.int .i64 (X.s.next+1))∧wd.cell? ⟨g8,2,none⟩=some (.int .i64 X.s.acked)∧wd.cell? ⟨g8,3,none⟩=some (.slice (some ⟨g11,0,none⟩) nn c11)∧wd.cell? ⟨g8,4,none⟩=some (.slice (some ⟨ob,0,none⟩) X.wn X.wn)∧wd.cell? ⟨X.sb,1,none⟩=some (.int .i64 X.s.next)∧wd.cell? ⟨X.sb,2,none⟩=some (.int .i64 X.s.acked):=⟨Za hgd 0 _ rfl,Za hgd 1 _ rfl,Za hgd 2 _ rfl,Za hgd 3 _ rfl,Za hgd 4 _ rfl,Za hEd.hs 1 _ rfl,Za hEd.hs 2 _ rfl⟩
 have HB:=Qh (Below.refl wd.heap.size wd)
 have HSd:=Qh (Qi hSd (Qi hgd hEd))
 have HD:=Qh ed
 clear Zcr hSd hgd hEd ed
 obtain ⟨nx,enx,hnx⟩:∃ n:Nat,X.s.next=(n:Int)∧n≤1073741825:=⟨X.s.next.toNat,by have:=H1.out.1.2.nx;omega,by have:=H1.out.1.2.nx;omega⟩
 obtain ⟨na,ena,hna⟩:∃ n:Nat,X.s.acked=(n:Int)∧n≤1073741825:=⟨X.s.acked.toNat,by have:=H1.out.1.2.ak;omega,by have:=H1.out.1.2.ak;omega⟩
 have HNX:=Qh (Qi enx hnx)
 have HNA:=Qh (Qi ena hna)
 clear enx hnx ena hna
 refine Yy (fun W=>W.cell? ⟨g8,0,none⟩=some (.int .i64 X.s.cl)∧W.cell? ⟨g8,1,none⟩=some (.int .i64 (X.s.next+1))∧W.cell? ⟨g8,2,none⟩=some (.int .i64 X.s.acked)∧W.cell? ⟨g8,3,none⟩=some (.slice (some ⟨g11,0,none⟩) nn c11)∧W.cell? ⟨g8,4,none⟩=some (.slice (some ⟨ob,0,none⟩) X.wn X.wn)∧W.cell? ⟨X.sb,1,none⟩=some (.int .i64 X.s.next)∧W.cell? ⟨X.sb,2,none⟩=some (.int .i64 X.s.acked)) 10 hmx ?_
 change Zz _ _ _ _ _ _ _ _ _ (World.drew _)
 rw [←HD.out]
 refine tkp 1 rfl (Or.inr HC) ?_
 refine tkp 4 rfl (Or.inr HC) ?_
 refine tkp 7 rfl (Or.inr HC) ?_
 refine tkl 0 rfl HC (by intro W ⟨hC0,hC1,hC2,hC3,hC4,hC5,hC6⟩;go_simp;try with_reducible rfl) ?_
 refine tkl 2 rfl HC (by intro W ⟨hC0,hC1,hC2,hC3,hC4,hC5,hC6⟩;go_simp;try with_reducible rfl) ?_
 refine tkl 5 rfl HC (by intro W ⟨hC0,hC1,hC2,hC3,hC4,hC5,hC6⟩;go_simp;try with_reducible rfl) ?_
 refine Zi 3 rfl (fun K hK=>?_)
 go_simp
 have FB:=ZdE nx HNX.out.2 wd
 rw [←HNX.out.1] at FB
 refine FB.mono ?_
 rintro e v21 ⟨rfl,ev⟩
 have hbN:Below wd.heap.size wd v21:=by rw [ev];exact Zg wd _
 have hlN:v21.heap[wd.heap.size]?=some (.cells #[.int .u8 ((nx / 16777216:Nat):Int),.int .u8 ((nx / 65536 % 256:Nat):Int),.int .u8 ((nx / 256 % 256:Nat):Int),.int .u8 ((nx % 256:Nat):Int)] 5 (0,0)):=by rw [ev];exact heap_alloc_new wd _
 obtain ⟨b1,eb⟩:∃ q,q=wd.heap.size:=⟨_,rfl⟩
 rw [←eb] at hlN ⊢
 clear eb ev FB
 have HC:=cr7 hbN HC
 have HB:=Qh (Ze HB.out hbN)
 have HL1:=Qh hlN
 clear hbN hlN
 refine hK _ _ ?_;clear hK K
 refine ⟨Or.inr HC,?_⟩
 refine Zi 6 rfl (fun K hK=>?_)
 go_simp
 have FB:=ZdE na HNA.out.2 v21
 rw [←HNA.out.1] at FB
 refine FB.mono ?_
 rintro e v22 ⟨rfl,ev⟩
 have hbN:Below v21.heap.size v21 v22:=by rw [ev];exact Zg v21 _
 have hlN:v22.heap[v21.heap.size]?=some (.cells #[.int .u8 ((na / 16777216:Nat):Int),.int .u8 ((na / 65536 % 256:Nat):Int),.int .u8 ((na / 256 % 256:Nat):Int),.int .u8 ((na % 256:Nat):Int)] 5 (0,0)):=by rw [ev];exact heap_alloc_new v21 _
 obtain ⟨b2,eb⟩:∃ q,q=v21.heap.size:=⟨_,rfl⟩
 rw [←eb] at hlN ⊢
 clear eb ev FB
 have HC:=cr7 hbN HC
 have HB:=Qh (Ze HB.out hbN)
 have HL1:=Qh ((hbN.block _ (lt_of_block HL1.out)).trans HL1.out)
 have HL2:=Qh hlN
 clear hbN hlN
 refine hK _ _ ?_;clear hK K
 refine ⟨Or.inr HC,?_⟩
 refine Zi 8 rfl (fun K hK=>?_)
 go_simp
 obtain ⟨v23,lb,e9,el,hbN,hlN⟩:=nm1 v22 (.cells #[.slice (some ⟨b1,0,none⟩) 4 4,.slice (some ⟨b2,0,none⟩) 4 4,.slice PA pn pc] 41 (0,0))
 refine hK _ _ ?_;clear hK K
 rw [←e9,←el]
 clear e9 el
 have HC:=cr7 hbN HC
 have HB:=Qh (Ze HB.out hbN)
 have HL1:=Qh ((hbN.block _ (lt_of_block HL1.out)).trans HL1.out)
 have HL2:=Qh ((hbN.block _ (lt_of_block HL2.out)).trans HL2.out)
 have HL3:=Qh hlN
 clear hbN hlN
 refine ⟨Or.inr HC,?_⟩
 refine Zi 9 rfl (fun K hK=>?_)
 go_simp
 have hbp:Z8 v23 PA pn (M.byteOf (ZB X k)):=ZdJ H6.out.1.2.1 (Ze HSd.out.1.bel HB.out)
 refine (ZiN lb 3 [⟨some ⟨b1,0,none⟩,4,4,[.int .u8 ((nx / 16777216:Nat):Int),.int .u8 ((nx / 65536 % 256:Nat):Int),.int .u8 ((nx / 256 % 256:Nat):Int),.int .u8 ((nx % 256:Nat):Int)]⟩,⟨some ⟨b2,0,none⟩,4,4,[.int .u8 ((na / 16777216:Nat):Int),.int .u8 ((na / 65536 % 256:Nat):Int),.int .u8 ((na / 256 % 256:Nat):Int),.int .u8 ((na % 256:Nat):Int)]⟩,⟨PA,pn,pc,byV pn (M.byteOf (ZB X k))⟩] v23 rfl (ZiW (ZdK HL1.out rfl (ZdL _ _ _ _)) (ZdK HL2.out rfl (ZdL _ _ _ _)) (ZiV hbp H6.out.1.2.2)) (ZiX HL3.out) (by have:=H7.out.2.2.2.1;simp only [Yf,List.map_cons,List.map_nil,List.sum_cons,List.sum_nil];omega) (by decide)).mono ?_
 rintro e v24 ⟨pv,rfl,hown,hbN⟩
 have HC:=cr7 hbN HC
 have HZ:=Qh HB.out.size
 have HB:=Qh (Ze HB.out hbN)
 have HPV:=Qh hown
 have gz:v24.heap[g]?=some ZR:=((Ze HSd.out.1.bel HB.out).block _ (Zh H7.out.1.2)).trans H7.out.1.2
 have hfz:=fun i=>Zd gz i
 obtain ⟨z0,z1,z2,z3,z4⟩:=ce5 gz
 have HGZ:=Qh gz
 clear hown hbN hbp gz
 refine hK _ _ ?_;clear hK K
 refine ⟨Or.inr HC,?_⟩
 refine Zi 10 rfl (fun K hK=>?_)
 go_simp
 refine hK _ _ ?_;clear hK K
 refine ⟨Or.inl (by kernel_rfl),?_⟩
 refine tkq 11 rfl ?_
 refine tkq 12 rfl ?_
 refine ZX (by kernel_rfl) ?_ _
 clear HC z0 z1 z2 z3 z4 hfz
 go_wp2_with fail
 refine bodyPost_ret (Za9 rfl _ _ g _ rfl rfl (Yk (.int .i64 X.s.cl) (.int .i64 (X.s.next+1)) (.int .i64 X.s.acked) (.slice (some ⟨g11,0,none⟩) nn c11) (.slice (some ⟨ob,0,none⟩) X.wn X.wn) HGZ.out)) rfl ?_
 have hg1:=lt_of_block H1.out.2.1
 have hg6:=lt_of_block H7.out.1.2
 have hz6:=HSd.out.1.bel.size
 have hzz:=HZ.out
 have hzw:=H1.out.2.2.1.size
 exact Zi1 X k w w6 wd v24 g g8 g11 ob c11 nn B B2 dr mn mc v23.heap.size pn pc nx na b1 b2 MA QA PA qc _ ls LS x9 pv _ HX9.out ⟨H12.out.2.1,H12.out.2.2⟩ H8.out.1 H11.out.2.1 Zjo.out HSd.out.1 (H5.out.1.2.below H6.out.2) (fun e he=>(Z4 H5.out.2.2.2.2 e he).1) ((H2.out.1.1.below H5.out.2.2.1).below H6.out.2) (by have:=H2.out.1.2;omega) hg6 HG.out (Ze (Ze H1.out.2.2.1 H7.out.2.1) (Ze HSd.out.1.bel HB.out)) HB.out HGZ.out HPV.out ⟨by have:=HG.out;omega,by omega⟩ H6.out.1.1 HNX.out.1 HNA.out.1 H7.out.2.2.1 (by have:=HN.out.2.2.1;omega)
end
end Go.Proofs.YtlgcfimhfmgkmaaGreatDoor
