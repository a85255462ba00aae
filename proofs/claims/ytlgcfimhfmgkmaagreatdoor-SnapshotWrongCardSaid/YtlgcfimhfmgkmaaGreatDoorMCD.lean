/- Lemmas for the statement. -/
import Derived.Test.YtlgcfimhfmgkmaaGreatDoorMCC
set_option linter.unusedVariables false
set_option linter.unusedSimpArgs false
namespace Go.Proofs.YtlgcfimhfmgkmaaGreatDoor
open Go.RowKit
section
theorem Ts2 {p:Prop} (h:p:=by
 try go_simp
 refine Zi 8 rfl (fun K hK=>?_)
 have hq:=HQN.out
 have y0:vd3.cell? ⟨q20,0,none⟩=some (.int .i64 0):=Za hq 0 _ rfl
 have y1:vd3.cell? ⟨q20,1,none⟩=some (.int .i64 0):=Za hq 1 _ rfl
 have y2:vd3.cell? ⟨q20,2,none⟩=some (.int .i64 0):=Za hq 2 _ rfl
 have y3:vd3.cell? ⟨q20,3,none⟩=some (.slice none 0 0):=Za hq 3 _ rfl
 have y4:vd3.cell? ⟨q20,4,none⟩=some (.slice none 0 0):=Za hq 4 _ rfl
 have y5:=Zd hq 0
 have y6:=Zd hq 1
 have y7:=Zd hq 2
 have y8:=Zd hq 3
 have y9:=Zd hq 4
 clear hq
 go_simp
 clear y0 y1 y2 y3 y4 y5 y6 y7 y8 y9
 refine hK _ _ ?_;clear hK K
 refine ⟨Or.inl (by kernel_rfl),?_⟩
 try go_simp
 refine tkq 9 rfl ?_
 try go_simp
 refine tkq 10 rfl ?_
 try go_simp
 refine ZX (by kernel_rfl) ?_ _
 try clear HC
 go_wp2_with fail
 go_meet
 exact ⟨rfl,Yl _ _ _ _ _ HB.out Qv.out⟩):p:=h
theorem Ts4 {p:Prop} (h:p:=by
 rintro e vd3 ⟨rfl,hbN⟩
 have HB:=Qh (Ze HB.out hbN)
 have HQN:=Qh ((hbN.block _ (lt_of_block HQN.out)).trans HQN.out)
 clear hbN
 refine hK _ _ ?_;clear hK K
 refine ⟨Or.inl (by kernel_rfl),?_⟩
 try go_simp
 refine tkq 3 rfl ?_
 try go_simp
 refine tkq 4 rfl ?_
 try go_simp
 refine tkq 5 rfl ?_
 try go_simp
 refine tkq 6 rfl ?_
 exact Ts2):p:=h
set_option maxRecDepth 100000 in
set_option maxHeartbeats 16000000 in
theorem Uo (a:Nat) (n:Int) (w w8 wl:World) (q1 q15 g1 c1 n1 B1:Nat) (LA5 IA5 RA:Option Addr) (ln5 lc5 iN5 ic5 rn rc:Nat) (K K1:Act→World→Prop) (Qw:Exit→Act→World→Prop) (hQw:Qw=(bodyPost Tryz.prog Tryz.f5 (fun e w'=>e=.returned (.bool true)∧Below w.heap.size w w'))) {z04 z06 z07 z08 z09 z0a z0c z0d z0e z0g z0h z0j z0k z0l z0m z0p z0q z0t z0x z0z z10 z11 z12 z13 z14 z15 z16 z17 z18 z19 z1a z1b z1c z1d z1e z1f z1g z1h z1i z1j z1k z1l z1m z1n z1o z1p z1q z1r z1s z1t z1u z1v z1w z1x z1y z1z z20 z21 z22 z23 z24 z25 z26 z27 z28 z29 z2a z2b z2c z2d z2e z2f z2g z2h z2i z2j z2k z2l z2m z2n z2o z2p z2q z2r z2s z2t z2u z2v z2w z2x z2y z2z z30 z31 z32 z33 z34 z35 z36 z37 z38 z39 z3a z3b z3c z3d z3e z3f z3g z3h z3l z3m z3n z3o z3p z3q z3r z3s z3t z3u z3v z3w z3x z3y z3z z40 z41 z42 z43 z44 z45 z46 z47 z48 z49 z4a z4b z4c z4d z4e z4h z4i z4j z4k z4m z4n z4p z4q z4r z4s z4u z4v z4x z4y z4z z50 z51 z52 z53 z54 z55 z56 z58 z59 z5a z5b z5d z5e z5g z5h z5j z5k z5m z5n z5o z5p z5r z5s z5t z5u z5v z5w z5x z5y z5z z60 z61 z63 z64 z65 z66 z67 z68 z69 z6a z6b z6c z6d z6e z6f z6g z6h z6i z6j z6k z6l z6m z6n z6o z6p z6q z6r z6s z6t z6u z6v z6w z6x z6y z6z z70 z71 z72 z73 z74 z75 z76 z77 z78 z79 z7a z7b z7c z7d z7e z7f z7g z7h z7i z7j z7k z7l z7m z7n:Value}
  (hT:Tabs w) (hA0:a<256) (hQL:w.heap.size≤q1) (hW8:Below w.heap.size w w8) (hQ8:w8.heap[q1]?=some (.cells #[.int .i64 wS2.cl,.int .i64 wS2.next,.int .i64 wS2.acked,.slice LA5 ln5 lc5,.slice IA5 iN5 ic5] 33 (0,0))) (hS8:Xy w.heap.size w8 wS2 (.agg #[.int .i64 wS2.cl,.int .i64 wS2.next,.int .i64 wS2.acked,.slice LA5 ln5 lc5,.slice IA5 iN5 ic5])) (hR8:w8.heap[q15]?=some (.cells #[.int .i64 wR.base,.int .i64 wR.last,.slice RA rn rc] 38 (0,0))∧Zy w8 RA rn rc wR.log)
  (hP8:w8.ownsRow B1 5 1 (.slice (some ⟨g1,0,none⟩) n1 c1) (aN aS0 1 0) (X7 (aX aS0 1 0) (aK aS0 0))∧Z8 w8 (some ⟨g1,0,none⟩) (8+Zk (ZB (plX aS0 1 1200 (Zf 0)) (wtF aS0 (Zf 0)).length)) (YD (plX aS0 1 1200 (Zf 0)) (wtF aS0 (Zf 0)).length)) (hN1:8≤n1∧n1=8+Zk (ZB (plX aS0 1 1200 (Zf 0)) (wtF aS0 (Zf 0)).length)) (hC1:8+Zk (ZB (plX aS0 1 1200 (Zf 0)) (wtF aS0 (Zf 0)).length)≤c1) (UN:Below w8.heap.size w8 wl)
  (hK:∀ a w',Code.wp Tryz.prog (cP [true,true,true,true,true,true,true,true,true,false,true] wB) (Exit.then K1 Qw) a w'→K a w') (hK1:∀ a w',Code.wp Tryz.prog (cP [true,true,true,true,true,true,true,true,true,true] wB) Qw a w'→K1 a w') :
  Code.wp Tryz.prog (cP [true,true,true,true,true,true,true,true,true,false,false] wB) (Exit.then K (Exit.then K1 Qw)) ⟨#[.int .u8 (a:Nat),.int .i64 n,undef,undef,z04,.pointer (some ⟨q1,0,none⟩),z06,z07,z08,z09,z0a,.slice (some ⟨g1,0,none⟩) n1 c1,z0c,z0d,z0e,.pointer (some ⟨q15,0,none⟩),z0g,z0h,undef,z0j,z0k,z0l,z0m,undef,undef,z0p,z0q,undef,undef,z0t,undef,undef,undef,z0x,undef,z0z,z10,z11,z12,z13,z14,z15,z16,z17,z18,z19,z1a,z1b,z1c,z1d,z1e,z1f,z1g,z1h,z1i,z1j,z1k,z1l,z1m,z1n,z1o,z1p,z1q,z1r,z1s,z1t,z1u,z1v,z1w,z1x,z1y,z1z,z20,z21,z22,z23,z24,z25,z26,z27,z28,z29,z2a,z2b,z2c,z2d,z2e,z2f,z2g,z2h,z2i,z2j,z2k,z2l,z2m,z2n,z2o,z2p,z2q,z2r,z2s,z2t,z2u,z2v,z2w,z2x,z2y,z2z,z30,z31,z32,z33,z34,z35,z36,z37,z38,z39,z3a,z3b,z3c,z3d,z3e,z3f,z3g,z3h,undef,undef,undef,z3l,z3m,z3n,z3o,z3p,z3q,z3r,z3s,z3t,z3u,z3v,z3w,z3x,z3y,z3z,z40,z41,z42,z43,z44,z45,z46,z47,z48,z49,z4a,z4b,z4c,z4d,z4e,undef,undef,z4h,z4i,z4j,z4k,undef,z4m,z4n,undef,z4p,z4q,z4r,z4s,undef,z4u,z4v,undef,z4x,z4y,z4z,z50,z51,z52,z53,z54,z55,z56,undef,z58,z59,z5a,z5b,undef,z5d,z5e,undef,z5g,z5h,undef,z5j,z5k,undef,z5m,z5n,z5o,z5p,undef,z5r,z5s,z5t,z5u,z5v,z5w,z5x,z5y,z5z,z60,z61,undef,z63,z64,z65,z66,z67,z68,z69,z6a,z6b,z6c,z6d,z6e,z6f,z6g,z6h,z6i,z6j,z6k,z6l,z6m,z6n,z6o,z6p,z6q,z6r,z6s,z6t,z6u,z6v,z6w,z6x,z6y,z6z,z70,z71,z72,z73,z74,z75,z76,z77,z78,z79,z7a,z7b,z7c,z7d,z7e,z7f,z7g,z7h,z7i,z7j,z7k,z7l,z7m,z7n],[]⟩ wl:=by
 have hmx:Tryz.prog.follows .mixedOrders=true:=by kernel_rfl
 have HT:=Qh hT
 have HA0:=Qh hA0
 have HQL:=Qh hQL
 have HW8:=Qh hW8
 have HQ8:=Qh hQ8
 have HS8:=Qh hS8
 have HR8:=Qh hR8
 have HP8:=Qh hP8
 have HN1:=Qh hN1
 have HC1:=Qh hC1
 have HB10:=Qh UN
 clear hT hA0 hQL hW8 hQ8 hS8 hR8 hP8 hN1 hC1 UN
 unfold wB at hK hK1 ⊢
 dsimp only [cP,Option.getD,Tryz.f5] at hK hK1 ⊢
 subst hQw
 have s1:(7:Int)≤(c1:Int):=by have:=HC1.out;have:=HN1.out.1;omega
 have s2:7≤c1:=by have:=HC1.out;have:=HN1.out.1;omega
 go_cut [126,127,128] (fun x126 x127 x128 wx=>∃ q:Nat,x126=.slice (some ⟨q,0,none⟩) 6 6∧x127=.int .i64 6∧x128=.int .i64 0∧(∀ j,j<6→∃ A n c,wx.cell? ⟨q,j,none⟩=some (.slice A n c)∧Pay261 wx A n c)∧Below wl.heap.size wl wx)
 case first=>
  go_wp2_with fail
  go_meet
  refine ⟨_,rfl,rfl,rfl,?_,?_⟩
  ·obtain ⟨h0,h1,h2,h3,h4,_⟩:=UA wl _ _ _ _ _
   exact UH h0 h1 h2 h3 h4
  ·exact (UA wl _ _ _ _ _).2.2.2.2.2
 case rest=>
 obtain ⟨UQ,rfl,rfl,rfl,Uw,hb⟩:=hcut
 obtain ⟨w11,eW⟩:∃ V,V=wc:=⟨_,rfl⟩
 rw [←eW] at Uw hb ⊢
 clear eW s1 s2
 have US:=Qh Uw
 have HB11:=Qh (Ze HB10.out hb)
 clear Uw hb
 go_wp2_with fail
 go_loopg [128] 6 (fun gh iv wr=>∃ j:Nat,gh+j=6∧iv=.int .i64 (j:Nat)∧Below w11.heap.size w11 wr)
 case atStart=>exact ⟨0,rfl,rfl,Below.refl _ _⟩
 case round=>
  obtain ⟨j,hg,rfl,hW⟩:=hrel
  obtain ⟨wm,eW⟩:∃ V,V=wr:=⟨_,rfl⟩
  rw [←eW] at hW ⊢
  clear eW
  by_cases hlt:j<6
  ·obtain ⟨PA,pn,pc,hcell,Uw⟩:=US.out j hlt
   have c0:wm.cell? ⟨UQ,j,none⟩=some (.slice PA pn pc):=(hW.cell (Zc hcell)).trans hcell
   have i0:(0:Int)≤(j:Int):=by omega
   have i1:(j:Int)<6:=by omega
   have i2:decide ((j:Int)<6)=true:=decide_eq_true (by omega)
   have i3:decide (j<6)=true:=decide_eq_true hlt
   have hB8:=Ze HB11.out hW
   have Zck:=(hB8.block _ (lt_of_block HR8.out.1)).trans HR8.out.1
   have r0:wm.cell? ⟨q15,0,none⟩=some (.int .i64 wR.base):=Za Zck 0 _ rfl
   have r1:wm.cell? ⟨q15,1,none⟩=some (.int .i64 wR.last):=Za Zck 1 _ rfl
   have r2:wm.cell? ⟨q15,2,none⟩=some (.slice RA rn rc):=Za Zck 2 _ rfl
   have FR:=pay_refused (HT.out.below (Ze HW8.out hB8)) (⟨RA,rn,rc,rfl,HR8.out.2.below hB8⟩:ZaD wm wR (.agg #[.int .i64 wR.base,.int .i64 wR.last,.slice RA rn rc])) ww_right.2 ww_smr (Uw.below hW)
   have HX:=Qh (Qi hlt (Qi hg hW))
   clear hlt hg hW hcell Uw hB8 Zck
   go_wp2_with (go_at_call 14;refine FR.mono ?_;rintro e wo ⟨rfl,hbo⟩;have HO:=Qh hbo;clear hbo FR c0 r0 r1 r2)
   go_roundg (6-(j+1))
   case measure=>have:=HX.out.1;have:=HX.out.2.1;omega
   case rel=>exact ⟨j+1,by have:=HX.out.1;have:=HX.out.2.1;omega,by go_num,Ze HX.out.2.2 (Ze HO.out (ZQ wo _ _))⟩
  ·have i2:decide ((j:Int)<6)=false:=decide_eq_false (by omega)
   have i3:decide (j<6)=false:=decide_eq_false hlt
   have HB12:=Qh (Ze HB11.out hW)
   clear hlt hg hW
   go_upto_region 24 with fail
   clear i2 i3
   obtain ⟨w13,q28,ex,eq,hbx,hq⟩:=nm1 wm (Y4 2 1073741825 0 (.slice none 0 0) (.slice none 0 0))
   rw [←ex,←eq]
   have UM:=Qh (Ze HB12.out hbx)
   have Zj3:=Qh hq
   have Zj2:=Qh (Ze HW8.out UM.out)
   clear ex eq hbx hq
   have HSE:=Qh (show ZA w13 ⟨2,1073741825,0,[],[]⟩ (.agg #[.int .i64 2,.int .i64 1073741825,.int .i64 0,.slice none 0 0,.slice none 0 0]) from UB w13)
   go_cut [31] (fun x31 wx=>x31=.int .i64 4∧Below w13.heap.size w13 wx)
   case first=>
    obtain ⟨wdd,ed⟩:∃ W,W=w13.drew:=⟨_,rfl⟩
    have hbd:Below w13.heap.size w13 wdd:=by rw [ed];exact (Below.refl _ _).drew
    have HC:wdd.cell? ⟨q28,0,none⟩=some (.int .i64 2)∧wdd.cell? ⟨q28,1,none⟩=some (.int .i64 1073741825)∧wdd.cell? ⟨q28,2,none⟩=some (.int .i64 0)∧wdd.cell? ⟨q28,3,none⟩=some (.slice none 0 0)∧wdd.cell? ⟨q28,4,none⟩=some (.slice none 0 0):=⟨Za ((hbd.block _ (lt_of_block Zj3.out)).trans Zj3.out) 0 _ rfl,Za ((hbd.block _ (lt_of_block Zj3.out)).trans Zj3.out) 1 _ rfl,Za ((hbd.block _ (lt_of_block Zj3.out)).trans Zj3.out) 2 _ rfl,Za ((hbd.block _ (lt_of_block Zj3.out)).trans Zj3.out) 3 _ rfl,Za ((hbd.block _ (lt_of_block Zj3.out)).trans Zj3.out) 4 _ rfl⟩
    have HB:=Qh hbd
    have HD:=Qh ed
    clear hbd ed
    refine Yy (fun W=>W.cell? ⟨q28,0,none⟩=some (.int .i64 2)∧W.cell? ⟨q28,1,none⟩=some (.int .i64 1073741825)∧W.cell? ⟨q28,2,none⟩=some (.int .i64 0)∧W.cell? ⟨q28,3,none⟩=some (.slice none 0 0)∧W.cell? ⟨q28,4,none⟩=some (.slice none 0 0)) 2 hmx ?_
    change Zz _ _ _ _ _ _ _ _ _ (World.drew _)
    rw [←HD.out]
    try go_simp
    refine tkl 0 rfl HC (by intro W ⟨hC0,hC1,hC2,hC3,hC4⟩;go_simp;try with_reducible rfl) ?_
    refine Jf (j:=1) (k:=7) (by kernel_rfl) ?_ ?_
    ·refine wpOp_step rfl (fun K hK=>?_)
     go_simp
     refine (ZbP 3 0 wdd).mono ?_
     rintro e vd1 ⟨sb,rfl,hA,hbN⟩
     have HA:=Qh hA
     have HC:=cr5 hbN HC
     have HB:=Qh (Ze HB.out hbN)
     clear hA hbN
     refine hK _ _ ?_;clear hK K
     refine ⟨Or.inr HC,?_⟩
     refine Jf (j:=2) (k:=7) (by kernel_rfl) ?_ ?_
     ·refine wpOp_step rfl (fun K hK=>?_)
      go_simp
      refine (full_send (t:=0) (h:=0) (HT.out.below (Ze Zj2.out HB.out)) (HSE.out.below HB.out) HA.out).mono ?_
      rintro e vd2 ⟨rfl,hbN⟩
      have HB:=Qh (Ze HB.out hbN)
      clear hbN
      refine hK _ _ ?_;clear hK K
      refine ⟨Or.inl (by kernel_rfl),?_⟩
      try go_simp
      refine tkq 3 rfl ?_
      try go_simp
      refine tkq 4 rfl ?_
      try go_simp
      refine tkq 5 rfl ?_
      try go_simp
      refine tkq 6 rfl ?_
      try go_simp
      refine Zi 7 rfl (fun K hK=>?_)
      go_simp
      obtain ⟨vd3,q20,e9,el,hbN,hlN⟩:=nm1 vd2 (Y4 0 0 0 (.slice none 0 0) (.slice none 0 0))
      have hq0:w13.heap.size≤q20:=by rw [el];exact HB.out.size
      have HB:=Qh (Ze HB.out hbN)
      have HQN:=Qh hlN
      have Qv:=Qh hq0
      clear hbN hlN hq0
      refine hK _ _ ?_;clear hK K
      rw [←e9,←el]
      clear e9 el
      refine ⟨Or.inl (by kernel_rfl),?_⟩
      exact Ts2
     ·refine wpOp_step rfl (fun K hK=>?_)
      go_simp
      obtain ⟨vd2,q20,e9,el,hbN,hlN⟩:=nm1 vd1 (Y4 0 0 0 (.slice none 0 0) (.slice none 0 0))
      have hq0:w13.heap.size≤q20:=by rw [el];exact HB.out.size
      have HAB:=Qh hbN
      have HC:=cr5 hbN HC
      have HB:=Qh (Ze HB.out hbN)
      have HQN:=Qh hlN
      have Qv:=Qh hq0
      clear hbN hlN hq0
      refine hK _ _ ?_;clear hK K
      rw [←e9,←el]
      clear e9 el
      refine ⟨Or.inr HC,?_⟩
      try go_simp
      refine Zi 2 rfl (fun K hK=>?_)
      go_simp
      refine (full_send (t:=0) (h:=0) (HT.out.below (Ze Zj2.out HB.out)) (HSE.out.below HB.out) (HA.out.below HAB.out)).mono ?_
      exact Ts4
    ·refine wpOp_step rfl (fun K hK=>?_)
     go_simp
     obtain ⟨vd1,q20,e9,el,hbN,hlN⟩:=nm1 wdd (Y4 0 0 0 (.slice none 0 0) (.slice none 0 0))
     have hq0:w13.heap.size≤q20:=by rw [el];exact HB.out.size
     have HC:=cr5 hbN HC
     have HB:=Qh (Ze HB.out hbN)
     have HQN:=Qh hlN
     have Qv:=Qh hq0
     clear hbN hlN hq0
     refine hK _ _ ?_;clear hK K
     rw [←e9,←el]
     clear e9 el
     refine ⟨Or.inr HC,?_⟩
     try go_simp
     refine Zi 1 rfl (fun K hK=>?_)
     go_simp
     refine (ZbP 3 0 vd1).mono ?_
     rintro e vd2 ⟨sb,rfl,hA,hbN⟩
     have HA:=Qh hA
     have HC:=cr5 hbN HC
     have HB:=Qh (Ze HB.out hbN)
     have HQN:=Qh ((hbN.block _ (lt_of_block HQN.out)).trans HQN.out)
     clear hA hbN
     refine hK _ _ ?_;clear hK K
     refine ⟨Or.inr HC,?_⟩
     try go_simp
     refine Zi 2 rfl (fun K hK=>?_)
     go_simp
     refine (full_send (t:=0) (h:=0) (HT.out.below (Ze Zj2.out HB.out)) (HSE.out.below HB.out) HA.out).mono ?_
     exact Ts4
   case rest=>
   obtain ⟨rfl,hbx⟩:=hcut
   obtain ⟨w14,eW⟩:∃ V,V=wc:=⟨_,rfl⟩
   rw [←eW] at hbx ⊢
   clear eW
   have HB14:=Qh (Ze UM.out hbx)
   have FR:=right_V (HT.out.below (Ze Zj2.out hbx)) (HSE.out.below hbx) (by decide)
   rw [ww_end.1] at FR
   have Ux:=(hbx.block _ (lt_of_block Zj3.out)).trans Zj3.out
   have e0:w14.cell? ⟨q28,0,none⟩=some (.int .i64 2):=Za Ux 0 _ rfl
   have e1:w14.cell? ⟨q28,1,none⟩=some (.int .i64 1073741825):=Za Ux 1 _ rfl
   have e2:w14.cell? ⟨q28,2,none⟩=some (.int .i64 0):=Za Ux 2 _ rfl
   have e3:w14.cell? ⟨q28,3,none⟩=some (.slice none 0 0):=Za Ux 3 _ rfl
   have e4:w14.cell? ⟨q28,4,none⟩=some (.slice none 0 0):=Za Ux 4 _ rfl
   clear hbx Ux
   go_upto_region 27 with (go_at_call 21;refine FR.mono ?_;rintro e w16 ⟨rfl,ZaA⟩;have H16:=Qh ZaA;clear ZaA FR e0 e1 e2 e3 e4)
   have ZaA:=Ze HB14.out H16.out
   have Zck:=(ZaA.block _ (lt_of_block HR8.out.1)).trans HR8.out.1
   have r0:w16.cell? ⟨q15,0,none⟩=some (.int .i64 wR.base):=Za Zck 0 _ rfl
   have r1:w16.cell? ⟨q15,1,none⟩=some (.int .i64 wR.last):=Za Zck 1 _ rfl
   have r2:w16.cell? ⟨q15,2,none⟩=some (.slice RA rn rc):=Za Zck 2 _ rfl
   have UG:=Qh ZaA
   clear ZaA Zck
   go_upto_region 28 with fail
   clear r0 r1 r2
   obtain ⟨w17,q32,ex,eq,hbx,hq⟩:=nm1 w16 (.cells #[.int .i64 wR.base,.int .i64 wR.last,.slice RA rn rc] 38 (0,0))
   rw [←ex,←eq]
   have Qy:=Ze UG.out hbx
   have Ub:=Qh (Qi hq (show w16.heap.size≤q32 from by rw [eq];exact Nat.le_refl _))
   have Up:=Qh Qy
   have HBX:=Qh hbx
   have Zj7:=Qh (Ze HW8.out Qy)
   have ZcD:=Qh ((Qy.block _ (lt_of_block HQ8.out)).trans HQ8.out)
   have Uq:=Qh (HS8.out.below Qy)
   have Ut:=Qh (HR8.out.2.below UG.out)
   have Uc:=Qh (show w8.heap.size≤q32 from Nat.le_trans UG.out.size Ub.out.2)
   have Ue:=Qh (show w.heap.size≤q32 from by rw [eq];exact (Ze HW8.out UG.out).size)
   clear ex eq hbx hq Qy
   have a0:(0:Int)≤(a:Int):=by omega
   have a1:(a:Int)<256:=by have:=HA0.out;omega
   go_upto_block 4 with fail
   clear a0 a1
   refine Ul a n w w8 w16 w17 q1 q32 g1 c1 n1 B1 LA5 IA5 RA ln5 lc5 iN5 ic5 rn rc _ _ rfl HT.out HA0.out HQL.out Zj7.out ZcD.out Uq.out Ub.out HBX.out Ut.out HP8.out.1 Up.out Uc.out Ue.out (by assumption)
end
end Go.Proofs.YtlgcfimhfmgkmaaGreatDoor
