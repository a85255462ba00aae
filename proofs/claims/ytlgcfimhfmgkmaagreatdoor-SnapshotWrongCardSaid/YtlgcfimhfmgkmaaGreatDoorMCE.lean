/- Lemmas for the statement. -/
import Derived.Test.YtlgcfimhfmgkmaaGreatDoorMCD
set_option linter.unusedVariables false
set_option linter.unusedSimpArgs false
namespace Go.Proofs.YtlgcfimhfmgkmaaGreatDoor
open Go.RowKit
section
theorem Ts1 {p:Prop} (h:p:=by
 try go_simp
 refine Zi 9 rfl (fun K hK=>?_)
 have hq:=HQN.out
 have y0:vc3.cell? ⟨q20,0,none⟩=some (.int .i64 0):=Za hq 0 _ rfl
 have y1:vc3.cell? ⟨q20,1,none⟩=some (.int .i64 0):=Za hq 1 _ rfl
 have y2:vc3.cell? ⟨q20,2,none⟩=some (.int .i64 0):=Za hq 2 _ rfl
 have y3:vc3.cell? ⟨q20,3,none⟩=some (.slice none 0 0):=Za hq 3 _ rfl
 have y4:vc3.cell? ⟨q20,4,none⟩=some (.slice none 0 0):=Za hq 4 _ rfl
 have y5:=Zd hq 0
 have y6:=Zd hq 1
 have y7:=Zd hq 2
 have y8:=Zd hq 3
 have y9:=Zd hq 4
 clear hq
 go_simp
 clear y0 y1 y2 y3 y4 y5 y6 y7 y8 y9
 refine hK _ _ ?_;clear hK K
 refine ⟨Or.inl (by kernel_rfl),?_⟩
 try go_simp
 refine tkq 10 rfl ?_
 try go_simp
 refine tkq 11 rfl ?_
 try go_simp
 refine ZX (by kernel_rfl) ?_ _
 try clear HC
 go_wp2_with fail
 go_meet
 exact ⟨rfl,rfl,Yl _ _ _ _ _ HB.out Qv.out⟩):p:=h
theorem Ts5 {p:Prop} (h:p:=by
 rintro e vc3 ⟨rfl,hbN⟩
 have HB:=Qh (Ze HB.out hbN)
 have HQN:=Qh ((hbN.block _ (lt_of_block HQN.out)).trans HQN.out)
 clear hbN
 refine hK _ _ ?_;clear hK K
 refine ⟨Or.inl (by kernel_rfl),?_⟩
 try go_simp
 refine tkq 4 rfl ?_
 try go_simp
 refine tkq 5 rfl ?_
 try go_simp
 refine tkq 6 rfl ?_
 try go_simp
 refine tkq 7 rfl ?_
 exact Ts1):p:=h
set_option maxRecDepth 100000 in
set_option maxHeartbeats 8000000 in
theorem swrong_ok (a:Nat) (n:Int) (w:World) (hT:Tabs w) (ha:a<256) (hn:-9223372036854775808≤n∧n≤9223372036854775807) :
  Calls Tryz.prog 5 #[.int .u8 (a:Nat),.int .i64 n] w fun e w'=>e=.returned (.bool true)∧Below w.heap.size w w':=by
 have hmx:Tryz.prog.follows .mixedOrders=true:=by kernel_rfl
 have HT:=Qh hT
 have HA0:=Qh ha
 have HN0:=Qh hn
 have F1:=Ziz 2 w
 rw [show JR 2=.tuple #[.agg #[.int .i64 2,.int .i64 1,.int .i64 0,.slice none 0 0,.slice none 0 0],.int .i64 0] from by unfold JR;rw [if_neg (by decide)]] at F1
 clear hT ha hn
 go_enter Tryz.func5,Tryz.ntmps5
 go_upto_region 2 with (go_at_call 11;refine F1.mono ?_;rintro e wa ⟨rfl,hb1⟩;have H1:=Qh hb1;clear hb1 F1)
 obtain ⟨w2,q1,ex,eq,hbx,hq⟩:=nm1 wa (.cells #[.int .i64 2,.int .i64 1,.int .i64 0,.slice none 0 0,.slice none 0 0] 33 (0,0))
 rw [←ex,←eq]
 have HQL:=Qh (show w.heap.size≤q1 from by rw [eq];exact H1.out.size)
 have HW2:=Qh (Ze H1.out hbx)
 have HQ2:=Qh hq
 clear ex eq hbx hq
 obtain ⟨k0,ek⟩:∃ k,k=min n 0:=⟨_,rfl⟩
 have HK0:=Qh (show k0≤0 from by omega)
 have F2:=Ziz k0 w2
 rw [show JR k0=.tuple #[.agg #[.int .i64 0,.int .i64 0,.int .i64 0,.slice none 0 0,.slice none 0 0],.int .i64 2] from by unfold JR;rw [if_pos (.inl (by omega))]] at F2
 have m1:min n 0=k0:=ek.symm
 have m2:(if 0<n then (0:Int) else n)=k0:=by split<;>omega
 clear ek
 go_upto_region 3 with (go_at_call 11;refine F2.mono ?_;rintro e wb ⟨rfl,hb1⟩;have H2:=Qh hb1;clear hb1 F2)
 clear m1 m2
 obtain ⟨w3,q7,ex,eq,hbx,hq⟩:=nm1 wb (.cells #[.int .i64 0,.int .i64 0,.int .i64 0,.slice none 0 0,.slice none 0 0] 33 (0,0))
 rw [←ex,←eq]
 have HW3:=Qh (Ze HW2.out (Ze H2.out hbx))
 have HQ3:=Qh ((hbx.block _ (by have:=H2.out.size;have:=lt_of_block HQ2.out;omega)).trans ((H2.out.block _ (lt_of_block HQ2.out)).trans HQ2.out))
 clear ex eq hbx hq
 obtain ⟨k9,ek⟩:∃ k,k=max n 9:=⟨_,rfl⟩
 have HK9:=Qh (show 9≤k9 from by omega)
 have F3:=Ziz k9 w3
 rw [show JR k9=.tuple #[.agg #[.int .i64 0,.int .i64 0,.int .i64 0,.slice none 0 0,.slice none 0 0],.int .i64 2] from by unfold JR;rw [if_pos (.inr (by omega))]] at F3
 have m1:max n 9=k9:=ek.symm
 have m2:(if n<9 then (9:Int) else n)=k9:=by split<;>omega
 clear ek
 go_upto_region 4 with (go_at_call 11;refine F3.mono ?_;rintro e wb ⟨rfl,hb1⟩;have H3:=Qh hb1;clear hb1 F3)
 clear m1 m2
 obtain ⟨w4,q9,ex,eq,hbx,hq⟩:=nm1 wb (.cells #[.int .i64 0,.int .i64 0,.int .i64 0,.slice none 0 0,.slice none 0 0] 33 (0,0))
 rw [←ex,←eq]
 have HW4:=Qh (Ze HW3.out (Ze H3.out hbx))
 have HQ4:=Qh ((hbx.block _ (by have:=H3.out.size;have:=lt_of_block HQ3.out;omega)).trans ((H3.out.block _ (lt_of_block HQ3.out)).trans HQ3.out))
 have HS0:=Qh (show ZA w4 aS0 (.agg #[.int .i64 2,.int .i64 1,.int .i64 0,.slice none 0 0,.slice none 0 0]) from ZjJ w4)
 clear ex eq hbx hq
 go_cut [11,12] (fun va vb wx=>∃ (LA4:Option Addr) (ln4 lc4:Nat) (IA4:Option Addr) (iN4 ic4 B:Nat),vb=.int .i64 0∧wx.heap[q1]?=some (.cells #[.int .i64 wS1.cl,.int .i64 wS1.next,.int .i64 wS1.acked,.slice LA4 ln4 lc4,.slice IA4 iN4 ic4] 33 (0,0))∧ZA wx wS1 (.agg #[.int .i64 wS1.cl,.int .i64 wS1.next,.int .i64 wS1.acked,.slice LA4 ln4 lc4,.slice IA4 iN4 ic4])∧(wx.ownsRow B 5 1 va (8+Zk (ZB (plX aS0 1 1200 (Zf 0)) (wtF aS0 (Zf 0)).length)) (X7 (plX aS0 1 1200 (Zf 0)) (wtF aS0 (Zf 0)).length)∧w4.heap.size≤B)∧But q1 0 w w4 wx)
 case first=>
  obtain ⟨wd4,ed⟩:∃ W,W=w4.drew:=⟨_,rfl⟩
  have hbd:Below w4.heap.size w4 wd4:=by rw [ed];exact (Below.refl _ _).drew
  have HC:wd4.cell? ⟨q1,0,none⟩=some (.int .i64 2)∧wd4.cell? ⟨q1,1,none⟩=some (.int .i64 1)∧wd4.cell? ⟨q1,2,none⟩=some (.int .i64 0)∧wd4.cell? ⟨q1,3,none⟩=some (.slice none 0 0)∧wd4.cell? ⟨q1,4,none⟩=some (.slice none 0 0):=⟨Za ((hbd.block _ (lt_of_block HQ4.out)).trans HQ4.out) 0 _ rfl,Za ((hbd.block _ (lt_of_block HQ4.out)).trans HQ4.out) 1 _ rfl,Za ((hbd.block _ (lt_of_block HQ4.out)).trans HQ4.out) 2 _ rfl,Za ((hbd.block _ (lt_of_block HQ4.out)).trans HQ4.out) 3 _ rfl,Za ((hbd.block _ (lt_of_block HQ4.out)).trans HQ4.out) 4 _ rfl⟩
  have HB:=Qh hbd
  have HD:=Qh ed
  clear hbd ed
  refine Yy (fun W=>W.cell? ⟨q1,0,none⟩=some (.int .i64 2)∧W.cell? ⟨q1,1,none⟩=some (.int .i64 1)∧W.cell? ⟨q1,2,none⟩=some (.int .i64 0)∧W.cell? ⟨q1,3,none⟩=some (.slice none 0 0)∧W.cell? ⟨q1,4,none⟩=some (.slice none 0 0)) 2 hmx ?_
  change Zz _ _ _ _ _ _ _ _ _ (World.drew _)
  rw [←HD.out]
  refine tkl 0 rfl HC (by intro W ⟨hC0,hC1,hC2,hC3,hC4⟩;go_simp;try with_reducible rfl) ?_
  refine Zi 1 rfl (fun K hK=>?_)
  go_simp
  refine (ZbP 1 0 wd4).mono ?_
  rintro e v41 ⟨sb,rfl,hA,hbN⟩
  have HA:=Qh hA
  have HC:=cr5 hbN HC
  have HB:=Qh (Ze HB.out hbN)
  clear hA hbN
  refine hK _ _ ?_;clear hK K
  refine ⟨Or.inr HC,?_⟩
  refine Zi 2 rfl (fun K hK=>?_)
  go_simp
  refine (ZbQ (s:=aS0) (t:=1) (h:=0) (HT.out.below (Ze HW4.out HB.out)) (HS0.out.below HB.out) HA.out ww_send0 (ZbR aS0 Zrd)).mono ?_
  rintro e v42 ⟨x,pv,B,rfl,hS,hp,hbN⟩
  obtain ⟨LA4,IA4,ln4,lc4,iN4,ic4,rfl,hSV⟩:=hS
  have hS2:ZA v42 wS1 (.agg #[.int .i64 wS1.cl,.int .i64 wS1.next,.int .i64 wS1.acked,.slice LA4 ln4 lc4,.slice IA4 iN4 ic4]):=⟨LA4,IA4,ln4,lc4,iN4,ic4,rfl,hSV⟩
  have HS2:=Qh hS2
  have HP:=Qh (Qi hp.1 (show w4.heap.size≤B from by have:=HB.out.size;have:=hp.2;omega))
  have HB:=Qh (Ze HB.out hbN)
  have HQN:=Qh ((HB.out.block _ (lt_of_block HQ4.out)).trans HQ4.out)
  clear hS2 hSV hp hbN
  refine hK _ _ ?_;clear hK K
  refine ⟨Or.inl (by kernel_rfl),?_⟩
  refine tkq 3 rfl ?_
  refine tkq 4 rfl ?_
  refine tkq 5 rfl ?_
  refine tkq 6 rfl ?_
  refine Zi 7 rfl (fun K hK=>?_)
  have hq:=HQN.out
  have y0:v42.cell? ⟨q1,0,none⟩=some (.int .i64 2):=Za hq 0 _ rfl
  have y1:v42.cell? ⟨q1,1,none⟩=some (.int .i64 1):=Za hq 1 _ rfl
  have y2:v42.cell? ⟨q1,2,none⟩=some (.int .i64 0):=Za hq 2 _ rfl
  have y3:v42.cell? ⟨q1,3,none⟩=some (.slice none 0 0):=Za hq 3 _ rfl
  have y4:v42.cell? ⟨q1,4,none⟩=some (.slice none 0 0):=Za hq 4 _ rfl
  have y5:=Zd hq 0
  have y6:=Zd hq 1
  have y7:=Zd hq 2
  have y8:=Zd hq 3
  have y9:=Zd hq 4
  clear hq
  go_simp
  clear y0 y1 y2 y3 y4 y5 y6 y7 y8 y9
  refine hK _ _ ?_;clear hK K
  refine ⟨Or.inl (by kernel_rfl),?_⟩
  refine tkq 8 rfl ?_
  refine tkq 9 rfl ?_
  refine ZX (by kernel_rfl) ?_ _
  try clear HC
  go_wp2_with fail
  go_meet
  exact ⟨LA4,ln4,lc4,IA4,iN4,ic4,B,rfl,Yk _ _ _ _ _ HQN.out,ZA.boxed (s:=aS0) (x:=.slice none 0 0) (y:=.slice none 0 0) HS2.out ww_box1 HQN.out (fun b _ hb=>Xn _ _ _ _ _ _ _ hb),⟨XW HP.out.1 (fun b hb=>Xn _ _ _ _ _ _ _ (by have h1:=(Yg HP.out.1 hb).2;have h2:=HP.out.2;have h3:=lt_of_block HQ4.out;omega)),HP.out.2⟩,⟨fun b hb hne=>(Xn _ _ _ _ _ _ _ hne).trans (HB.out.block b hb),Nat.le_trans HB.out.size (Yl (B:=0) _ _ _ _ _ (Below.refl _ _) (Nat.zero_le _)).size,Yl _ _ _ _ _ (Ze HW4.out HB.out) HQL.out⟩⟩
 case rest=>
 obtain ⟨LA4,ln4,lc4,IA4,iN4,ic4,B1,rfl,hq,hS,hp,ZaI⟩:=hcut
 obtain ⟨w5,e5⟩:∃ W,W=wc:=⟨_,rfl⟩
 rw [←e5] at hq hS hp ZaI ⊢
 clear e5
 have HW5:=Qh ZaI.bel
 have HQ5:=Qh hq
 have HS1:=Qh hS
 have HP1:=Qh hp
 have HU4:=Qh (lt_of_block HQ4.out)
 clear hq hS hp ZaI
 go_upto_region 5 with fail
 go_cut [13,14] (fun va vb wx=>∃ (LA5:Option Addr) (ln5 lc5:Nat) (IA5:Option Addr) (iN5 ic5 B:Nat),vb=.int .i64 0∧wx.heap[q1]?=some (.cells #[.int .i64 wS2.cl,.int .i64 wS2.next,.int .i64 wS2.acked,.slice LA5 ln5 lc5,.slice IA5 iN5 ic5] 33 (0,0))∧Xy w.heap.size wx wS2 (.agg #[.int .i64 wS2.cl,.int .i64 wS2.next,.int .i64 wS2.acked,.slice LA5 ln5 lc5,.slice IA5 iN5 ic5])∧(wx.ownsRow B 5 1 va (8+Zk (ZB (plX wS1 2 1200 (Zf 0)) (wtF wS1 (Zf 0)).length)) (X7 (plX wS1 2 1200 (Zf 0)) (wtF wS1 (Zf 0)).length)∧w5.heap.size≤B)∧But q1 0 w w5 wx)
 case first=>
  obtain ⟨wd5,ed⟩:∃ W,W=w5.drew:=⟨_,rfl⟩
  have hbd:Below w5.heap.size w5 wd5:=by rw [ed];exact (Below.refl _ _).drew
  have HC:wd5.cell? ⟨q1,0,none⟩=some (.int .i64 wS1.cl)∧wd5.cell? ⟨q1,1,none⟩=some (.int .i64 wS1.next)∧wd5.cell? ⟨q1,2,none⟩=some (.int .i64 wS1.acked)∧wd5.cell? ⟨q1,3,none⟩=some (.slice LA4 ln4 lc4)∧wd5.cell? ⟨q1,4,none⟩=some (.slice IA4 iN4 ic4):=⟨Za ((hbd.block _ (lt_of_block HQ5.out)).trans HQ5.out) 0 _ rfl,Za ((hbd.block _ (lt_of_block HQ5.out)).trans HQ5.out) 1 _ rfl,Za ((hbd.block _ (lt_of_block HQ5.out)).trans HQ5.out) 2 _ rfl,Za ((hbd.block _ (lt_of_block HQ5.out)).trans HQ5.out) 3 _ rfl,Za ((hbd.block _ (lt_of_block HQ5.out)).trans HQ5.out) 4 _ rfl⟩
  have HB:=Qh hbd
  have HD:=Qh ed
  clear hbd ed
  refine Yy (fun W=>W.cell? ⟨q1,0,none⟩=some (.int .i64 wS1.cl)∧W.cell? ⟨q1,1,none⟩=some (.int .i64 wS1.next)∧W.cell? ⟨q1,2,none⟩=some (.int .i64 wS1.acked)∧W.cell? ⟨q1,3,none⟩=some (.slice LA4 ln4 lc4)∧W.cell? ⟨q1,4,none⟩=some (.slice IA4 iN4 ic4)) 2 hmx ?_
  change Zz _ _ _ _ _ _ _ _ _ (World.drew _)
  rw [←HD.out]
  refine tkl 0 rfl HC (by intro W ⟨hC0,hC1,hC2,hC3,hC4⟩;go_simp;try with_reducible rfl) ?_
  refine Zi 1 rfl (fun K hK=>?_)
  go_simp
  refine (ZbP 2 0 wd5).mono ?_
  rintro e v51 ⟨sb,rfl,hA,hbN⟩
  have HA:=Qh hA
  have HC:=cr5 hbN HC
  have HB:=Qh (Ze HB.out hbN)
  clear hA hbN
  refine hK _ _ ?_;clear hK K
  refine ⟨Or.inr HC,?_⟩
  refine Zi 2 rfl (fun K hK=>?_)
  go_simp
  refine (Zq8 (s:=wS1) (t:=2) (h:=0) (HT.out.below (Ze HW5.out HB.out)) (HS1.out.below HB.out) HA.out ww_send1 (ZbR wS1 ww_sm1)).mono ?_
  rintro e v52 ⟨x,pv,B,rfl,hS,hp,hbN⟩
  obtain ⟨LA5,IA5,ln5,lc5,iN5,ic5,rfl,hSV⟩:=hS
  have hS2:Xy w.heap.size v52 wS2 (.agg #[.int .i64 wS2.cl,.int .i64 wS2.next,.int .i64 wS2.acked,.slice LA5 ln5 lc5,.slice IA5 iN5 ic5]):=Xy.base ⟨LA5,IA5,ln5,lc5,iN5,ic5,rfl,hSV⟩ (Ze HW5.out HB.out).size
  have HS2:=Qh hS2
  have HP:=Qh (Qi hp.1 (show w5.heap.size≤B from by have:=HB.out.size;have:=hp.2;omega))
  have HB:=Qh (Ze HB.out hbN)
  have HQN:=Qh ((HB.out.block _ (lt_of_block HQ5.out)).trans HQ5.out)
  clear hS2 hSV hp hbN
  refine hK _ _ ?_;clear hK K
  refine ⟨Or.inl (by kernel_rfl),?_⟩
  refine tkq 3 rfl ?_
  refine tkq 4 rfl ?_
  refine tkq 5 rfl ?_
  refine tkq 6 rfl ?_
  refine Zi 7 rfl (fun K hK=>?_)
  have hq:=HQN.out
  have y0:v52.cell? ⟨q1,0,none⟩=some (.int .i64 wS1.cl):=Za hq 0 _ rfl
  have y1:v52.cell? ⟨q1,1,none⟩=some (.int .i64 wS1.next):=Za hq 1 _ rfl
  have y2:v52.cell? ⟨q1,2,none⟩=some (.int .i64 wS1.acked):=Za hq 2 _ rfl
  have y3:v52.cell? ⟨q1,3,none⟩=some (.slice LA4 ln4 lc4):=Za hq 3 _ rfl
  have y4:v52.cell? ⟨q1,4,none⟩=some (.slice IA4 iN4 ic4):=Za hq 4 _ rfl
  have y5:=Zd hq 0
  have y6:=Zd hq 1
  have y7:=Zd hq 2
  have y8:=Zd hq 3
  have y9:=Zd hq 4
  clear hq
  go_simp
  clear y0 y1 y2 y3 y4 y5 y6 y7 y8 y9
  refine hK _ _ ?_;clear hK K
  refine ⟨Or.inl (by kernel_rfl),?_⟩
  refine tkq 8 rfl ?_
  refine tkq 9 rfl ?_
  refine ZX (by kernel_rfl) ?_ _
  try clear HC
  go_wp2_with fail
  go_meet
  exact ⟨LA5,ln5,lc5,IA5,iN5,ic5,B,rfl,Yk _ _ _ _ _ HQN.out,Xy.boxed (s:=wS1) HS2.out ww_box2 HQN.out (fun b _ hb=>Xn _ _ _ _ _ _ _ hb) (Yl (B:=0) _ _ _ _ _ (Below.refl _ _) (Nat.zero_le _)).size,⟨XW HP.out.1 (fun b hb=>Xn _ _ _ _ _ _ _ (by have h1:=(Yg HP.out.1 hb).2;have h2:=HP.out.2;have h3:=lt_of_block HQ5.out;omega)),HP.out.2⟩,⟨fun b hb hne=>(Xn _ _ _ _ _ _ _ hne).trans (HB.out.block b hb),Nat.le_trans HB.out.size (Yl (B:=0) _ _ _ _ _ (Below.refl _ _) (Nat.zero_le _)).size,Yl _ _ _ _ _ (Ze HW5.out HB.out) HQL.out⟩⟩
 case rest=>
 obtain ⟨LA5,ln5,lc5,IA5,iN5,ic5,B2,rfl,hq,hS,hp,ZaI⟩:=hcut
 obtain ⟨w6,e6⟩:∃ W,W=wc:=⟨_,rfl⟩
 rw [←e6] at hq hS hp ZaI ⊢
 clear e6
 have hP6:=XW HP1.out.1 (fun b hb=>ZaI.blk b (Yg HP1.out.1 hb).1 (by have h1:=(Yg HP1.out.1 hb).2;have h2:=HP1.out.2;have h3:=HU4.out;omega))
 have HPB:=Qh (Qi HP1.out.2 HU4.out)
 have HW6:=Qh ZaI.bel
 have HQ6:=Qh hq
 have HS6:=Qh hS
 clear hq hS hp ZaI
 obtain ⟨g1,c1,ep,hc,hbr⟩:=ZdX hP6
 subst ep
 have HP6:=Qh hP6
 have HBR:=Qh hbr
 have HC1:=Qh hc
 clear hc hbr hP6
 obtain ⟨n1,en1⟩:∃ n,n=8+Zk (ZB (plX aS0 1 1200 (Zf 0)) (wtF aS0 (Zf 0)).length):=⟨_,rfl⟩
 rw [←en1]
 have HN1:=Qh (show 8≤n1∧n1=8+Zk (ZB (plX aS0 1 1200 (Zf 0)) (wtF aS0 (Zf 0)).length) from ⟨by omega,en1⟩)
 have HPN:=Qh (show w6.ownsRow B1 5 1 (.slice (some ⟨g1,0,none⟩) n1 c1) (aN aS0 1 0) (X7 (aX aS0 1 0) (aK aS0 0)) from by rw [en1];exact HP6.out)
 clear en1
 have F6:=ZjM (s:=aS0) (t:=1) (h:=0) (r:=aR0) (u:=ZaC) (w:=w6) (HT.out.below HW6.out) (ZjK w6) HP6.out ⟨ZaH.1,ZaH.2.1⟩ ww_send0 Zcz.1 ⟨Rec.zero,ww_base0.1,ww_base0.2.1.symm,ww_base0.2.2.symm,ww_val.1,ww_val.2,fun y hy=>by cases hy⟩ ww_r
 unfold ZaC at F6
 rw [←HN1.out.2] at F6
 go_upto_region 7 with (go_at_call 14;refine F6.mono ?_;rintro e w7 ⟨x,VA,vn,vc,rfl,hR,hE,hb7⟩;have hR1:ZaD w7 wR x:=hR;obtain ⟨RA,rn,rc,rfl,hRL⟩:=hR1;have H7:=Qh (Qi hRL hb7);clear hR hE hRL hb7 F6)
 obtain ⟨w8,q15,ex,eq,hbx,hqa,hqb⟩:=nm2 w7 (.cells #[.int .i64 wR.base,.int .i64 wR.last,.slice RA rn rc] 38 (0,0)) (.cells #[.int .i64 1,.slice VA vn vc] 24 (0,0))
 rw [←ex,←eq]
 have ZdT:=Ze H7.out.2 hbx
 have HW8:=Qh (Ze HW6.out ZdT)
 have HQ8:=Qh ((ZdT.block _ (lt_of_block HQ6.out)).trans HQ6.out)
 have HS8:=Qh (HS6.out.below ZdT)
 have HR8:=Qh (Qi hqa (H7.out.1.below hbx))
 have HP8:=Qh (Qi (Y3 HPN.out ZdT) (ZdJ HBR.out ZdT))
 clear ex eq hbx hqa hqb ZdT
 obtain ⟨z0,ez0⟩:∃ k,k=min n 399:=⟨_,rfl⟩
 obtain ⟨z1,ez1⟩:∃ k,k=max n 1201:=⟨_,rfl⟩
 have HZ:=Qh (show z0<400∧1200<z1 from by omega)
 have m1:min n 399=z0:=ez0.symm
 have m2:(if 399<n then (399:Int) else n)=z0:=by split<;>omega
 have m3:max n 1201=z1:=ez1.symm
 have m4:(if n<1201 then (1201:Int) else n)=z1:=by split<;>omega
 clear ez0 ez1
 go_upto_block 0 with fail
 clear m1 m2 m3 m4
 obtain ⟨w9,q98,ex,eq,hbx,hq⟩:=nm1 w8 (.cells #[.int .i64 z0,.int .i64 z1] 3 (0,0))
 rw [←ex,←eq]
 have HB9:=Qh hbx
 have HZ9:=Qh hq
 clear ex eq hbx hq
 go_wp2_with fail
 go_loopg [100] 2 (fun gh iv wr=>∃ j:Nat,gh+j=2∧iv=.int .i64 (j:Nat)∧Below w9.heap.size w9 wr)
 case atStart=>exact ⟨0,rfl,rfl,Below.refl _ _⟩
 case round=>
  obtain ⟨j,hg,rfl,hW⟩:=hrel
  obtain ⟨wl,eW⟩:∃ V,V=wr:=⟨_,rfl⟩
  rw [←eW] at hW ⊢
  clear eW
  by_cases hlt:j<2
  ·obtain ⟨z,hz,hzz⟩:∃ z,w9.cell? ⟨q98,j,none⟩=some (.int .i64 z)∧(z<400∨1200<z):=by
    rcases j with _ | _ | j
    ·exact ⟨z0,Za HZ9.out 0 _ rfl,.inl HZ.out.1⟩
    ·exact ⟨z1,Za HZ9.out 1 _ rfl,.inr HZ.out.2⟩
    ·omega
   have c0:wl.cell? ⟨q98,j,none⟩=some (.int .i64 z):=(hW.cell (Zc hz)).trans hz
   have i0:(0:Int)≤(j:Int):=by omega
   have i1:(j:Int)<2:=by omega
   have i2:decide ((j:Int)<2)=true:=decide_eq_true (by omega)
   have i3:decide (j<2)=true:=decide_eq_true hlt
   have HX:=Qh (Qi hlt (Qi hg (Qi hW hzz)))
   have HB:=Qh (Ze HB9.out hW)
   have HWL:=Qh (Ze HW8.out HB.out)
   have Uj:=Qh ((HB.out.block _ (lt_of_block HQ8.out)).trans HQ8.out)
   have HSL:=Qh (HS8.out.toV.below HB.out)
   clear hlt hg hW hz hzz
   go_upto_region 12 with fail
   clear c0 i0 i2 i3
   go_cut [21,22] (fun x21 x22 wx=>x21=.slice none 0 0∧x22=.int .i64 2∧Below wl.heap.size wl wx)
   case first=>
    obtain ⟨wdc,ed⟩:∃ W,W=wl.drew:=⟨_,rfl⟩
    have hbd:Below wl.heap.size wl wdc:=by rw [ed];exact (Below.refl _ _).drew
    have HC:wdc.cell? ⟨q1,0,none⟩=some (.int .i64 wS2.cl)∧wdc.cell? ⟨q1,1,none⟩=some (.int .i64 wS2.next)∧wdc.cell? ⟨q1,2,none⟩=some (.int .i64 wS2.acked)∧wdc.cell? ⟨q1,3,none⟩=some (.slice LA5 ln5 lc5)∧wdc.cell? ⟨q1,4,none⟩=some (.slice IA5 iN5 ic5):=⟨Za ((hbd.block _ (lt_of_block Uj.out)).trans Uj.out) 0 _ rfl,Za ((hbd.block _ (lt_of_block Uj.out)).trans Uj.out) 1 _ rfl,Za ((hbd.block _ (lt_of_block Uj.out)).trans Uj.out) 2 _ rfl,Za ((hbd.block _ (lt_of_block Uj.out)).trans Uj.out) 3 _ rfl,Za ((hbd.block _ (lt_of_block Uj.out)).trans Uj.out) 4 _ rfl⟩
    have HB:=Qh hbd
    have HD:=Qh ed
    clear hbd ed
    refine Yy (fun W=>W.cell? ⟨q1,0,none⟩=some (.int .i64 wS2.cl)∧W.cell? ⟨q1,1,none⟩=some (.int .i64 wS2.next)∧W.cell? ⟨q1,2,none⟩=some (.int .i64 wS2.acked)∧W.cell? ⟨q1,3,none⟩=some (.slice LA5 ln5 lc5)∧W.cell? ⟨q1,4,none⟩=some (.slice IA5 iN5 ic5)) 3 hmx ?_
    change Zz _ _ _ _ _ _ _ _ _ (World.drew _)
    rw [←HD.out]
    try go_simp
    refine tkp 2 rfl (Or.inr HC) ?_
    try go_simp
    refine tkl 0 rfl HC (by intro W ⟨hC0,hC1,hC2,hC3,hC4⟩;go_simp;try with_reducible rfl) ?_
    refine Jf (j:=1) (k:=8) (by kernel_rfl) ?_ ?_
    ·refine wpOp_step rfl (fun K hK=>?_)
     go_simp
     refine (ZbP 3 0 wdc).mono ?_
     rintro e vc1 ⟨sb,rfl,hA,hbN⟩
     have HA:=Qh hA
     have HC:=cr5 hbN HC
     have HB:=Qh (Ze HB.out hbN)
     clear hA hbN
     refine hK _ _ ?_;clear hK K
     refine ⟨Or.inr HC,?_⟩
     refine Jf (j:=3) (k:=8) (by kernel_rfl) ?_ ?_
     ·refine wpOp_step rfl (fun K hK=>?_)
      go_simp
      refine (wrong_send (s:=wS2) (t:=3) (size:=z) (h:=0) (HT.out.below (Ze HWL.out HB.out)) (HSL.out.below HB.out) HA.out (by rw [ww_num.2.1.2.2];decide) (all12 ww_sm2) (ww_size HX.out.2.2.2)).mono ?_
      rintro e vc2 ⟨rfl,hbN⟩
      have HB:=Qh (Ze HB.out hbN)
      clear hbN
      refine hK _ _ ?_;clear hK K
      refine ⟨Or.inl (by kernel_rfl),?_⟩
      try go_simp
      refine tkq 4 rfl ?_
      try go_simp
      refine tkq 5 rfl ?_
      try go_simp
      refine tkq 6 rfl ?_
      try go_simp
      refine tkq 7 rfl ?_
      try go_simp
      refine Zi 8 rfl (fun K hK=>?_)
      go_simp
      obtain ⟨vc3,q20,e9,el,hbN,hlN⟩:=nm1 vc2 (Y4 0 0 0 (.slice none 0 0) (.slice none 0 0))
      have hq0:wl.heap.size≤q20:=by rw [el];exact HB.out.size
      have HB:=Qh (Ze HB.out hbN)
      have HQN:=Qh hlN
      have Qv:=Qh hq0
      clear hbN hlN hq0
      refine hK _ _ ?_;clear hK K
      rw [←e9,←el]
      clear e9 el
      refine ⟨Or.inl (by kernel_rfl),?_⟩
      exact Ts1
     ·refine wpOp_step rfl (fun K hK=>?_)
      go_simp
      obtain ⟨vc2,q20,e9,el,hbN,hlN⟩:=nm1 vc1 (Y4 0 0 0 (.slice none 0 0) (.slice none 0 0))
      have hq0:wl.heap.size≤q20:=by rw [el];exact HB.out.size
      have HAB:=Qh hbN
      have HC:=cr5 hbN HC
      have HB:=Qh (Ze HB.out hbN)
      have HQN:=Qh hlN
      have Qv:=Qh hq0
      clear hbN hlN hq0
      refine hK _ _ ?_;clear hK K
      rw [←e9,←el]
      clear e9 el
      refine ⟨Or.inr HC,?_⟩
      try go_simp
      refine Zi 3 rfl (fun K hK=>?_)
      go_simp
      refine (wrong_send (s:=wS2) (t:=3) (size:=z) (h:=0) (HT.out.below (Ze HWL.out HB.out)) (HSL.out.below HB.out) (HA.out.below HAB.out) (by rw [ww_num.2.1.2.2];decide) (all12 ww_sm2) (ww_size HX.out.2.2.2)).mono ?_
      exact Ts5
    ·refine wpOp_step rfl (fun K hK=>?_)
     go_simp
     obtain ⟨vc1,q20,e9,el,hbN,hlN⟩:=nm1 wdc (Y4 0 0 0 (.slice none 0 0) (.slice none 0 0))
     have hq0:wl.heap.size≤q20:=by rw [el];exact HB.out.size
     have HC:=cr5 hbN HC
     have HB:=Qh (Ze HB.out hbN)
     have HQN:=Qh hlN
     have Qv:=Qh hq0
     clear hbN hlN hq0
     refine hK _ _ ?_;clear hK K
     rw [←e9,←el]
     clear e9 el
     refine ⟨Or.inr HC,?_⟩
     try go_simp
     refine Zi 1 rfl (fun K hK=>?_)
     go_simp
     refine (ZbP 3 0 vc1).mono ?_
     rintro e vc2 ⟨sb,rfl,hA,hbN⟩
     have HA:=Qh hA
     have HC:=cr5 hbN HC
     have HB:=Qh (Ze HB.out hbN)
     have HQN:=Qh ((hbN.block _ (lt_of_block HQN.out)).trans HQN.out)
     clear hA hbN
     refine hK _ _ ?_;clear hK K
     refine ⟨Or.inr HC,?_⟩
     try go_simp
     refine Zi 3 rfl (fun K hK=>?_)
     go_simp
     refine (wrong_send (s:=wS2) (t:=3) (size:=z) (h:=0) (HT.out.below (Ze HWL.out HB.out)) (HSL.out.below HB.out) HA.out (by rw [ww_num.2.1.2.2];decide) (all12 ww_sm2) (ww_size HX.out.2.2.2)).mono ?_
     exact Ts5
   case rest=>
   obtain ⟨rfl,rfl,hbx⟩:=hcut
   obtain ⟨wm,eW⟩:∃ V,V=wc:=⟨_,rfl⟩
   rw [←eW] at hbx ⊢
   clear eW
   have HBX:=Qh hbx
   clear hbx
   go_wp2_with fail
   go_roundg (2-(j+1))
   case measure=>have:=HX.out.1;have:=HX.out.2.1;omega
   case rel=>exact ⟨j+1,by have:=HX.out.1;have:=HX.out.2.1;omega,by go_num,Ze HX.out.2.2.1 HBX.out⟩
  ·have i2:decide ((j:Int)<2)=false:=decide_eq_false (by omega)
   have i3:decide (j<2)=false:=decide_eq_false hlt
   have HB10:=Qh (Ze HB9.out hW)
   clear hlt hg hW
   go_upto_region 16 with fail
   clear i2 i3
   exact Uo a n w w8 wl q1 q15 g1 c1 n1 B1 LA5 IA5 RA ln5 lc5 iN5 ic5 rn rc _ _ _ rfl HT.out HA0.out HQL.out HW8.out HQ8.out HS8.out HR8.out HP8.out HN1.out HC1.out HB10.out (by assumption) (by assumption)
end
end Go.Proofs.YtlgcfimhfmgkmaaGreatDoor
