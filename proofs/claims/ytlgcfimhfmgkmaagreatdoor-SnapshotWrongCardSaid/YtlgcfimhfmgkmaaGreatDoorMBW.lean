/- Lemmas for the statement. -/
import Derived.Test.YtlgcfimhfmgkmaaGreatDoorMBS
set_option linter.unusedVariables false
set_option linter.unusedSimpArgs false
namespace Go.Proofs.YtlgcfimhfmgkmaaGreatDoor
open Go.RowKit
section
structure But (q B:Nat) (w W W':World):Prop where
 blk:∀ b,b<W.heap.size→b≠q→W'.heap[b]?=W.heap[b]?
 size:W.heap.size≤W'.heap.size
 bel:Below w.heap.size w W'
theorem ZrK {w:World} {v:Value} (hT:Tabs w) (hS:ZA w aS2 v):Calls Tryz.prog 17 #[v,.int .i64 2] w fun e w'=>∃ x,e=.returned (.tuple #[x,.int .i64 0])∧ZA w' aS3 x∧Below w.heap.size w w':=by
 obtain ⟨a1,a2,a3,a4,a5,a6,a7,a8⟩:=Zrk
 refine (ZdV aS2 2 v w hT hS a4 a5 (ZbR aS2 Zrf) (by omega)).mono ?_
 rintro e w' ⟨u,rfl,hA⟩
 rcases hA with ⟨h,_⟩|⟨_,h,_⟩|⟨_,_,h,_⟩|⟨_,_,_,x,rfl,hx⟩
 ·rw [a1] at h;cases h
 ·omega
 ·rw [h] at a3;cases a3
 ·refine ⟨x,rfl,Za6.toV hx a7 a8,?_⟩
  obtain ⟨B,B2,OA,QA,oc,qc,ls,_,_,hS⟩:=hx
  exact hS.bel
theorem ZjS:(∀ x,x∈aR1.log→x.base≠aS2.next)∧(∀ x,x∈aR1.log→x.es.length≠1∨∀ e,e∈x.es→e.id≠aS2.acked):=by decide +kernel
theorem ZrL {W:World} {b:Nat} {x y:Int} (h:W.heap[b]?=some (.cells #[.int .i64 x,.int .i64 y] 3 (0,0))) (hx:∀ z,z∈[x,y]→-9223372036854775808≤z∧z≤9223372036854775807):XF W (some ⟨b,0,none⟩) 2 [x,y]:=by
 refine ⟨rfl,fun j z hj=>⟨b,0,rfl,?_⟩,by omega,hx⟩
 rcases j with _ | _ | j
 ·injection hj with hj;subst hj;exact Za h 0 _ rfl
 ·injection hj with hj;subst hj;exact Za h 1 _ rfl
 ·simp at hj
theorem ZrM {W:World} {b:Nat} {x:Int} (h:W.heap[b]?=some (.cells #[.int .i64 x] 3 (0,0))) (hx:∀ z,z∈[x]→-9223372036854775808≤z∧z≤9223372036854775807):XF W (some ⟨b,0,none⟩) 1 [x]:=by
 refine ⟨rfl,fun j z hj=>⟨b,0,rfl,?_⟩,by omega,hx⟩
 rcases j with _ | j
 ·injection hj with hj;subst hj;exact Za h 0 _ rfl
 ·simp at hj
theorem Tq6 {p:Prop} (h:p:=by
 rintro e v83 ⟨x,pv,B,rfl,hS,hp,hbN⟩
 obtain ⟨LA8,IA8,ln8,lc8,iN8,ic8,rfl,hSV⟩:=hS
 have HP:=Qh hp.1
 have hqP:=lt_of_block HQN.out
 have hpP:=hp.2
 have HNE:=Qh (fun (b:Nat) (hb:Value.ownBlock pv=some b)=>(show b≠q9 from by have h1:=(Yg HP.out hb).2;have:=hqP;have:=hpP;omega))
 clear hqP hpP
 have HB:=Qh (Ze HB.out hbN)
 have HQN:=Qh ((hbN.block _ (lt_of_block HQN.out)).trans HQN.out)
 clear hSV hp hbN
 refine hK _ _ ?_;clear hK K
 refine ⟨Or.inl (by kernel_rfl),?_⟩
 refine tkq 3 rfl ?_
 refine tkq 4 rfl ?_
 refine tkq 5 rfl ?_
 refine tkq 6 rfl ?_
 refine Zi 8 rfl (fun K hK=>?_)
 have hq:=HQN.out
 have y0:v83.cell? ⟨q9,0,none⟩=some (.int .i64 0):=Za hq 0 _ rfl
 have y1:v83.cell? ⟨q9,1,none⟩=some (.int .i64 0):=Za hq 1 _ rfl
 have y2:v83.cell? ⟨q9,2,none⟩=some (.int .i64 0):=Za hq 2 _ rfl
 have y3:v83.cell? ⟨q9,3,none⟩=some (.slice none 0 0):=Za hq 3 _ rfl
 have y4:v83.cell? ⟨q9,4,none⟩=some (.slice none 0 0):=Za hq 4 _ rfl
 have y5:=Zd hq 0
 have y6:=Zd hq 1
 have y7:=Zd hq 2
 have y8:=Zd hq 3
 have y9:=Zd hq 4
 clear hq
 go_simp
 clear y0 y1 y2 y3 y4 y5 y6 y7 y8 y9
 refine hK _ _ ?_;clear hK K
 refine ⟨Or.inl (by kernel_rfl),?_⟩
 refine tkq 9 rfl ?_
 refine tkq 10 rfl ?_
 refine ZX (by kernel_rfl) ?_ _
 try clear HC
 go_wp2_with fail
 go_meet
 exact ⟨q9,rfl,rfl,Zeh (XW HP.out (fun b hb=>Xn _ _ _ _ _ _ _ (HNE.out b hb))) (Nat.zero_le _),Yl _ _ _ _ _ HB.out Qv.out⟩):p:=h
set_option maxRecDepth 100000 in
set_option maxHeartbeats 8000000 in
theorem ZrN (w:World) (hT:Tabs w):Calls Tryz.prog 10 #[] w fun e w'=>e=.returned (.bool true)∧Below w.heap.size w w':=by
 have hmx:Tryz.prog.follows .mixedOrders=true:=by kernel_rfl
 have HT:=Qh hT
 have F0:=Ziz 2 w
 rw [show JR 2=.tuple #[.agg #[.int .i64 2,.int .i64 1,.int .i64 0,.slice none 0 0,.slice none 0 0],.int .i64 0] from by unfold JR;rw [if_neg (by decide)]] at F0
 clear hT
 go_enter Tryz.func10,Tryz.ntmps10
 go_upto_region 2 with (go_at_call 11;refine F0.mono ?_;rintro e w1 ⟨rfl,hb1⟩;have H1:=Qh hb1;clear hb1 F0)
 obtain ⟨w2,q1,ex,eq,hbx,hq⟩:=nm1 w1 (.cells #[.int .i64 2,.int .i64 1,.int .i64 0,.slice none 0 0,.slice none 0 0] 33 (0,0))
 rw [←ex,←eq]
 have ZjT:=eq
 clear ex eq
 have HW2:=Qh (Ze H1.out hbx)
 have HQ2:=Qh hq
 have HS0:=Qh (show ZA w2 aS0 (.agg #[.int .i64 2,.int .i64 1,.int .i64 0,.slice none 0 0,.slice none 0 0]) from ZjJ w2)
 have HQL:=Qh (show w.heap.size≤q1 from by rw [ZjT];exact H1.out.size)
 clear hq hbx ZjT
 go_cut [3,4] (fun va vb wx=>∃ (LA2:Option Addr) (ln2 lc2:Nat) (IA2:Option Addr) (iN2 ic2 B:Nat),vb=.int .i64 0∧wx.heap[q1]?=some (.cells #[.int .i64 aS1.cl,.int .i64 aS1.next,.int .i64 aS1.acked,.slice LA2 ln2 lc2,.slice IA2 iN2 ic2] 33 (0,0))∧ZA wx aS1 (.agg #[.int .i64 aS1.cl,.int .i64 aS1.next,.int .i64 aS1.acked,.slice LA2 ln2 lc2,.slice IA2 iN2 ic2])∧(wx.ownsRow B 5 1 va (8+Zk (ZB (plX aS0 3 1200 (Zf 0)) (wtF aS0 (Zf 0)).length)) (X7 (plX aS0 3 1200 (Zf 0)) (wtF aS0 (Zf 0)).length)∧w2.heap.size≤B)∧But q1 0 w w2 wx)
 case first=>
  obtain ⟨wd2,ed⟩:∃ W,W=w2.drew:=⟨_,rfl⟩
  have hbd:Below w2.heap.size w2 wd2:=by rw [ed];exact (Below.refl _ _).drew
  have HC:wd2.cell? ⟨q1,0,none⟩=some (.int .i64 2)∧wd2.cell? ⟨q1,1,none⟩=some (.int .i64 1)∧wd2.cell? ⟨q1,2,none⟩=some (.int .i64 0)∧wd2.cell? ⟨q1,3,none⟩=some (.slice none 0 0)∧wd2.cell? ⟨q1,4,none⟩=some (.slice none 0 0):=⟨Za ((hbd.block _ (lt_of_block HQ2.out)).trans HQ2.out) 0 _ rfl,Za ((hbd.block _ (lt_of_block HQ2.out)).trans HQ2.out) 1 _ rfl,Za ((hbd.block _ (lt_of_block HQ2.out)).trans HQ2.out) 2 _ rfl,Za ((hbd.block _ (lt_of_block HQ2.out)).trans HQ2.out) 3 _ rfl,Za ((hbd.block _ (lt_of_block HQ2.out)).trans HQ2.out) 4 _ rfl⟩
  have HB:=Qh hbd
  have HD:=Qh ed
  clear hbd ed
  refine Yy (fun W=>W.cell? ⟨q1,0,none⟩=some (.int .i64 2)∧W.cell? ⟨q1,1,none⟩=some (.int .i64 1)∧W.cell? ⟨q1,2,none⟩=some (.int .i64 0)∧W.cell? ⟨q1,3,none⟩=some (.slice none 0 0)∧W.cell? ⟨q1,4,none⟩=some (.slice none 0 0)) 2 hmx ?_
  change Zz _ _ _ _ _ _ _ _ _ (World.drew _)
  rw [←HD.out]
  refine tkl 0 rfl HC (by intro W ⟨hC0,hC1,hC2,hC3,hC4⟩;go_simp;try with_reducible rfl) ?_
  refine Zi 1 rfl (fun K hK=>?_)
  go_simp
  refine (ZbP 3 0 wd2).mono ?_
  rintro e v21 ⟨sb,rfl,hA,hbN⟩
  have HA:=Qh hA
  have HC:=cr5 hbN HC
  have HB:=Qh (Ze HB.out hbN)
  clear hA hbN
  refine hK _ _ ?_;clear hK K
  refine ⟨Or.inr HC,?_⟩
  refine Zi 2 rfl (fun K hK=>?_)
  go_simp
  refine (ZbQ (s:=aS0) (t:=3) (h:=0) (HT.out.below (Ze HW2.out HB.out)) (HS0.out.below HB.out) HA.out Zq9 (ZbR aS0 Zrd)).mono ?_
  rintro e v22 ⟨x,pv,B,rfl,hS,hp,hbN⟩
  obtain ⟨LA2,IA2,ln2,lc2,iN2,ic2,rfl,hSV⟩:=hS
  have hS2:ZA v22 aS1 (.agg #[.int .i64 aS1.cl,.int .i64 aS1.next,.int .i64 aS1.acked,.slice LA2 ln2 lc2,.slice IA2 iN2 ic2]):=⟨LA2,IA2,ln2,lc2,iN2,ic2,rfl,hSV⟩
  have HS2:=Qh hS2
  have HP:=Qh (Qi hp.1 (show w2.heap.size≤B from by have:=HB.out.size;have:=hp.2;omega))
  have HB:=Qh (Ze HB.out hbN)
  have HQN:=Qh ((HB.out.block _ (lt_of_block HQ2.out)).trans HQ2.out)
  clear hS2 hSV hp hbN
  refine hK _ _ ?_;clear hK K
  refine ⟨Or.inl (by kernel_rfl),?_⟩
  refine tkq 3 rfl ?_
  refine tkq 4 rfl ?_
  refine tkq 5 rfl ?_
  refine tkq 6 rfl ?_
  refine Zi 7 rfl (fun K hK=>?_)
  have hq:=HQN.out
  have y0:v22.cell? ⟨q1,0,none⟩=some (.int .i64 2):=Za hq 0 _ rfl
  have y1:v22.cell? ⟨q1,1,none⟩=some (.int .i64 1):=Za hq 1 _ rfl
  have y2:v22.cell? ⟨q1,2,none⟩=some (.int .i64 0):=Za hq 2 _ rfl
  have y3:v22.cell? ⟨q1,3,none⟩=some (.slice none 0 0):=Za hq 3 _ rfl
  have y4:v22.cell? ⟨q1,4,none⟩=some (.slice none 0 0):=Za hq 4 _ rfl
  have y5:=Zd hq 0
  have y6:=Zd hq 1
  have y7:=Zd hq 2
  have y8:=Zd hq 3
  have y9:=Zd hq 4
  clear hq
  go_simp
  clear y0 y1 y2 y3 y4 y5 y6 y7 y8 y9
  refine hK _ _ ?_;clear hK K
  refine ⟨Or.inl (by kernel_rfl),?_⟩
  refine tkq 8 rfl ?_
  refine tkq 9 rfl ?_
  refine ZX (by kernel_rfl) ?_ _
  try clear HC
  go_wp2_with fail
  go_meet
  exact ⟨LA2,ln2,lc2,IA2,iN2,ic2,B,rfl,Yk _ _ _ _ _ HQN.out,ZA.boxed (s:=aS0) (x:=.slice none 0 0) (y:=.slice none 0 0) HS2.out Zra HQN.out (fun b _ hb=>Xn _ _ _ _ _ _ _ hb),⟨XW HP.out.1 (fun b hb=>Xn _ _ _ _ _ _ _ (by have h1:=(Yg HP.out.1 hb).2;have h2:=HP.out.2;have h3:=lt_of_block HQ2.out;omega)),HP.out.2⟩,⟨fun b hb hne=>(Xn _ _ _ _ _ _ _ hne).trans (HB.out.block b hb),Nat.le_trans HB.out.size (Yl (B:=0) _ _ _ _ _ (Below.refl _ _) (Nat.zero_le _)).size,Yl _ _ _ _ _ (Ze HW2.out HB.out) HQL.out⟩⟩
 case rest=>
 obtain ⟨LA2,ln2,lc2,IA2,iN2,ic2,B1,rfl,hq,hS,hp,ZaI⟩:=hcut
 obtain ⟨w3,e3⟩:∃ W,W=wc:=⟨_,rfl⟩
 rw [←e3] at hq hS hp ZaI ⊢
 clear e3
 have HW3:=Qh ZaI.bel
 have HQ3:=Qh hq
 have HS1:=Qh hS
 have HP1:=Qh hp
 have HU2:=Qh (lt_of_block HQ2.out)
 clear hq hS hp ZaI
 go_upto_region 3 with fail
 go_cut [5,6] (fun va vb wx=>∃ (LA3:Option Addr) (ln3 lc3:Nat) (IA3:Option Addr) (iN3 ic3 B:Nat),vb=.int .i64 0∧wx.heap[q1]?=some (.cells #[.int .i64 aS2.cl,.int .i64 aS2.next,.int .i64 aS2.acked,.slice LA3 ln3 lc3,.slice IA3 iN3 ic3] 33 (0,0))∧ZA wx aS2 (.agg #[.int .i64 aS2.cl,.int .i64 aS2.next,.int .i64 aS2.acked,.slice LA3 ln3 lc3,.slice IA3 iN3 ic3])∧(wx.ownsRow B 5 1 va (8+Zk (ZB (plX aS1 4 1200 (Zf 0)) (wtF aS1 (Zf 0)).length)) (X7 (plX aS1 4 1200 (Zf 0)) (wtF aS1 (Zf 0)).length)∧w3.heap.size≤B)∧But q1 0 w w3 wx)
 case first=>
  obtain ⟨wd3,ed⟩:∃ W,W=w3.drew:=⟨_,rfl⟩
  have hbd:Below w3.heap.size w3 wd3:=by rw [ed];exact (Below.refl _ _).drew
  have HC:wd3.cell? ⟨q1,0,none⟩=some (.int .i64 aS1.cl)∧wd3.cell? ⟨q1,1,none⟩=some (.int .i64 aS1.next)∧wd3.cell? ⟨q1,2,none⟩=some (.int .i64 aS1.acked)∧wd3.cell? ⟨q1,3,none⟩=some (.slice LA2 ln2 lc2)∧wd3.cell? ⟨q1,4,none⟩=some (.slice IA2 iN2 ic2):=⟨Za ((hbd.block _ (lt_of_block HQ3.out)).trans HQ3.out) 0 _ rfl,Za ((hbd.block _ (lt_of_block HQ3.out)).trans HQ3.out) 1 _ rfl,Za ((hbd.block _ (lt_of_block HQ3.out)).trans HQ3.out) 2 _ rfl,Za ((hbd.block _ (lt_of_block HQ3.out)).trans HQ3.out) 3 _ rfl,Za ((hbd.block _ (lt_of_block HQ3.out)).trans HQ3.out) 4 _ rfl⟩
  have HB:=Qh hbd
  have HD:=Qh ed
  clear hbd ed
  refine Yy (fun W=>W.cell? ⟨q1,0,none⟩=some (.int .i64 aS1.cl)∧W.cell? ⟨q1,1,none⟩=some (.int .i64 aS1.next)∧W.cell? ⟨q1,2,none⟩=some (.int .i64 aS1.acked)∧W.cell? ⟨q1,3,none⟩=some (.slice LA2 ln2 lc2)∧W.cell? ⟨q1,4,none⟩=some (.slice IA2 iN2 ic2)) 2 hmx ?_
  change Zz _ _ _ _ _ _ _ _ _ (World.drew _)
  rw [←HD.out]
  refine tkl 0 rfl HC (by intro W ⟨hC0,hC1,hC2,hC3,hC4⟩;go_simp;try with_reducible rfl) ?_
  refine Zi 1 rfl (fun K hK=>?_)
  go_simp
  refine (ZbP 4 0 wd3).mono ?_
  rintro e v31 ⟨sb,rfl,hA,hbN⟩
  have HA:=Qh hA
  have HC:=cr5 hbN HC
  have HB:=Qh (Ze HB.out hbN)
  clear hA hbN
  refine hK _ _ ?_;clear hK K
  refine ⟨Or.inr HC,?_⟩
  refine Zi 2 rfl (fun K hK=>?_)
  go_simp
  refine (ZbQ (s:=aS1) (t:=4) (h:=0) (HT.out.below (Ze HW3.out HB.out)) (HS1.out.below HB.out) HA.out ZfN (ZbR aS1 Zre)).mono ?_
  rintro e v32 ⟨x,pv,B,rfl,hS,hp,hbN⟩
  obtain ⟨LA3,IA3,ln3,lc3,iN3,ic3,rfl,hSV⟩:=hS
  have hS2:ZA v32 aS2 (.agg #[.int .i64 aS2.cl,.int .i64 aS2.next,.int .i64 aS2.acked,.slice LA3 ln3 lc3,.slice IA3 iN3 ic3]):=⟨LA3,IA3,ln3,lc3,iN3,ic3,rfl,hSV⟩
  have HS2:=Qh hS2
  have HP:=Qh (Qi hp.1 (show w3.heap.size≤B from by have:=HB.out.size;have:=hp.2;omega))
  have HB:=Qh (Ze HB.out hbN)
  have HQN:=Qh ((HB.out.block _ (lt_of_block HQ3.out)).trans HQ3.out)
  clear hS2 hSV hp hbN
  refine hK _ _ ?_;clear hK K
  refine ⟨Or.inl (by kernel_rfl),?_⟩
  refine tkq 3 rfl ?_
  refine tkq 4 rfl ?_
  refine tkq 5 rfl ?_
  refine tkq 6 rfl ?_
  refine Zi 7 rfl (fun K hK=>?_)
  have hq:=HQN.out
  have y0:v32.cell? ⟨q1,0,none⟩=some (.int .i64 aS1.cl):=Za hq 0 _ rfl
  have y1:v32.cell? ⟨q1,1,none⟩=some (.int .i64 aS1.next):=Za hq 1 _ rfl
  have y2:v32.cell? ⟨q1,2,none⟩=some (.int .i64 aS1.acked):=Za hq 2 _ rfl
  have y3:v32.cell? ⟨q1,3,none⟩=some (.slice LA2 ln2 lc2):=Za hq 3 _ rfl
  have y4:v32.cell? ⟨q1,4,none⟩=some (.slice IA2 iN2 ic2):=Za hq 4 _ rfl
  have y5:=Zd hq 0
  have y6:=Zd hq 1
  have y7:=Zd hq 2
  have y8:=Zd hq 3
  have y9:=Zd hq 4
  clear hq
  go_simp
  clear y0 y1 y2 y3 y4 y5 y6 y7 y8 y9
  refine hK _ _ ?_;clear hK K
  refine ⟨Or.inl (by kernel_rfl),?_⟩
  refine tkq 8 rfl ?_
  refine tkq 9 rfl ?_
  refine ZX (by kernel_rfl) ?_ _
  try clear HC
  go_wp2_with fail
  go_meet
  exact ⟨LA3,ln3,lc3,IA3,iN3,ic3,B,rfl,Yk _ _ _ _ _ HQN.out,ZA.boxed (s:=aS1) (x:=.slice none 0 0) (y:=.slice none 0 0) HS2.out Zrb HQN.out (fun b _ hb=>Xn _ _ _ _ _ _ _ hb),⟨XW HP.out.1 (fun b hb=>Xn _ _ _ _ _ _ _ (by have h1:=(Yg HP.out.1 hb).2;have h2:=HP.out.2;have h3:=lt_of_block HQ3.out;omega)),HP.out.2⟩,⟨fun b hb hne=>(Xn _ _ _ _ _ _ _ hne).trans (HB.out.block b hb),Nat.le_trans HB.out.size (Yl (B:=0) _ _ _ _ _ (Below.refl _ _) (Nat.zero_le _)).size,Yl _ _ _ _ _ (Ze HW3.out HB.out) HQL.out⟩⟩
 case rest=>
 obtain ⟨LA3,ln3,lc3,IA3,iN3,ic3,B2,rfl,hq,hS,hp,ZaI⟩:=hcut
 obtain ⟨w4,e4⟩:∃ W,W=wc:=⟨_,rfl⟩
 rw [←e4] at hq hS hp ZaI ⊢
 clear e4
 have HP1:=Qh (Qi (XW HP1.out.1 (fun b hb=>ZaI.blk b (Yg HP1.out.1 hb).1 (by have h1:=(Yg HP1.out.1 hb).2;have h2:=HP1.out.2;have h3:=HU2.out;omega))) HP1.out.2)
 have HW4:=Qh ZaI.bel
 have HQ4:=Qh hq
 have HS2:=Qh hS
 have HP2:=Qh hp
 have HU3:=Qh (lt_of_block HQ3.out)
 clear hq hS hp ZaI
 obtain ⟨g1,c1,ep1,hc1,ZjU⟩:=ZdX HP1.out.1
 subst ep1
 have ZrO:=Qh ZjU
 have c13:w4.cell? ⟨g1,3,none⟩=some (.int .u8 1):=by have h:=Qs ZrO.out (i:=3) (by omega);rw [show YD (plX aS0 3 1200 (Zf 0)) (wtF aS0 (Zf 0)).length 3=1 from Zcy.1] at h;exact h
 obtain ⟨g2,c2,ep2,hc2,ZjV⟩:=ZdX HP2.out.1
 subst ep2
 have ZjW:=Qh ZjV
 have c23:w4.cell? ⟨g2,3,none⟩=some (.int .u8 2):=by have h:=Qs ZjW.out (i:=3) (by omega);rw [show YD (plX aS1 4 1200 (Zf 0)) (wtF aS1 (Zf 0)).length 3=2 from Zcy.2.1] at h;exact h
 have c27:w4.cell? ⟨g2,7,none⟩=some (.int .u8 0):=by have h:=Qs ZjW.out (i:=7) (by omega);rw [show YD (plX aS1 4 1200 (Zf 0)) (wtF aS1 (Zf 0)).length 7=0 from Zcy.2.2.1] at h;exact h
 obtain ⟨n1,en1⟩:∃ n,n=8+Zk (ZB (plX aS0 3 1200 (Zf 0)) (wtF aS0 (Zf 0)).length):=⟨_,rfl⟩
 rw [←en1]
 have HN1:=Qh (show 8≤n1∧n1=8+Zk (ZB (plX aS0 3 1200 (Zf 0)) (wtF aS0 (Zf 0)).length) from ⟨by omega,en1⟩)
 clear en1
 obtain ⟨n2,en2⟩:∃ n,n=8+Zk (ZB (plX aS1 4 1200 (Zf 0)) (wtF aS1 (Zf 0)).length):=⟨_,rfl⟩
 rw [←en2]
 have HN2:=Qh (show 8≤n2∧n2=8+Zk (ZB (plX aS1 4 1200 (Zf 0)) (wtF aS1 (Zf 0)).length) from ⟨by omega,en2⟩)
 clear en2
 clear hc1 hc2 ZjU ZjV
 have d1:decide ((n1:Int)<8)=false:=decide_eq_false (by have:=HN1.out.1;omega)
 have d2:decide ((n2:Int)<8)=false:=decide_eq_false (by have:=HN2.out.1;omega)
 have i1:(3:Int)<(n1:Int):=by have:=HN1.out.1;omega
 have i2:(3:Int)<(n2:Int):=by have:=HN2.out.1;omega
 have i3:(7:Int)<(n2:Int):=by have:=HN2.out.1;omega
 go_upto_region 6 with fail
 clear d1 d2 i1 i2 i3 c13 c23 c27
 have F6:=ZjM (s:=aS1) (t:=4) (h:=0) (r:=aR0) (u:=ZaC) (w:=w4) (HT.out.below HW4.out) (ZjK w4) HP2.out.1 ⟨ZaH.2.2.1,ZaH.2.2.2.1⟩ ZfN Zcz.1 ⟨Rec.zero,ZfP.1,ZfP.2.1.symm,ZfP.2.2.symm,Zbh.1,Zbh.2.1,fun y hy=>by cases hy⟩ Zrg
 unfold ZaC at F6
 rw [←HN2.out.2] at F6
 go_upto_region 7 with (go_at_call 14;refine F6.mono ?_;rintro e w5 ⟨x,VA,vn,vc,rfl,hR,hE,hb5⟩;have hR1:ZaD w5 aR1 x:=hR;obtain ⟨RA,rn,rc,rfl,hRL⟩:=hR1;have hE1:Zj w5 VA vn vc (aE aS1 4 0):=hE;have H5:=Qh (Qi hRL (Qi hE1 hb5));clear hR hE hE1 hRL hb5 F6)
 obtain ⟨w6,q7,ex,eq,hbx,hqa,hqb⟩:=nm2 w5 (.cells #[.int .i64 aR1.base,.int .i64 aR1.last,.slice RA rn rc] 38 (0,0)) (.cells #[.int .i64 4,.slice VA vn vc] 24 (0,0))
 rw [←ex,←eq]
 have ZjX:q1<q7:=by rw [eq];have h1:=lt_of_block HQ4.out;have h2:=H5.out.2.2.size;omega
 have ZcA:=Ze H5.out.2.2 hbx
 have HW6:=Qh (Ze HW4.out ZcA)
 have HQ6:=Qh ((ZcA.block _ (lt_of_block HQ4.out)).trans HQ4.out)
 have HS6:=Qh (HS2.out.below ZcA)
 have HP6:=Qh (Qi (Y3 HP2.out.1 ZcA) HP2.out.2)
 have HR6:=Qh (H5.out.1.below hbx)
 have HE6:=Qh (H5.out.2.1.below hbx)
 have HQ7:=Qh (Qi hqa (Qi hqb ZjX))
 have FA:=ZrK (HT.out.below HW6.out) HS6.out
 have f0:w6.cell? ⟨q1,0,none⟩=some (.int .i64 aS2.cl):=Za HQ6.out 0 _ rfl
 have f1:w6.cell? ⟨q1,1,none⟩=some (.int .i64 aS2.next):=Za HQ6.out 1 _ rfl
 have f2:w6.cell? ⟨q1,2,none⟩=some (.int .i64 aS2.acked):=Za HQ6.out 2 _ rfl
 have f3:w6.cell? ⟨q1,3,none⟩=some (.slice LA3 ln3 lc3):=Za HQ6.out 3 _ rfl
 have f4:w6.cell? ⟨q1,4,none⟩=some (.slice IA3 iN3 ic3):=Za HQ6.out 4 _ rfl
 clear ex eq hbx hqa hqb ZjX ZcA
 go_upto_region 8 with (go_at_call 17;refine FA.mono ?_;rintro e w7 ⟨x,rfl,hS,hb7⟩;obtain ⟨LA7,IA7,ln7,lc7,iN7,ic7,rfl,hSV⟩:=hS;have hS7:ZA w7 aS3 (.agg #[.int .i64 aS3.cl,.int .i64 aS3.next,.int .i64 aS3.acked,.slice LA7 ln7 lc7,.slice IA7 iN7 ic7]):=⟨LA7,IA7,ln7,lc7,iN7,ic7,rfl,hSV⟩;have H7:=Qh (Qi hS7 hb7);have hq7:=(hb7.block _ (lt_of_block HQ6.out)).trans HQ6.out;have y0:w7.cell? ⟨q1,0,none⟩=some (.int .i64 aS2.cl):=Za hq7 0 _ rfl;have y5:=Zd hq7 0;have y1:w7.cell? ⟨q1,1,none⟩=some (.int .i64 aS2.next):=Za hq7 1 _ rfl;have y6:=Zd hq7 1;have y2:w7.cell? ⟨q1,2,none⟩=some (.int .i64 aS2.acked):=Za hq7 2 _ rfl;have y7:=Zd hq7 2;have y3:w7.cell? ⟨q1,3,none⟩=some (.slice LA3 ln3 lc3):=Za hq7 3 _ rfl;have y8:=Zd hq7 3;have y4:w7.cell? ⟨q1,4,none⟩=some (.slice IA3 iN3 ic3):=Za hq7 4 _ rfl;have y9:=Zd hq7 4;have Zd0:=Qh hq7;clear hS7 hSV hb7 hq7 FA)
 clear f0 f1 f2 f3 f4
 obtain ⟨w8,ex,e8⟩:=nm5 w7 q1 (.int .i64 aS3.cl) (.int .i64 aS3.next) (.int .i64 aS3.acked) (.slice LA7 ln7 lc7) (.slice IA7 iN7 ic7)
 rw [←ex]
 clear ex y0 y1 y2 y3 y4 y5 y6 y7 y8 y9
 have hk:∀ b,b<w7.heap.size→b≠q1→w8.heap[b]?=w7.heap[b]?:=fun b _ hne=>by rw [e8];exact Xn _ _ _ _ _ _ _ hne
 have hz8:w7.heap.size≤w8.heap.size:=by rw [e8];exact (Yl (B:=0) _ _ _ _ _ (Below.refl _ _) (Nat.zero_le _)).size
 have HW8:=Qh (show Below w.heap.size w w8 from by rw [e8];exact Yl _ _ _ _ _ (Ze HW6.out H7.out.2) HQL.out)
 have HQ8:=Qh (show w8.heap[q1]?=some (.cells #[.int .i64 aS3.cl,.int .i64 aS3.next,.int .i64 aS3.acked,.slice LA7 ln7 lc7,.slice IA7 iN7 ic7] 33 (0,0)) from by rw [e8];exact Yk _ _ _ _ _ Zd0.out)
 have HS8:=Qh (ZA.boxed (s:=aS2) (x:=.slice none 0 0) (y:=.slice none 0 0) H7.out.1 Zrc Zd0.out hk)
 have hb7:=H7.out.2
 have HP8:=Qh (XW (Y3 HP6.out.1 hb7) (fun b hb=>hk b (Yg (Y3 HP6.out.1 hb7) hb).1 (by have h1:=(Yg HP6.out.1 hb).2;have h2:=HP6.out.2;have h3:=HU3.out;omega)))
 have HR8:=Qh ((HR6.out.below hb7).keepB ZjS.1 ZjS.2 Zd0.out hk)
 have HE8:=Qh ((HE6.out.below hb7).keepB (.inl (by rw [Zbh.2.2.2.2.1];decide)) Zd0.out hk)
 have HQA:=Qh (show w8.heap[q7]?=some (.cells #[.int .i64 aR1.base,.int .i64 aR1.last,.slice RA rn rc] 38 (0,0))∧w8.heap[q7+1]?=some (.cells #[.int .i64 4,.slice VA vn vc] 24 (0,0)) from by
  have h1:=lt_of_block HQ7.out.1
  have h2:=lt_of_block HQ7.out.2.1
  have h3:=HQ7.out.2.2
  have h4:=hb7.size
  exact ⟨(hk _ (by omega) (by omega)).trans ((hb7.block _ h1).trans HQ7.out.1),(hk _ (by omega) (by omega)).trans ((hb7.block _ h2).trans HQ7.out.2.1)⟩)
 clear hk hz8 hb7 e8
 go_cut [9,10,6] (fun v9 v10 v6 wx=>∃ q9,v9=.pointer (some ⟨q9,0,none⟩)∧v6=.int .i64 0∧wx.ownsRow 0 5 1 v10 (8+Zk (ZB (plX aS3 5 1200 (Zf 4)) (wtF aS3 (Zf 4)).length)) (X7 (plX aS3 5 1200 (Zf 4)) (wtF aS3 (Zf 4)).length)∧Below w8.heap.size w8 wx)
 case first=>
  obtain ⟨wd8,ed⟩:∃ W,W=w8.drew:=⟨_,rfl⟩
  have hbd:Below w8.heap.size w8 wd8:=by rw [ed];exact (Below.refl _ _).drew
  have HC:wd8.cell? ⟨q1,0,none⟩=some (.int .i64 aS3.cl)∧wd8.cell? ⟨q1,1,none⟩=some (.int .i64 aS3.next)∧wd8.cell? ⟨q1,2,none⟩=some (.int .i64 aS3.acked)∧wd8.cell? ⟨q1,3,none⟩=some (.slice LA7 ln7 lc7)∧wd8.cell? ⟨q1,4,none⟩=some (.slice IA7 iN7 ic7):=⟨Za ((hbd.block _ (lt_of_block HQ8.out)).trans HQ8.out) 0 _ rfl,Za ((hbd.block _ (lt_of_block HQ8.out)).trans HQ8.out) 1 _ rfl,Za ((hbd.block _ (lt_of_block HQ8.out)).trans HQ8.out) 2 _ rfl,Za ((hbd.block _ (lt_of_block HQ8.out)).trans HQ8.out) 3 _ rfl,Za ((hbd.block _ (lt_of_block HQ8.out)).trans HQ8.out) 4 _ rfl⟩
  have HB:=Qh hbd
  have HD:=Qh ed
  clear hbd ed
  refine Yy (fun W=>W.cell? ⟨q1,0,none⟩=some (.int .i64 aS3.cl)∧W.cell? ⟨q1,1,none⟩=some (.int .i64 aS3.next)∧W.cell? ⟨q1,2,none⟩=some (.int .i64 aS3.acked)∧W.cell? ⟨q1,3,none⟩=some (.slice LA7 ln7 lc7)∧W.cell? ⟨q1,4,none⟩=some (.slice IA7 iN7 ic7)) 2 hmx ?_
  change Zz _ _ _ _ _ _ _ _ _ (World.drew _)
  rw [←HD.out]
  refine tkl 0 rfl HC (by intro W ⟨hC0,hC1,hC2,hC3,hC4⟩;go_simp;try with_reducible rfl) ?_
  refine Jf (j:=1) (k:=7) (by kernel_rfl) ?_ ?_
  ·refine wpOp_step rfl (fun K hK=>?_)
   go_simp
   refine (ZbP 5 4 wd8).mono ?_
   rintro e v81 ⟨sb,rfl,hA,hbN⟩
   have HA:=Qh hA
   have HC:=cr5 hbN HC
   have HB:=Qh (Ze HB.out hbN)
   clear hA hbN
   refine hK _ _ ?_;clear hK K
   refine ⟨Or.inr HC,?_⟩
   refine Jf (j:=2) (k:=7) (by kernel_rfl) ?_ ?_
   ·refine wpOp_step rfl (fun K hK=>?_)
    go_simp
    refine (ZbQ (s:=aS3) (t:=5) (h:=4) (HT.out.below (Ze HW8.out HB.out)) (HS8.out.below HB.out) HA.out Zcx (ZbR aS3 ZfO)).mono ?_
    rintro e v82 ⟨x,pv,B,rfl,hS,hp,hbN⟩
    obtain ⟨LA8,IA8,ln8,lc8,iN8,ic8,rfl,hSV⟩:=hS
    have HP:=Qh hp.1
    have HB:=Qh (Ze HB.out hbN)
    clear hSV hp hbN
    refine hK _ _ ?_;clear hK K
    refine ⟨Or.inl (by kernel_rfl),?_⟩
    refine tkq 3 rfl ?_
    refine tkq 4 rfl ?_
    refine tkq 5 rfl ?_
    refine tkq 6 rfl ?_
    refine Zi 7 rfl (fun K hK=>?_)
    go_simp
    obtain ⟨v83,q9,e9,el,hbN,hlN⟩:=nm1 v82 (.cells #[.int .i64 0,.int .i64 0,.int .i64 0,.slice none 0 0,.slice none 0 0] 33 (0,0))
    have hq0:w8.heap.size≤q9:=by rw [el];exact HB.out.size
    have HNE:=Qh (fun (b:Nat) (hb:Value.ownBlock pv=some b)=>(show b≠q9 from by have h1:=(Yg HP.out hb).1;have:=el;omega))
    have HP:=Qh (Y3 HP.out hbN)
    have HB:=Qh (Ze HB.out hbN)
    have HQN:=Qh hlN
    have Qv:=Qh hq0
    clear hbN hlN hq0
    refine hK _ _ ?_;clear hK K
    rw [←e9,←el]
    clear e9 el
    refine ⟨Or.inl (by kernel_rfl),?_⟩
    refine Zi 8 rfl (fun K hK=>?_)
    have hq:=HQN.out
    have y0:v83.cell? ⟨q9,0,none⟩=some (.int .i64 0):=Za hq 0 _ rfl
    have y1:v83.cell? ⟨q9,1,none⟩=some (.int .i64 0):=Za hq 1 _ rfl
    have y2:v83.cell? ⟨q9,2,none⟩=some (.int .i64 0):=Za hq 2 _ rfl
    have y3:v83.cell? ⟨q9,3,none⟩=some (.slice none 0 0):=Za hq 3 _ rfl
    have y4:v83.cell? ⟨q9,4,none⟩=some (.slice none 0 0):=Za hq 4 _ rfl
    have y5:=Zd hq 0
    have y6:=Zd hq 1
    have y7:=Zd hq 2
    have y8:=Zd hq 3
    have y9:=Zd hq 4
    clear hq
    go_simp
    clear y0 y1 y2 y3 y4 y5 y6 y7 y8 y9
    refine hK _ _ ?_;clear hK K
    refine ⟨Or.inl (by kernel_rfl),?_⟩
    refine tkq 9 rfl ?_
    refine tkq 10 rfl ?_
    refine ZX (by kernel_rfl) ?_ _
    try clear HC
    go_wp2_with fail
    go_meet
    exact ⟨q9,rfl,rfl,Zeh (XW HP.out (fun b hb=>Xn _ _ _ _ _ _ _ (HNE.out b hb))) (Nat.zero_le _),Yl _ _ _ _ _ HB.out Qv.out⟩
   ·refine wpOp_step rfl (fun K hK=>?_)
    go_simp
    obtain ⟨v82,q9,e9,el,hbN,hlN⟩:=nm1 v81 (.cells #[.int .i64 0,.int .i64 0,.int .i64 0,.slice none 0 0,.slice none 0 0] 33 (0,0))
    have hq0:w8.heap.size≤q9:=by rw [el];exact HB.out.size
    have HAB:=Qh hbN
    have HC:=cr5 hbN HC
    have HB:=Qh (Ze HB.out hbN)
    have HQN:=Qh hlN
    have Qv:=Qh hq0
    clear hbN hlN hq0
    refine hK _ _ ?_;clear hK K
    rw [←e9,←el]
    clear e9 el
    refine ⟨Or.inr HC,?_⟩
    refine Zi 2 rfl (fun K hK=>?_)
    go_simp
    refine (ZbQ (s:=aS3) (t:=5) (h:=4) (HT.out.below (Ze HW8.out HB.out)) (HS8.out.below HB.out) (HA.out.below HAB.out) Zcx (ZbR aS3 ZfO)).mono ?_
    exact Tq6
  ·refine wpOp_step rfl (fun K hK=>?_)
   go_simp
   obtain ⟨v81,q9,e9,el,hbN,hlN⟩:=nm1 wd8 (.cells #[.int .i64 0,.int .i64 0,.int .i64 0,.slice none 0 0,.slice none 0 0] 33 (0,0))
   have hq0:w8.heap.size≤q9:=by rw [el];exact HB.out.size
   have HC:=cr5 hbN HC
   have HB:=Qh (Ze HB.out hbN)
   have HQN:=Qh hlN
   have Qv:=Qh hq0
   clear hbN hlN hq0
   refine hK _ _ ?_;clear hK K
   rw [←e9,←el]
   clear e9 el
   refine ⟨Or.inr HC,?_⟩
   refine Zi 1 rfl (fun K hK=>?_)
   go_simp
   refine (ZbP 5 4 v81).mono ?_
   rintro e v82 ⟨sb,rfl,hA,hbN⟩
   have HA:=Qh hA
   have HC:=cr5 hbN HC
   have HB:=Qh (Ze HB.out hbN)
   have HQN:=Qh ((hbN.block _ (lt_of_block HQN.out)).trans HQN.out)
   clear hA hbN
   refine hK _ _ ?_;clear hK K
   refine ⟨Or.inr HC,?_⟩
   refine Zi 2 rfl (fun K hK=>?_)
   go_simp
   refine (ZbQ (s:=aS3) (t:=5) (h:=4) (HT.out.below (Ze HW8.out HB.out)) (HS8.out.below HB.out) HA.out Zcx (ZbR aS3 ZfO)).mono ?_
   exact Tq6
 case rest=>
 obtain ⟨q9,rfl,rfl,hp,hb9⟩:=hcut
 obtain ⟨w9,e9⟩:∃ W,W=wc:=⟨_,rfl⟩
 rw [←e9] at hp hb9 ⊢
 clear e9
 have HP3:=Qh (Qi hp True.intro)
 have HW9:=Qh (Ze HW8.out hb9)
 have HP9:=Qh (Y3 HP8.out hb9)
 have HR9:=Qh (HR8.out.below hb9)
 have HE9:=Qh (HE8.out.below hb9)
 have HQ9:=Qh (Qi ((hb9.block _ (lt_of_block HQA.out.1)).trans HQA.out.1) ((hb9.block _ (lt_of_block HQA.out.2)).trans HQA.out.2))
 clear hp hb9
 obtain ⟨g3,c3,ep3,hc3,ZjY⟩:=ZdX HP3.out.1
 subst ep3
 have ZjZ:=Qh ZjY
 have c33:w9.cell? ⟨g3,3,none⟩=some (.int .u8 3):=by have h:=Qs ZjZ.out (i:=3) (by omega);rw [show YD (plX aS3 5 1200 (Zf 4)) (wtF aS3 (Zf 4)).length 3=3 from Zcy.2.2.2.1] at h;exact h
 have c37:w9.cell? ⟨g3,7,none⟩=some (.int .u8 2):=by have h:=Qs ZjZ.out (i:=7) (by omega);rw [show YD (plX aS3 5 1200 (Zf 4)) (wtF aS3 (Zf 4)).length 7=2 from Zcy.2.2.2.2] at h;exact h
 obtain ⟨n3,en3⟩:∃ n,n=8+Zk (ZB (plX aS3 5 1200 (Zf 4)) (wtF aS3 (Zf 4)).length):=⟨_,rfl⟩
 rw [←en3]
 have HN3:=Qh (show 8≤n3∧n3=8+Zk (ZB (plX aS3 5 1200 (Zf 4)) (wtF aS3 (Zf 4)).length) from ⟨by omega,en3⟩)
 clear en3
 clear hc3 ZjY
 have hvn:vn=2:=HE9.out.len.trans Zbh.2.2.2.2.1
 subst hvn
 have HC3:=Qh (Qi c33 c37)
 clear c33 c37
 have i2:(3:Int)<(n3:Int):=by have:=HN3.out.1;omega
 have i3:(7:Int)<(n3:Int):=by have:=HN3.out.1;omega
 have k0:w9.cell? ⟨q7+1,0,none⟩=some (.int .i64 4):=Za HQ9.out.2 0 _ rfl
 have k1:w9.cell? ⟨q7+1,1,none⟩=some (.slice VA 2 vc):=Za HQ9.out.2 1 _ rfl
 go_upto_region 9 with fail
 go_upto_region 11 with (first
  | (go_at_call 37;refine (ZjI IA9 (some ⟨w10.heap.size,0,none⟩) 2 ic9 2 [1,5] (w10.alloc (.cells #[.int .i64 1,.int .i64 5] 3 (0,0))) (H10.out.1.below (Zg w10 _)) (ZrL (heap_alloc_new w10 _) (by decide))).mono ?_;rintro e w11 ⟨rfl,hb⟩;have ZcB:=Ze H10.out.2 (Ze (Zg w10 _) hb);have k2:w11.cell? ⟨q7+1,0,none⟩=some (.int .i64 4):=Za ((ZcB.block _ (lt_of_block HQ9.out.2)).trans HQ9.out.2) 0 _ rfl;have c3:=(ZcB.cell (Zc HC3.out.1)).trans HC3.out.1;have c7:=(ZcB.cell (Zc HC3.out.2)).trans HC3.out.2;have H11:=Qh ZcB;clear hb ZcB)
  | (go_at_call 38;refine (ZjH 4 VA 2 vc (aE aS1 4 0) w9 HE9.out (by decide)).mono ?_;rintro e w10 ⟨v,rfl,hown,hb⟩;rw [Zrl] at hown;obtain ⟨IA9,ic9,rfl,hI⟩:=JP hown rfl (by decide) (by decide);have H10:=Qh (Qi hI hb);clear hown hI hb k0 k1))
 clear k2 c3 c7 i2 i3
 have hx3:=HP3.out.1
 rw [←HN3.out.2] at hx3
 have HX9:=Qh hx3
 have ZrP:=Qh HQ9.out.1
 clear hx3
 have HQ9:=Qh ZrP.out
 have Zj0:=Qh (Ze HW9.out H11.out)
 have ZfR:=Qh (Y3 HP9.out H11.out)
 have Zj1:=Qh (HR9.out.below H11.out)
 have ZcC:=Qh ((H11.out.block _ (lt_of_block HQ9.out)).trans HQ9.out)
 have ZrQ:=Qh (Y3 HX9.out H11.out)
 have ZrR:=ZfR.out
 have F11:=ZjN (s:=aS1) (t:=4) (h:=0) (k:=262) (r:=aR1) (u:=.agg #[.int .i64 aR1.base,.int .i64 aR1.last,.slice RA rn rc]) (w:=w11) (HT.out.below Zj0.out) ⟨RA,rn,rc,rfl,Zj1.out⟩ ZfR.out ⟨ZaH.2.2.1,ZaH.2.2.2.1⟩ ZfN Zcz.2.1 Zrh
 unfold ZaC ZdR at F11
 rw [←HN2.out.2] at F11
 have f0:w11.cell? ⟨q7,0,none⟩=some (.int .i64 aR1.base):=Za ZcC.out 0 _ rfl
 have f1:w11.cell? ⟨q7,1,none⟩=some (.int .i64 aR1.last):=Za ZcC.out 1 _ rfl
 have f2:w11.cell? ⟨q7,2,none⟩=some (.slice RA rn rc):=Za ZcC.out 2 _ rfl
 clear ZrR
 go_upto_region 12 with (go_at_call 14;refine F11.mono ?_;rintro e w12 ⟨rfl,Zt⟩;have H12:=Qh Zt;clear Zt)
 obtain ⟨w13,q11,ex,eq,hbx,hqa,hqb⟩:=nm2 w12 (.cells #[.int .i64 0,.int .i64 0,.slice none 0 0] 38 (0,0)) (.cells #[.int .i64 0,.slice none 0 0] 24 (0,0))
 rw [←ex,←eq]
 have Yi:=Ze H12.out hbx
 have Zj2:=Qh (Ze Zj0.out Yi)
 have ZrS:=Qh (Y3 ZfR.out Yi)
 have ZrT:=Qh (Zj1.out.below Yi)
 have Zj3:=Qh ((Yi.block _ (lt_of_block ZcC.out)).trans ZcC.out)
 have ZfS:=Qh (Y3 ZrQ.out Yi)
 clear ex eq hqa hqb hbx Yi f0 f1 f2 F11
 have F13:=ZjN (s:=aS3) (t:=5) (h:=4) (k:=260) (r:=aR0) (u:=ZaC) (w:=w13) (HT.out.below Zj2.out) (ZjK w13) (by rw [HN3.out.2] at ZfS;exact ZfS.out) ⟨ZaH.2.2.2.2.1,ZaH.2.2.2.2.2⟩ Zcx Zcz.1 Zri
 unfold ZaC ZdR at F13
 rw [←HN3.out.2] at F13
 go_upto_region 13 with (go_at_call 14;refine F13.mono ?_;rintro e w14 ⟨rfl,Zj4⟩;have H14:=Qh Zj4;clear Zj4)
 obtain ⟨w15,q14,ex,eq,hbx,hqa,hqb⟩:=nm2 w14 (.cells #[.int .i64 0,.int .i64 0,.slice none 0 0] 38 (0,0)) (.cells #[.int .i64 0,.slice none 0 0] 24 (0,0))
 rw [←ex,←eq]
 have Qk:=Ze H14.out hbx
 have Zj5:=Qh (Ze Zj2.out Qk)
 have HP15:=Qh (Y3 ZrS.out Qk)
 have ZrU:=Qh (ZrT.out.below Qk)
 have ZfT:=Qh ((Qk.block _ (lt_of_block Zj3.out)).trans Zj3.out)
 have Zj6:=Qh (Y3 ZfS.out Qk)
 clear ex eq hqa hqb hbx Qk F13
 have F15:=ZjM (s:=aS3) (t:=5) (h:=4) (r:=aR1) (u:=.agg #[.int .i64 aR1.base,.int .i64 aR1.last,.slice RA rn rc]) (w:=w15) (HT.out.below Zj5.out) ⟨RA,rn,rc,rfl,ZrU.out⟩ (by rw [HN3.out.2] at Zj6;exact Zj6.out) ⟨ZaH.2.2.2.2.1,ZaH.2.2.2.2.2⟩ Zcx Zcz.2.1 ⟨⟨2,0,4,aE aS1 4 0⟩,ZdY.1,ZdY.2.1.symm,ZdY.2.2.1.symm,Zbh.2.2.1,Zbh.2.2.2.1,fun y hy=>of_decide_eq_true (List.all_eq_true.1 ZdY.2.2.2 y hy)⟩ Zrj
 rw [←HN3.out.2] at F15
 have f0:w15.cell? ⟨q7,0,none⟩=some (.int .i64 aR1.base):=Za ZfT.out 0 _ rfl
 have f1:w15.cell? ⟨q7,1,none⟩=some (.int .i64 aR1.last):=Za ZfT.out 1 _ rfl
 have f2:w15.cell? ⟨q7,2,none⟩=some (.slice RA rn rc):=Za ZfT.out 2 _ rfl
 go_upto_region 14 with (go_at_call 14;refine F15.mono ?_;rintro e w16 ⟨x,VB,vm,vd,rfl,hR,hE,ZaA⟩;have hR1:ZaD w16 aR2 x:=hR;obtain ⟨RB,rm,rd,rfl,hRL⟩:=hR1;have hE1:Zj w16 VB vm vd (aE aS3 5 4):=hE;have H16:=Qh (Qi hRL (Qi hE1 ZaA));clear hR hE hE1 hRL ZaA F15)
 obtain ⟨w17,q17,ex,eq,hbx,hqa,hqb⟩:=nm2 w16 (.cells #[.int .i64 aR2.base,.int .i64 aR2.last,.slice RB rm rd] 38 (0,0)) (.cells #[.int .i64 5,.slice VB vm vd] 24 (0,0))
 rw [←ex,←eq]
 have Zj7:=Qh (Ze Zj5.out (Ze H16.out.2.2 hbx))
 have ZcD:=Qh (Qi hqa hqb)
 have ZrV:=Qh (H16.out.2.1.below hbx)
 have F17:=ZqW aR2 RB rm rd w17 (HT.out.below Zj7.out) (H16.out.1.below hbx) (fun y hy=>of_decide_eq_true (List.all_eq_true.1 Zcz.2.2 y hy))
 clear ex eq hqa hqb hbx f0 f1 f2
 have f0:w17.cell? ⟨q17,0,none⟩=some (.int .i64 aR2.base):=Za ZcD.out.1 0 _ rfl
 have f1:w17.cell? ⟨q17,1,none⟩=some (.int .i64 aR2.last):=Za ZcD.out.1 1 _ rfl
 have f2:w17.cell? ⟨q17,2,none⟩=some (.slice RB rm rd):=Za ZcD.out.1 2 _ rfl
 go_upto_region 15 with (go_at_call 22;refine F17.mono ?_;rintro e w18 ⟨v,rfl,hL⟩;obtain ⟨y,SA,sn,sc,rfl,hyn,Zj8⟩:∃ y SA sn sc,v=.tuple #[Zau y SA sn sc,.bool true]∧y.num=3∧Below w17.heap.size w17 w18:=(by rcases hL with ⟨h,_⟩|⟨_,y,SA,sn,sc,h1,h2,_,h4⟩;rw [ZjO.1] at h;cases h;have h5:=ZjO.2;rw [h1] at h5;injection h5 with h5;exact ⟨y,SA,sn,sc,h2,h5,h4⟩);have H18:=Qh (Qi hyn Zj8);clear hL hyn Zj8 F17;unfold Zau)
 obtain ⟨w19,q19,ex,eq,hbx,hq⟩:=nm1 w18 (.cells #[.int .i64 y.num,.int .i64 y.base,.int .i64 y.tick,.slice SA sn sc] 45 (0,0))
 rw [←ex,←eq]
 clear ex eq f0 f1 f2
 have Za8:=Ze H18.out.2 hbx
 have ZrW:=Qh (Ze Zj7.out Za8)
 have Zj9:=Qh (ZrV.out.below Za8)
 have hvm:vm=1:=Zj9.out.len.trans Zbh.2.2.2.2.2
 subst hvm
 rw [H18.out.1] at hq
 have k9:w19.cell? ⟨q19,0,none⟩=some (.int .i64 3):=Za hq 0 _ rfl
 have Zbb:=(Za8.block _ (lt_of_block ZcD.out.2)).trans ZcD.out.2
 have k0:w19.cell? ⟨q17+1,0,none⟩=some (.int .i64 5):=Za Zbb 0 _ rfl
 have k1:w19.cell? ⟨q17+1,1,none⟩=some (.slice VB 1 vd):=Za Zbb 1 _ rfl
 clear hbx hq Za8 Zbb
 go_wp2_with (first
  | (go_at_call 37;refine (ZjI ZrX (some ⟨w20.heap.size,0,none⟩) 1 ZrY 1 [1] (w20.alloc (.cells #[.int .i64 1] 3 (0,0))) (H20.out.1.below (Zg w20 _)) (ZrM (heap_alloc_new w20 _) (by decide))).mono ?_;rintro e w21 ⟨rfl,hb⟩;have H21:=Qh (Ze H20.out.2 (Ze (Zg w20 _) hb));clear hb)
  | (go_at_call 38;refine (ZjH 5 VB 1 vd (aE aS3 5 4) w19 Zj9.out (by decide)).mono ?_;rintro e w20 ⟨v,rfl,hown,hb⟩;rw [Zrm] at hown;obtain ⟨ZrX,ZrY,rfl,hI⟩:=JP hown rfl (by decide) (by decide);have H20:=Qh (Qi hI hb);clear hown hI hb k0 k1 k9))
 go_ret
 exact ⟨rfl,Ze ZrW.out H21.out⟩
end
end Go.Proofs.YtlgcfimhfmgkmaaGreatDoor
