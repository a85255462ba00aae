/- Lemmas for the statement. -/
import Derived.Test.YtlgcfimhfmgkmaaGreatDoorMBZ
set_option linter.unusedVariables false
set_option linter.unusedSimpArgs false
namespace Go.Proofs.YtlgcfimhfmgkmaaGreatDoor
open Go.RowKit
section
theorem Ts3 {p:Prop} (h:p:=by
 refine ⟨Or.inr HC,?_⟩
 try go_simp
 refine Zi 8 rfl (fun K hK=>?_)
 refine Zbz rfl (.tmp 213) (.tmp 215) 30 rfl w17.heap.size 45 i9 _ 4 48 Tryz.underlying30 HI.out.1 HI.out.2.1 HI.out.2.2.1 HI.out.2.2.2 rfl (by decide) _ (0+1) ([]++x0.cells) rfl H5.out ⟨b7,0,none⟩ 1 1 (⟨⟨3,0,0,[]⟩,[],none,0,0⟩:LR).cells rfl rfl (Ug HN7.out rfl) (ZbG _) (by decide) (by decide) HB.out.size (fun v8 vh3 ZiF hg8 _ hblk=>?_)
 obtain ⟨g8,c8,rfl⟩:=ownsRow_succ ZiF
 have hb8:Below w17.heap.size w17 vh3:=HB.out.grown hg8 HB.out.size (fun k hk=>by injection hk with hk;rw [←hk];exact ZpC H5.out)
 have hqN:=(hb8.block _ (lt_of_block Ub.out.1)).trans Ub.out.1
 have H8:=Qh (Qi ZiF (Qi hb8 hqN))
 clear ZiF hg8 hblk hb8 hqN
 refine hK _ _ ?_;clear hK K
 refine ⟨Or.inl (by kernel_rfl),?_⟩
 try go_simp
 refine tkq 9 rfl ?_
 try go_simp
 refine Zi 10 rfl (fun K hK=>?_)
 have y2:vh3.cell? ⟨q32,2,none⟩=some (.slice (some ⟨b0,o0,none⟩) 1 rc):=Za H8.out.2.2 2 _ rfl
 have y8:=Zd H8.out.2.2 2
 go_simp
 clear y2 y8
 refine hK _ _ ?_;clear hK K
 refine ⟨Or.inl (by kernel_rfl),?_⟩
 try go_simp
 refine ZX (by kernel_rfl) ?_ _
 try clear HC
 go_wp2_with fail
 go_meet
 have Zbb:=lt_of_block Ub.out.1
 have hg8:=ZpC H8.out.1
 exact .inr ⟨by decide,⟨wR.base,wR.last,wR.log++[⟨3,0,0,[]⟩]⟩,wR.base,wR.last,some ⟨g8,0,none⟩,2,c8,block_setCell H8.out.2.2 2 _,Um HO.out.1 (XW H8.out.1 (fun b hb=>Below.heap_setCell _ _ _ _ (by have hb2:some g8=some b:=hb;injection hb2 with hb2;show b≠q32;omega))) (HO.out.2.2.1.below ((Ze HBX.out H8.out.2.1).setCell (p:=⟨q32,2,none⟩) Ub.out.2 _)),Y3 HP8.out ((Ze Up.out H8.out.2.1).setCell (p:=⟨q32,2,none⟩) Uc.out _),(Ze Zj7.out H8.out.2.1).setCell (p:=⟨q32,2,none⟩) Ue.out _⟩):p:=h
set_option maxRecDepth 100000 in
set_option maxHeartbeats 16000000 in
theorem Ul (a:Nat) (n:Int) (w w8 w16 w17:World) (q1 q32 g1 c1 n1 B1:Nat) (LA5 IA5 RA:Option Addr) (ln5 lc5 iN5 ic5 rn rc:Nat) (K1:Act→World→Prop) (Qw:Exit→Act→World→Prop) (hQw:Qw=(bodyPost Tryz.prog Tryz.f5 (fun e w'=>e=.returned (.bool true)∧Below w.heap.size w w'))) {z04 z06 z07 z08 z09 z0a z0c z0d z0e z0f z0g z0h z0j z0k z0l z0m z0o z0p z0q z0r z0s z0t z0u z0v z0x z0z z10 z11 z12 z13 z14 z15 z16 z17 z18 z19 z1a z1b z1c z1d z1e z1f z1g z1h z1i z1j z1k z1l z1m z1n z1o z1p z1q z1r z1s z1t z1u z1v z1w z1x z1y z1z z20 z21 z22 z23 z24 z25 z26 z27 z28 z29 z2a z2b z2c z2d z2e z2f z2g z2h z2i z2j z2k z2l z2m z2n z2o z2p z2q z2r z2s z2t z2u z2v z2w z2x z2y z2z z30 z31 z32 z33 z34 z35 z36 z37 z38 z39 z3a z3b z3c z3d z3e z3f z3g z3h z3i z3j z3k z3l z3m z3n z3o z3p z3q z3r z3s z3t z3u z3v z3w z3x z3y z3z z40 z41 z42 z43 z44 z45 z46 z47 z48 z49 z4a z4b z4c z4d z4h z4i z4j z4k z4m z4n z4p z4q z4r z4s z4u z4v z4x z4y z4z z50 z51 z52 z53 z54 z55 z56 z58 z59 z5a z5b z5d z5e z5g z5h z5j z5k z5m z5n z5o z5p z5r z5s z5t z5u z5v z5w z5x z5y z5z z60 z61 z63 z64 z65 z66 z67 z68 z69 z6a z6b z6c z6d z6e z6f z6g z6h z6i z6j z6k z6l z6m z6n z6o z6p z6q z6r z6s z6t z6u z6v z6w z6x z6y z6z z70 z71 z72 z73 z74 z75 z76 z77 z78 z79 z7a z7b z7c z7d z7e z7f z7g z7h z7i z7j z7k z7l z7m z7n:Value}
  (hT:Tabs w) (hA0:a<256) (hQL:w.heap.size≤q1) (UK:Below w.heap.size w w17) (UP:w17.heap[q1]?=some (.cells #[.int .i64 wS2.cl,.int .i64 wS2.next,.int .i64 wS2.acked,.slice LA5 ln5 lc5,.slice IA5 iN5 ic5] 33 (0,0))) (UJ:Xy w.heap.size w17 wS2 (.agg #[.int .i64 wS2.cl,.int .i64 wS2.next,.int .i64 wS2.acked,.slice LA5 ln5 lc5,.slice IA5 iN5 ic5])) (UL:w17.heap[q32]?=some (.cells #[.int .i64 wR.base,.int .i64 wR.last,.slice RA rn rc] 38 (0,0))∧w16.heap.size≤q32)
  (hBX:Below w16.heap.size w16 w17) (UO:Zy w16 RA rn rc wR.log) (hP8:w8.ownsRow B1 5 1 (.slice (some ⟨g1,0,none⟩) n1 c1) (aN aS0 1 0) (X7 (aX aS0 1 0) (aK aS0 0))) (UI:Below w8.heap.size w8 w17) (UC:w8.heap.size≤q32) (Uy:w.heap.size≤q32)
  (hK1:∀ a w',Code.wp Tryz.prog (cP [true,true,true,true,true,true,true,true,true,true,true,true,true,true] wB) Qw a w'→K1 a w') :
  Code.wp Tryz.prog (cP [true,true,true,true,true,true,true,true,true,true,true,true,true,false,true] wB) (Exit.then K1 Qw) ⟨#[.int .u8 (a:Nat),.int .i64 n,undef,undef,z04,.pointer (some ⟨q1,0,none⟩),z06,z07,z08,z09,z0a,.slice (some ⟨g1,0,none⟩) n1 c1,z0c,z0d,z0e,z0f,z0g,z0h,undef,z0j,z0k,z0l,z0m,undef,z0o,z0p,z0q,z0r,z0s,z0t,z0u,z0v,.pointer (some ⟨q32,0,none⟩),z0x,undef,z0z,z10,z11,z12,z13,z14,z15,z16,z17,z18,z19,z1a,z1b,z1c,z1d,z1e,z1f,z1g,z1h,z1i,z1j,z1k,z1l,z1m,z1n,z1o,z1p,z1q,z1r,z1s,z1t,z1u,z1v,z1w,z1x,z1y,z1z,z20,z21,z22,z23,z24,z25,z26,z27,z28,z29,z2a,z2b,z2c,z2d,z2e,z2f,z2g,z2h,z2i,z2j,z2k,z2l,z2m,z2n,z2o,z2p,z2q,z2r,z2s,z2t,z2u,z2v,z2w,z2x,z2y,z2z,z30,z31,z32,z33,z34,z35,z36,z37,z38,z39,z3a,z3b,z3c,z3d,z3e,z3f,z3g,z3h,z3i,z3j,z3k,z3l,z3m,z3n,z3o,z3p,z3q,z3r,z3s,z3t,z3u,z3v,z3w,z3x,z3y,z3z,z40,z41,z42,z43,z44,z45,z46,z47,z48,z49,z4a,z4b,z4c,z4d,.int .u8 (a:Nat),.int .u8 ((a:Int) % 12),undef,z4h,z4i,z4j,z4k,undef,z4m,z4n,undef,z4p,z4q,z4r,z4s,undef,z4u,z4v,undef,z4x,z4y,z4z,z50,z51,z52,z53,z54,z55,z56,undef,z58,z59,z5a,z5b,undef,z5d,z5e,undef,z5g,z5h,undef,z5j,z5k,undef,z5m,z5n,z5o,z5p,undef,z5r,z5s,z5t,z5u,z5v,z5w,z5x,z5y,z5z,z60,z61,undef,z63,z64,z65,z66,z67,z68,z69,z6a,z6b,z6c,z6d,z6e,z6f,z6g,z6h,z6i,z6j,z6k,z6l,z6m,z6n,z6o,z6p,z6q,z6r,z6s,z6t,z6u,z6v,z6w,z6x,z6y,z6z,z70,z71,z72,z73,z74,z75,z76,z77,z78,z79,z7a,z7b,z7c,z7d,z7e,z7f,z7g,z7h,z7i,z7j,z7k,z7l,z7m,z7n],[]⟩ w17:=by
 have hmx:Tryz.prog.follows .mixedOrders=true:=by kernel_rfl
 have a0:(0:Int)≤(a:Int):=by omega
 have a1:(a:Int)<256:=by omega
 have HT:=Qh hT
 have HA0:=Qh hA0
 have HQL:=Qh hQL
 have Zj7:=Qh UK
 have ZcD:=Qh UP
 have Uq:=Qh UJ
 have Ub:=Qh UL
 have HBX:=Qh hBX
 have Ut:=Qh UO
 have HP8:=Qh hP8
 have Up:=Qh UI
 have Uc:=Qh UC
 have Ue:=Qh Uy
 clear hT hA0 hQL UK UP UJ UL hBX UO hP8 UI UC Uy
 unfold wB
 dsimp only [cP,Option.getD,Tryz.f5]
 subst hQw
 go_upto_block 4 with fail
 clear a0 a1
 obtain ⟨m,em⟩:∃ m:Nat,m=a % 12:=⟨_,rfl⟩
 have em2:(a:Int) % 12=(m:Int):=by omega
 rw [em2]
 have HM:=Qh (show m<12∧m=a % 12 from ⟨by omega,em⟩)
 clear em em2
 go_cut [] (fun wx=>(m<6∧∃ (s:Snd) (xa xb xc:Int) (LA:Option Addr) (ln lc:Nat) (IA:Option Addr) (iN ic:Nat),wx.heap[q1]?=some (Y4 xa xb xc (.slice LA ln lc) (.slice IA iN ic))∧BadS wx s (.agg #[.int .i64 xa,.int .i64 xb,.int .i64 xc,.slice LA ln lc,.slice IA iN ic])∧Below w.heap.size w wx)∨(6≤m∧∃ (r:Rcv) (xa xb:Int) (A:Option Addr) (k c:Nat),wx.heap[q32]?=some (.cells #[.int .i64 xa,.int .i64 xb,.slice A k c] 38 (0,0))∧BadR wx r (.agg #[.int .i64 xa,.int .i64 xb,.slice A k c])∧wx.ownsRow B1 5 1 (.slice (some ⟨g1,0,none⟩) n1 c1) (aN aS0 1 0) (X7 (aX aS0 1 0) (aK aS0 0))∧Below w.heap.size w wx))
 case first=>
  have UR:m=0∨m=1∨m=2∨m=3∨m=4∨m=5∨m=6∨m=7∨m=8∨m=9∨m=10∨m=11:=by have:=HM.out.1;omega
  clear HM
  rcases UR with rfl|rfl|rfl|rfl|rfl|rfl|rfl|rfl|rfl|rfl|rfl|rfl
  ·as_aux_lemma=>
    obtain ⟨k9,ek⟩:∃ k,k=max n 9:=⟨_,rfl⟩
    have hk9:=Qh (show 9≤k9 from by omega)
    have m1:max n 9=k9:=ek.symm
    have m2:(if n<9 then (9:Int) else n)=k9:=by split<;>omega
    clear ek
    have e0:w17.cell? ⟨q1,0,none⟩=some (.int .i64 wS2.cl):=Za ZcD.out 0 _ rfl
    have y0:=Zd ZcD.out 0
    go_wp2_with fail
    go_meet
    exact .inl ⟨by decide,⟨k9,wS2.next,wS2.acked,wS2.log,wS2.items⟩,k9,wS2.next,wS2.acked,LA5,ln5,lc5,IA5,iN5,ic5,block_setCell ZcD.out 0 _,Ud ZcD.out Uq.out (k9) (wS2.next) (wS2.acked) (fun b _ hb=>Below.heap_setCell _ _ _ _ hb) (by rw [ww_num.2.1.2.2];decide) (bad0 hk9.out _ _ _ _),Zj7.out.setCell (p:=⟨q1,0,none⟩) HQL.out _⟩
  ·as_aux_lemma=>
    have e1:w17.cell? ⟨q1,1,none⟩=some (.int .i64 wS2.next):=Za ZcD.out 1 _ rfl
    have y1:=Zd ZcD.out 1
    go_wp2_with fail
    go_meet
    exact .inl ⟨by decide,⟨wS2.cl,2,wS2.acked,wS2.log,wS2.items⟩,wS2.cl,2,wS2.acked,LA5,ln5,lc5,IA5,iN5,ic5,block_setCell ZcD.out 1 _,Ud ZcD.out Uq.out (wS2.cl) (2) (wS2.acked) (fun b _ hb=>Below.heap_setCell _ _ _ _ hb) (by rw [ww_num.2.1.2.2];decide) bad1,Zj7.out.setCell (p:=⟨q1,1,none⟩) HQL.out _⟩
  ·as_aux_lemma=>
    obtain ⟨k0,ek⟩:∃ k,k=min n 0:=⟨_,rfl⟩
    have hk0:=Qh (show k0≤0 from by omega)
    have m1:min n (0)=k0:=ek.symm
    have m2:(if 0<n then (0:Int) else n)=k0:=by split<;>omega
    clear ek
    have e1:w17.cell? ⟨q1,1,none⟩=some (.int .i64 wS2.next):=Za ZcD.out 1 _ rfl
    have y1:=Zd ZcD.out 1
    go_wp2_with fail
    go_meet
    exact .inl ⟨by decide,⟨wS2.cl,k0,wS2.acked,wS2.log,wS2.items⟩,wS2.cl,k0,wS2.acked,LA5,ln5,lc5,IA5,iN5,ic5,block_setCell ZcD.out 1 _,Ud ZcD.out Uq.out (wS2.cl) (k0) (wS2.acked) (fun b _ hb=>Below.heap_setCell _ _ _ _ hb) (by rw [ww_num.2.1.2.2];decide) (bad2 hk0.out _ _ _ _),Zj7.out.setCell (p:=⟨q1,1,none⟩) HQL.out _⟩
  ·as_aux_lemma=>
    have e2:w17.cell? ⟨q1,2,none⟩=some (.int .i64 wS2.acked):=Za ZcD.out 2 _ rfl
    have y2:=Zd ZcD.out 2
    go_wp2_with fail
    go_meet
    exact .inl ⟨by decide,⟨wS2.cl,wS2.next,2,wS2.log,wS2.items⟩,wS2.cl,wS2.next,2,LA5,ln5,lc5,IA5,iN5,ic5,block_setCell ZcD.out 2 _,Ud ZcD.out Uq.out (wS2.cl) (wS2.next) (2) (fun b _ hb=>Below.heap_setCell _ _ _ _ hb) (by decide) bad3,Zj7.out.setCell (p:=⟨q1,2,none⟩) HQL.out _⟩
  ·as_aux_lemma=>
    obtain ⟨g,x0,x1,rfl,rfl,Zft,hown,hcell,hin,hcl⟩:=Uq.out.open2
    have e3:w17.cell? ⟨q1,3,none⟩=some (.slice (some ⟨g,0,none⟩) 2 lc5):=Za ZcD.out 3 _ rfl
    have c0:w17.cell? ⟨g,0,none⟩=some (.int .i64 x0.r.num):=hcell 0 _ rfl
    have c1:w17.cell? ⟨g,1,none⟩=some (.int .i64 x0.r.base):=hcell 1 _ rfl
    have c2:w17.cell? ⟨g,2,none⟩=some (.int .i64 x0.r.tick):=hcell 2 _ rfl
    have c3:w17.cell? ⟨g,3,none⟩=some (.slice x0.A x0.n x0.c):=hcell 3 _ rfl
    have HGQ:=Qh (Ur ZcD.out hown)
    have HO:=Qh (Qi Zft (Qi hown (Qi hin hcl)))
    clear Zft hown hin hcl hcell
    obtain ⟨i9,hi9,hz0,hz1,hz2⟩:=info_parts Zdx
    have HI:=Qh (Qi hi9 (Qi hz0 (Qi hz1 hz2)))
    clear hi9 hz0 hz1 hz2
    go_upto_region 38 with fail
    obtain ⟨wdf,ed⟩:∃ W,W=w17.drew:=⟨_,rfl⟩
    have hbd:Below w17.heap.size w17 wdf:=by rw [ed];exact (Below.refl _ _).drew
    have HC:wdf.cell? ⟨q1,3,none⟩=some (.slice (some ⟨g,0,none⟩) 2 lc5)∧wdf.cell? ⟨g,0,none⟩=some (.int .i64 x0.r.num)∧wdf.cell? ⟨g,1,none⟩=some (.int .i64 x0.r.base)∧wdf.cell? ⟨g,2,none⟩=some (.int .i64 x0.r.tick)∧wdf.cell? ⟨g,3,none⟩=some (.slice x0.A x0.n x0.c):=⟨(hbd.cell (Zc e3)).trans e3,(hbd.cell (Zc c0)).trans c0,(hbd.cell (Zc c1)).trans c1,(hbd.cell (Zc c2)).trans c2,(hbd.cell (Zc c3)).trans c3⟩
    have HB:=Qh hbd
    have HD:=Qh ed
    clear hbd ed
    refine Yy (fun W=>W.cell? ⟨q1,3,none⟩=some (.slice (some ⟨g,0,none⟩) 2 lc5)∧W.cell? ⟨g,0,none⟩=some (.int .i64 x0.r.num)∧W.cell? ⟨g,1,none⟩=some (.int .i64 x0.r.base)∧W.cell? ⟨g,2,none⟩=some (.int .i64 x0.r.tick)∧W.cell? ⟨g,3,none⟩=some (.slice x0.A x0.n x0.c)) 7 hmx ?_
    change Zz _ _ _ _ _ _ _ _ _ (World.drew _)
    rw [←HD.out]
    try go_simp
    refine tkp 0 rfl (Or.inr HC) ?_
    try go_simp
    refine tkp 2 rfl (Or.inr HC) ?_
    try go_simp
    refine tkl 1 rfl HC (by intro W ⟨hC0,hC1,hC2,hC3,hC4⟩;go_simp;try with_reducible rfl) ?_
    try go_simp
    refine tkl 3 rfl HC (by intro W ⟨hC0,hC1,hC2,hC3,hC4⟩;go_simp;try with_reducible rfl) ?_
    try go_simp
    refine tkp 4 rfl (Or.inr HC) ?_
    try go_simp
    refine tkl 5 rfl HC (by intro W ⟨hC0,hC1,hC2,hC3,hC4⟩;go_simp;try with_reducible rfl) ?_
    try go_simp
    refine Zi 6 rfl (fun K hK=>?_)
    go_simp
    obtain ⟨vf1,b6,e9,el,hbN,hlN⟩:=nm1 wdf (.cells #[.int .i64 x0.r.num,.int .i64 x0.r.base,.int .i64 x0.r.tick,.slice x0.A x0.n x0.c] 45 (0,0))
    have HC:=cr5 hbN HC
    have HB:=Qh (Ze HB.out hbN)
    have HN6:=Qh hlN
    clear hbN hlN
    refine hK _ _ ?_;clear hK K
    rw [←e9,←el]
    clear e9 el
    refine ⟨Or.inr HC,?_⟩
    try go_simp
    refine Zi 7 rfl (fun K hK=>?_)
    refine Zbz rfl (.tmp 179) (.tmp 184) 30 rfl w.heap.size 45 i9 _ 4 48 Tryz.underlying30 HI.out.1 HI.out.2.1 HI.out.2.2.1 HI.out.2.2.2 rfl (by decide) _ 2 (lrs [x0,x1]) rfl (Y3 HO.out.2.1 HB.out) ⟨b6,0,none⟩ 1 1 x0.cells rfl rfl (Ug HN6.out rfl) (ZbG x0) (by decide) (by decide) (Ze Zj7.out HB.out).size (fun v5 vf2 hown5 hg5 _ hblk=>?_)
    obtain ⟨g5,c5,rfl⟩:=ownsRow_succ hown5
    have hqP:=(HB.out.block _ (lt_of_block ZcD.out)).trans ZcD.out
    have hqN:vf2.heap[q1]?=_:=(hg5.block q1 (lt_of_block hqP) (by intro e;injection e with e;exact HGQ.out e)).trans hqP
    have hbw:Below w.heap.size w vf2:=(Ze Zj7.out HB.out).grown hg5 (Ze Zj7.out HB.out).size (fun k hk=>by injection hk with hk;rw [←hk];exact ZpC HO.out.2.1)
    have hcl:=HO.out.2.2.2 vf2 (Nat.le_trans HB.out.size hg5.size) (fun b hb hbg=>(hg5.block b (Nat.lt_of_lt_of_le hb HB.out.size) (by intro e;injection e with e;exact hbg e)).trans (HB.out.block b hb))
    have H5:=Qh (Qi hown5 (Qi hqN (Qi hbw hcl)))
    clear hown5 hg5 hblk hqP hqN hbw hcl
    refine hK _ _ ?_;clear hK K
    refine ⟨Or.inl (by kernel_rfl),?_⟩
    try go_simp
    refine tkq 8 rfl ?_
    try go_simp
    refine Zi 9 rfl (fun K hK=>?_)
    have y3:vf2.cell? ⟨q1,3,none⟩=some (.slice (some ⟨g,0,none⟩) 2 lc5):=Za H5.out.2.1 3 _ rfl
    have y8:=Zd H5.out.2.1 3
    go_simp
    clear y3 y8
    refine hK _ _ ?_;clear hK K
    refine ⟨Or.inl (by kernel_rfl),?_⟩
    try go_simp
    refine ZX (by kernel_rfl) ?_ _
    try clear HC
    go_wp2_with fail
    go_meet
    exact .inl ⟨by decide,⟨wS2.cl,wS2.next,wS2.acked,wS2.log++wS2.log.take 1,wS2.items⟩,wS2.cl,wS2.next,wS2.acked,some ⟨g5,0,none⟩,3,c5,IA5,iN5,ic5,block_setCell H5.out.2.1 3 _,Us (B:=0) (W:=w17) H5.out.2.1 HO.out.1 H5.out.1 HO.out.2.2.1 H5.out.2.2.2 (fun b _ hb=>Below.heap_setCell _ _ _ _ hb),H5.out.2.2.1.setCell (p:=⟨q1,3,none⟩) HQL.out _⟩
  ·as_aux_lemma=>
    obtain ⟨k0,ek⟩:∃ k,k=min n (-1):=⟨_,rfl⟩
    have hk0:=Qh (show k0≤-1 from by omega)
    have m1:min n (-1)=k0:=ek.symm
    have m2:(if -1<n then (-1:Int) else n)=k0:=by split<;>omega
    clear ek
    have e2:w17.cell? ⟨q1,2,none⟩=some (.int .i64 wS2.acked):=Za ZcD.out 2 _ rfl
    have y2:=Zd ZcD.out 2
    go_wp2_with fail
    go_meet
    exact .inl ⟨by decide,⟨wS2.cl,wS2.next,k0,wS2.log,wS2.items⟩,wS2.cl,wS2.next,k0,LA5,ln5,lc5,IA5,iN5,ic5,block_setCell ZcD.out 2 _,Ud ZcD.out Uq.out (wS2.cl) (wS2.next) (k0) (fun b _ hb=>Below.heap_setCell _ _ _ _ hb) (by have:=hk0.out;omega) (bad5 hk0.out _ _ _ _),Zj7.out.setCell (p:=⟨q1,2,none⟩) HQL.out _⟩
  ·as_aux_lemma=>
    have e1:w17.cell? ⟨q32,1,none⟩=some (.int .i64 wR.last):=Za Ub.out.1 1 _ rfl
    have y1:=Zd Ub.out.1 1
    go_wp2_with fail
    go_meet
    exact .inr ⟨by decide,⟨wR.base,2,wR.log⟩,wR.base,2,RA,rn,rc,block_setCell Ub.out.1 1 _,Uf Ut.out (HBX.out.setCell (p:=⟨q32,1,none⟩) Ub.out.2 _) (wR.base) (2) bad6,Y3 HP8.out (Up.out.setCell (p:=⟨q32,1,none⟩) Uc.out _),Zj7.out.setCell (p:=⟨q32,1,none⟩) Ue.out _⟩
  ·as_aux_lemma=>
    have e0:w17.cell? ⟨q32,0,none⟩=some (.int .i64 wR.base):=Za Ub.out.1 0 _ rfl
    have y0:=Zd Ub.out.1 0
    go_wp2_with fail
    go_meet
    exact .inr ⟨by decide,⟨1,wR.last,wR.log⟩,1,wR.last,RA,rn,rc,block_setCell Ub.out.1 0 _,Uf Ut.out (HBX.out.setCell (p:=⟨q32,0,none⟩) Ub.out.2 _) (1) (wR.last) bad7,Y3 HP8.out (Up.out.setCell (p:=⟨q32,0,none⟩) Uc.out _),Zj7.out.setCell (p:=⟨q32,0,none⟩) Ue.out _⟩
  ·as_aux_lemma=>
    have e2:w17.cell? ⟨q32,2,none⟩=some (.slice RA rn rc):=Za Ub.out.1 2 _ rfl
    have y2:=Zd Ub.out.1 2
    go_wp2_with fail
    go_meet
    exact .inr ⟨by decide,⟨wR.base,wR.last,[]⟩,wR.base,wR.last,none,0,0,block_setCell Ub.out.1 2 _,Uu _ (wR.base) (wR.last) bad8,Y3 HP8.out (Up.out.setCell (p:=⟨q32,2,none⟩) Uc.out _),Zj7.out.setCell (p:=⟨q32,2,none⟩) Ue.out _⟩
  ·as_aux_lemma=>
    obtain ⟨k0,ek⟩:∃ k,k=min n (-1):=⟨_,rfl⟩
    have hk0:=Qh (show k0≤-1 from by omega)
    have m1:min n (-1)=k0:=ek.symm
    have m2:(if -1<n then (-1:Int) else n)=k0:=by split<;>omega
    clear ek
    have e0:w17.cell? ⟨q32,0,none⟩=some (.int .i64 wR.base):=Za Ub.out.1 0 _ rfl
    have y0:=Zd Ub.out.1 0
    go_wp2_with fail
    go_meet
    exact .inr ⟨by decide,⟨k0,wR.last,wR.log⟩,k0,wR.last,RA,rn,rc,block_setCell Ub.out.1 0 _,Uf Ut.out (HBX.out.setCell (p:=⟨q32,0,none⟩) Ub.out.2 _) (k0) (wR.last) (bad9 hk0.out _ _),Y3 HP8.out (Up.out.setCell (p:=⟨q32,0,none⟩) Uc.out _),Zj7.out.setCell (p:=⟨q32,0,none⟩) Ue.out _⟩
  ·as_aux_lemma=>
    obtain ⟨b0,o0,x0,rfl,rfl,Zft,hcell,hE,hrc⟩:=Ut.out.open1
    have e2:w17.cell? ⟨q32,2,none⟩=some (.slice (some ⟨b0,o0,none⟩) 1 rc):=Za Ub.out.1 2 _ rfl
    have HO:=Qh (Qi Zft (Qi hcell (Qi hE hrc)))
    have h1:(0:Int)≤(rc:Int):=by omega
    clear Zft hcell hE hrc
    obtain ⟨i9,hi9,hz0,hz1,hz2⟩:=info_parts Zdx
    have HI:=Qh (Qi hi9 (Qi hz0 (Qi hz1 hz2)))
    clear hi9 hz0 hz1 hz2
    go_upto_region 50 with fail
    obtain ⟨wdh,ed⟩:∃ W,W=w17.drew:=⟨_,rfl⟩
    have hbd:Below w17.heap.size w17 wdh:=by rw [ed];exact (Below.refl _ _).drew
    have HC:wdh.cell? ⟨q32,2,none⟩=some (.slice (some ⟨b0,o0,none⟩) 1 rc):=(hbd.cell (Zc e2)).trans e2
    have HB:=Qh hbd
    have HD:=Qh ed
    clear hbd ed
    refine Yy (fun W=>W.cell? ⟨q32,2,none⟩=some (.slice (some ⟨b0,o0,none⟩) 1 rc)) 8 hmx ?_
    change Zz _ _ _ _ _ _ _ _ _ (World.drew _)
    rw [←HD.out]
    try go_simp
    refine tkp 0 rfl (Or.inr HC) ?_
    try go_simp
    refine tkp 3 rfl (Or.inr HC) ?_
    try go_simp
    refine tkp 6 rfl (Or.inr HC) ?_
    try go_simp
    refine Zb6 (i:=1) (v:=?_) 60 rfl (by kernel_rfl) (by kernel_rfl) (by kernel_rfl) (by kernel_rfl) (by kernel_rfl) (by decide) (fun _ _ _ h=>h) (Or.inl ⟨by kernel_rfl,?_⟩) HC ?_;rotate_left;focus (intro W hC0;go_simp;try with_reducible rfl)
    try go_simp
    refine tkp 2 rfl (Or.inr HC) ?_
    try go_simp
    refine Zb6 (i:=4) (v:=?_) 60 rfl (by kernel_rfl) (by kernel_rfl) (by kernel_rfl) (by kernel_rfl) (by kernel_rfl) (by decide) (fun _ _ _ h=>h) (Or.inl ⟨by kernel_rfl,?_⟩) HC ?_;rotate_left;focus (intro W hC0;go_simp;try with_reducible rfl)
    refine Jf (j:=5) (k:=7) (by kernel_rfl) ?_ ?_
    ·refine wpOp_step rfl (fun K hK=>?_)
     refine Ua rfl (.tmp 210) (.tmp 212) 30 rfl 45 i9 _ 4 48 Tryz.underlying30 HI.out.1 HI.out.2.1 HI.out.2.2.1 HI.out.2.2.2 rfl (by decide) ⟨b0,o0,none⟩ 0 rfl ⟨b0,o0,none⟩ 1 rc x0.cells rfl rfl (fun j u hu=>by have h:=HO.out.2.1 j u hu;exact ((Ze HBX.out HB.out).cell (World.block_lt_of_cell? _ _ h)).trans h) (by decide) (by decide) (by decide) (fun v5 vh1 hown5 hg5=>?_)
     obtain ⟨g5,c5,rfl⟩:=ownsRow_succ hown5
     have hbN:Below wdh.heap.size wdh vh1:=(Below.refl _ _).grown hg5 (Nat.le_refl _) (fun k hk=>by cases hk)
     have HC:vh1.cell? ⟨q32,2,none⟩=some (.slice (some ⟨b0,o0,none⟩) 1 rc):=(hbN.cell (Zc HC)).trans HC
     have H5:=Qh (ZpK hown5 HB.out.size)
     have HB:=Qh (Ze HB.out hbN)
     clear hown5 hg5 hbN
     refine hK _ _ ?_;clear hK K
     refine ⟨Or.inr HC,?_⟩
     try go_simp
     refine Zi 7 rfl (fun K hK=>?_)
     go_simp
     obtain ⟨vh2,b7,e9,el,hbN,hlN⟩:=nm1 vh1 (.cells #[.int .i64 3,.int .i64 0,.int .i64 0,.slice none 0 0] 45 (0,0))
     have HC:vh2.cell? ⟨q32,2,none⟩=some (.slice (some ⟨b0,o0,none⟩) 1 rc):=(hbN.cell (Zc HC)).trans HC
     have HB:=Qh (Ze HB.out hbN)
     have HN7:=Qh hlN
     have H5:=Qh (Y3 H5.out hbN)
     clear hbN hlN
     refine hK _ _ ?_;clear hK K
     rw [←e9,←el]
     clear e9 el
     exact Ts3
    ·refine wpOp_step rfl (fun K hK=>?_)
     go_simp
     obtain ⟨vh1,b7,e9,el,hbN,hlN⟩:=nm1 wdh (.cells #[.int .i64 3,.int .i64 0,.int .i64 0,.slice none 0 0] 45 (0,0))
     have HC:vh1.cell? ⟨q32,2,none⟩=some (.slice (some ⟨b0,o0,none⟩) 1 rc):=(hbN.cell (Zc HC)).trans HC
     have HB:=Qh (Ze HB.out hbN)
     have HN7:=Qh hlN
     clear hbN hlN
     refine hK _ _ ?_;clear hK K
     rw [←e9,←el]
     clear e9 el
     refine ⟨Or.inr HC,?_⟩
     try go_simp
     refine Zi 5 rfl (fun K hK=>?_)
     refine Ua rfl (.tmp 210) (.tmp 212) 30 rfl 45 i9 _ 4 48 Tryz.underlying30 HI.out.1 HI.out.2.1 HI.out.2.2.1 HI.out.2.2.2 rfl (by decide) ⟨b0,o0,none⟩ 0 rfl ⟨b0,o0,none⟩ 1 rc x0.cells rfl rfl (fun j u hu=>by have h:=HO.out.2.1 j u hu;exact ((Ze HBX.out HB.out).cell (World.block_lt_of_cell? _ _ h)).trans h) (by decide) (by decide) (by decide) (fun v5 vh2 hown5 hg5=>?_)
     obtain ⟨g5,c5,rfl⟩:=ownsRow_succ hown5
     have hbN:Below vh1.heap.size vh1 vh2:=(Below.refl _ _).grown hg5 (Nat.le_refl _) (fun k hk=>by cases hk)
     have HC:vh2.cell? ⟨q32,2,none⟩=some (.slice (some ⟨b0,o0,none⟩) 1 rc):=(hbN.cell (Zc HC)).trans HC
     have H5:=Qh (ZpK hown5 HB.out.size)
     have HB:=Qh (Ze HB.out hbN)
     have HN7:=Qh ((hbN.block _ (lt_of_block HN7.out)).trans HN7.out)
     clear hown5 hg5 hbN
     refine hK _ _ ?_;clear hK K
     exact Ts3
  ·as_aux_lemma=>
    have e1:w17.cell? ⟨q32,1,none⟩=some (.int .i64 wR.last):=Za Ub.out.1 1 _ rfl
    have y1:=Zd Ub.out.1 1
    go_wp2_with fail
    go_meet
    exact .inr ⟨by decide,⟨wR.base,0,wR.log⟩,wR.base,0,RA,rn,rc,block_setCell Ub.out.1 1 _,Uf Ut.out (HBX.out.setCell (p:=⟨q32,1,none⟩) Ub.out.2 _) (wR.base) (0) bad11,Y3 HP8.out (Up.out.setCell (p:=⟨q32,1,none⟩) Uc.out _),Zj7.out.setCell (p:=⟨q32,1,none⟩) Ue.out _⟩
 case rest=>
 refine hK1 _ _ ?_
 exact Un a n w wc q1 q32 g1 c1 n1 B1 m _ rfl HT.out HA0.out HM.out hcut
end
end Go.Proofs.YtlgcfimhfmgkmaaGreatDoor
