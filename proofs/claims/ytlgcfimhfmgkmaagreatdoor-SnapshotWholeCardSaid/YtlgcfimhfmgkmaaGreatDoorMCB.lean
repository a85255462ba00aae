/- Lemmas for the statement. -/
import Derived.Test.YtlgcfimhfmgkmaaGreatDoorMCA
import Derived.Test.YtlgcfimhfmgkmaaGreatDoorMBW
import Derived.Test.YtlgcfimhfmgkmaaGreatDoorMBT
set_option linter.unusedVariables false
set_option linter.unusedSimpArgs false
namespace Go.Proofs.YtlgcfimhfmgkmaaGreatDoor
open Go.RowKit
section
theorem idx_w (tt:Nat→Int) (AA:Nat→Option Addr) (nn cc:Nat→Nat) (j:Nat) (hj:j<3) (W:World):(Instr.index 25 (.agg #[.int .i64 (tt 0),.slice (AA 0) (nn 0) (cc 0),.int .i64 (tt 1),.slice (AA 1) (nn 1) (cc 1),.int .i64 (tt 2),.slice (AA 2) (nn 2) (cc 2)]) (.int .i64 (j:Nat))).run Tryz.prog W=.ok (.agg #[.int .i64 (tt j),.slice (AA j) (nn j) (cc j)]) W:=by
 rcases j with _ | _ | _ | j
 ·have h:∀ a b c d e f:Value,(Instr.index 25 (.agg #[a,b,c,d,e,f]) (.int .i64 0)).run Tryz.prog W=.ok (.agg #[a,b]) W:=fun a b c d e f=>by kernel_rfl
  exact h _ _ _ _ _ _
 ·have h:∀ a b c d e f:Value,(Instr.index 25 (.agg #[a,b,c,d,e,f]) (.int .i64 1)).run Tryz.prog W=.ok (.agg #[c,d]) W:=fun a b c d e f=>by kernel_rfl
  exact h _ _ _ _ _ _
 ·have h:∀ a b c d e f:Value,(Instr.index 25 (.agg #[a,b,c,d,e,f]) (.int .i64 2)).run Tryz.prog W=.ok (.agg #[e,f]) W:=fun a b c d e f=>by kernel_rfl
  exact h _ _ _ _ _ _
 ·omega
set_option maxRecDepth 100000 in
set_option maxHeartbeats 8000000 in
theorem swhole_ok (tt:Nat→Int) (AA:Nat→Option Addr) (nn cc:Nat→Nat) (kk:Nat→Nat→Nat) (client size:Nat) (w:World) (hT:Tabs w) (hH:∀ j,j<3→EHead w (AA j) (nn j) (kk j))
  (hE:∀ j,j<3→fewB (nn j) (kk j)=true→∃ es,Zj w (AA j) (nn j) (cc j) es) (hc:client<256) (hs:size<65536) :
  Calls Tryz.prog 3 #[.agg #[.int .i64 (tt 0),.slice (AA 0) (nn 0) (cc 0),.int .i64 (tt 1),.slice (AA 1) (nn 1) (cc 1),.int .i64 (tt 2),.slice (AA 2) (nn 2) (cc 2)],.int .u8 (client:Nat),.int .u16 (size:Nat)] w fun e w'=>e=.returned (.bool true)∧Below w.heap.size w w':=by
 have hmx:Tryz.prog.follows .mixedOrders=true:=by kernel_rfl
 have HT:=Qh hT
 have HI:=Qh (Qi hH hE)
 have HCS:=Qh (Qi hc hs)
 obtain ⟨good,egood⟩:∃ good:Nat→Prop,good=fun i=>∃ es,Zj w (AA i) (nn i) (cc i) es∧nn i≤12∧Zl (tt i) es=true:=⟨_,rfl⟩
 have HG:=Qh egood
 clear hT hH hE hc hs egood
 go_enter Tryz.func3,Tryz.ntmps3
 go_upto_region 1 with fail
 obtain ⟨w1,q3,ex,eq,hbx,hq⟩:=nm1 w (.cells #[.int .i64 (tt 0),.slice (AA 0) (nn 0) (cc 0),.int .i64 (tt 1),.slice (AA 1) (nn 1) (cc 1),.int .i64 (tt 2),.slice (AA 2) (nn 2) (cc 2)] 25 (0,0))
 rw [←ex,←eq]
 have HB1:=Qh hbx
 have HQ3:=Qh hq
 clear ex eq
 have a0:w1.cell? ⟨q3,0,none⟩=some (.int .i64 (tt 0)):=Za hq 0 _ rfl
 have a1:w1.cell? ⟨q3,1,none⟩=some (.slice (AA 0) (nn 0) (cc 0)):=Za hq 1 _ rfl
 have a2:w1.cell? ⟨q3,2,none⟩=some (.int .i64 (tt 1)):=Za hq 2 _ rfl
 have a3:w1.cell? ⟨q3,3,none⟩=some (.slice (AA 1) (nn 1) (cc 1)):=Za hq 3 _ rfl
 have a4:w1.cell? ⟨q3,4,none⟩=some (.int .i64 (tt 2)):=Za hq 4 _ rfl
 have a5:w1.cell? ⟨q3,5,none⟩=some (.slice (AA 2) (nn 2) (cc 2)):=Za hq 5 _ rfl
 clear hbx hq
 go_wp2_with fail
 clear a0 a1 a2 a3 a4 a5
 go_loopg [34] 3 (fun gh iv wr=>∃ j:Nat,gh+j=3∧iv=.int .i64 (j:Nat)∧(∀ i,i<j→good i)∧Below w1.heap.size w1 wr)
 case atStart=>exact ⟨0,rfl,rfl,fun i hi=>by omega,Below.refl _ _⟩
 case round=>
  obtain ⟨j,hg,rfl,hall,hW⟩:=hrel
  obtain ⟨wl,eW⟩:∃ V,V=wr:=⟨_,rfl⟩
  rw [←eW] at hW ⊢
  clear eW
  by_cases hlt:j<3
  ·have i0:(0:Int)≤(j:Int):=by omega
   have i1:(j:Int)<3:=by omega
   have i2:decide ((j:Int)<3)=true:=decide_eq_true i1
   have i3:decide (j<3)=true:=decide_eq_true hlt
   have u2:wrap64 ((j:Int)+1)=(j:Int)+1:=Zn _ (by omega) (by omega)
   have ix:=idx_w tt AA nn cc j hlt
   obtain ⟨w2,q8,e1,eq,⟨y0,y1⟩,hb2⟩:=ZgO wl (tt j) (AA j) (nn j) (cc j)
   have hB:=Ze HB1.out (Ze hW hb2)
   have HB:=Qh hB
   have FF:=few26_ok (tt j) (AA j) (nn j) (cc j) (kk j) w2 ((HI.out.1 j hlt).below hB)
   have FA:=fun W (hb:Below w2.heap.size w2 W)=>ZrN W (HT.out.below (Ze HB.out hb))
   obtain ⟨R,eR⟩:∃ R,R=fewB (nn j) (kk j):=⟨_,rfl⟩
   rw [←eR] at FF
   have HX:=Qh (Qi hlt (Qi hg (Qi hall (Qi (Ze hW hb2) eR))))
   have E1:=Qh (Qi e1 eq)
   clear hlt hg hall hW hb2 e1 eq hB eR
   go_upto_region 4 with fail
   rw [←E1.out.1,←E1.out.2]
   clear ix i2 i3
   rcases R with _ | _
   ·go_upto_region 5 with (go_at_call 8;refine FF.mono ?_;rintro e w3 ⟨rfl,hb3⟩;have H3:=Qh hb3;have FA:=FA w3 hb3;clear hb3 FF y0 y1 u2)
    go_wp2_with (go_at_call 10;refine FA.mono ?_;rintro e w4 ⟨rfl,hb4⟩;have H4:=Qh hb4;clear hb4 FA)
    go_ret
    exact ⟨rfl,Ze HB.out (Ze H3.out H4.out)⟩
   ·obtain ⟨es,hE⟩:=HI.out.2 j HX.out.1 HX.out.2.2.2.2.symm
    have FV:=fun W (hb:Below w2.heap.size w2 W)=>Qd (tt j) (AA j) (nn j) (cc j) es W (HT.out.below (Ze HB.out hb)) (hE.below (Ze HB.out hb))
    obtain ⟨V,eV⟩:∃ V,V=Zl (tt j) es:=⟨_,rfl⟩
    rw [←eV] at FV
    have HE:=Qh (Qi hE eV)
    clear hE eV
    rcases V with _ | _
    ·go_upto_region 5 with first | (go_at_call 8;refine FF.mono ?_;rintro e w3 ⟨rfl,hb3⟩;have y0:=(hb3.cell (Zc y0)).trans y0;have y1:=(hb3.cell (Zc y1)).trans y1;have H3:=Qh hb3;have FV:=FV w3 hb3;clear hb3 FF) | (go_at_call 9;refine FV.mono ?_;rintro e w4 ⟨rfl,hb4⟩;have H4:=Qh hb4;have FA:=FA w4 (Ze H3.out hb4);clear hb4 FV y0 y1)
     clear u2
     go_wp2_with (go_at_call 10;refine FA.mono ?_;rintro e w5 ⟨rfl,hb5⟩;have H5:=Qh hb5;clear hb5 FA)
     go_ret
     exact ⟨rfl,Ze HB.out (Ze H3.out (Ze H4.out H5.out))⟩
    ·clear FA
     go_wp2_with first | (go_at_call 8;refine FF.mono ?_;rintro e w3 ⟨rfl,hb3⟩;have y0:=(hb3.cell (Zc y0)).trans y0;have y1:=(hb3.cell (Zc y1)).trans y1;have H3:=Qh hb3;have FV:=FV w3 hb3;clear hb3 FF) | (go_at_call 9;refine FV.mono ?_;rintro e w4 ⟨rfl,hb4⟩;have H4:=Qh hb4;clear hb4 FV y0 y1)
     go_roundg (3-(j+1))
     case measure=>have:=HX.out.1;have:=HX.out.2.1;omega
     case rel=>
      refine ⟨j+1,by have:=HX.out.1;omega,by go_num,fun i hi=>?_,Ze HX.out.2.2.2.1 (Ze H3.out H4.out)⟩
      rcases Nat.lt_or_ge i j with h | h
      ·exact HX.out.2.2.1 i h
      ·have hij:i=j:=by omega
       rw [hij,HG.out]
       have hf:=HX.out.2.2.2.2.symm
       unfold fewB at hf
       exact ⟨es,HE.out.1,(of_decide_eq_true hf).1,HE.out.2.symm⟩
  ·have hj3:j=3:=by omega
   have i2:decide ((j:Int)<3)=false:=decide_eq_false (by omega)
   have i3:decide (j<3)=false:=decide_eq_false hlt
   have HALL:=Qh (show ∀ i,i<3→good i from fun i hi=>hall i (by omega))
   have HB2:=Qh hW
   clear hlt hg hall hW hj3
   obtain ⟨cl,ecl⟩:∃ cl:Int,cl=1+(client:Int) % 8:=⟨_,rfl⟩
   have F1:=Ziz (1+(client:Int) % 8) wl
   rw [show JR (1+(client:Int) % 8)=.tuple #[.agg #[.int .i64 cl,.int .i64 1,.int .i64 0,.slice none 0 0,.slice none 0 0],.int .i64 0] from by unfold JR;rw [if_neg (by omega),←ecl]] at F1
   have HCL:=Qh (show 1≤cl∧cl≤8 from by omega)
   have c0:(0:Int)≤(client:Int):=by omega
   have c1:(client:Int)<256:=by have:=HCS.out.1;omega
   clear ecl
   go_upto_region 8 with (go_at_call 11;refine F1.mono ?_;rintro e w3 ⟨rfl,hb3⟩;have H3:=Qh hb3;clear hb3 F1)
   clear i2 i3 c0 c1
   obtain ⟨w4,q9,ex,eq,hbx,hq⟩:=nm1 w3 (Y4 cl 1 0 (.slice none 0 0) (.slice none 0 0))
   rw [←ex,←eq]
   have HB4:=Qh (Ze HB2.out (Ze H3.out hbx))
   have HQ9:=Qh hq
   have HQL9:=Qh (show w.heap.size≤q9 from by rw [eq];exact (Ze HB1.out (Ze HB2.out H3.out)).size)
   clear ex eq hbx hq
   go_upto_region 11 with fail
   obtain ⟨w5,q11,ex,eq,hbx,hq⟩:=nm1 w4 (rcvO 0 0 (.slice none 0 0))
   rw [←ex,←eq]
   have HB5:=Qh (Ze HB4.out hbx)
   have ZcC:=Qh (Qi hq ((hbx.block _ (lt_of_block HQ9.out)).trans HQ9.out))
   have HQL11:=Qh (show w.heap.size≤q11∧q9≠q11 from by rw [eq];exact ⟨(Ze HB1.out HB4.out).size,by have:=lt_of_block HQ9.out;omega⟩)
   have hq3:=(HB5.out.block _ (lt_of_block HQ3.out)).trans HQ3.out
   clear ex eq hbx hq
   have a0:w5.cell? ⟨q3,0,none⟩=some (.int .i64 (tt 0)):=Za hq3 0 _ rfl
   have a1:w5.cell? ⟨q3,1,none⟩=some (.slice (AA 0) (nn 0) (cc 0)):=Za hq3 1 _ rfl
   have a2:w5.cell? ⟨q3,2,none⟩=some (.int .i64 (tt 1)):=Za hq3 2 _ rfl
   have a3:w5.cell? ⟨q3,3,none⟩=some (.slice (AA 1) (nn 1) (cc 1)):=Za hq3 3 _ rfl
   have a4:w5.cell? ⟨q3,4,none⟩=some (.int .i64 (tt 2)):=Za hq3 4 _ rfl
   have a5:w5.cell? ⟨q3,5,none⟩=some (.slice (AA 2) (nn 2) (cc 2)):=Za hq3 5 _ rfl
   have s0:(0:Int)≤(size:Int):=by omega
   have s1:(size:Int)<65536:=by have:=HCS.out.2;omega
   clear hq3
   go_upto_region 12 with fail
   obtain ⟨sz,esz⟩:∃ sz:Int,sz=400+(size:Int) % 801:=⟨_,rfl⟩
   rw [←esz]
   have HZ:=Qh (show 400≤sz∧sz≤1200 from by omega)
   clear esz s0 s1
   go_wp2_with fail
   clear a0 a1 a2 a3 a4 a5
   go_loopg [62] 3 (fun gh iv wr=>∃ (j:Nat) (s:Snd) (r:Rcv) (LA IA RA:Option Addr) (ln lc iN ic rn rc:Nat),gh+j=3∧iv=.int .i64 (j:Nat)∧SnW j cl s r∧wr.heap[q9]?=some (Y4 (cl) ((j:Int)+1) ((j:Int)) (.slice LA ln lc) (.slice IA iN ic))∧wr.heap[q11]?=some (rcvO (r.base) (r.last) (.slice RA rn rc))∧ZA wr s (.agg #[.int .i64 (cl),.int .i64 ((j:Int)+1),.int .i64 ((j:Int)),.slice LA ln lc,.slice IA iN ic])∧ZaD wr r (.agg #[.int .i64 (r.base),.int .i64 (r.last),.slice RA rn rc])∧Below w.heap.size w wr)
   case atStart=>
    exact ⟨0,⟨cl,1,0,[],[]⟩,⟨0,0,[]⟩,none,none,none,0,0,0,0,0,0,rfl,rfl,snW_0 HCL.out,ZcC.out.2,ZcC.out.1,⟨none,none,0,0,0,0,rfl,Zy.nilS _,⟨rfl,fun j x hj=>by simp at hj,Nat.zero_le _⟩,fun _=>⟨rfl,rfl⟩⟩,⟨none,0,0,rfl,Zy.nilS _⟩,Ze HB1.out HB5.out⟩
   case round=>
    obtain ⟨j,s,r,LA,IA,RA,ln,lc,iN,ic,rn,rc,hg,rfl,hN,hq9,hq11,hS,hR,hW⟩:=hrel
    obtain ⟨v5,eW⟩:∃ V,V=wr:=⟨_,rfl⟩
    rw [←eW] at hq9 hq11 hS hR hW ⊢
    clear eW
    by_cases hlt:j<3
    ·obtain ⟨es,hE,hn12,hva⟩:∃ es,Zj w (AA j) (nn j) (cc j) es∧nn j≤12∧Zl (tt j) es=true:=by have:=HALL.out j hlt;rw [HG.out] at this;exact this
     have HR:=Qh (show Rnd j cl s r (tt j) sz es from ⟨hN,hlt,HCL.out,hva,HZ.out,by rw [←hE.len];exact hn12⟩)
     have i0:(0:Int)≤(j:Int):=by omega
     have i1:(j:Int)<3:=by omega
     have i2:decide ((j:Int)<3)=true:=decide_eq_true i1
     have i3:decide (j<3)=true:=decide_eq_true hlt
     have ix:=idx_w tt AA nn cc j hlt
     obtain ⟨v6,q14,e1,eq,⟨y0,y1⟩,hb6⟩:=ZgO v5 (tt j) (AA j) (nn j) (cc j)
     have hq14:v6.heap[q14]?=some (.cells #[.int .i64 (tt j),.slice (AA j) (nn j) (cc j)] 24 (0,0)):=by rw [e1,eq];exact heap_alloc_new _ _
     have hW6:=Ze hW hb6
     have hq96:=(hb6.block _ (lt_of_block hq9)).trans hq9
     have g0:v6.cell? ⟨q9,0,none⟩=some (.int .i64 cl):=Za hq96 0 _ rfl
     have FV:=Znx cl (tt j) (AA j) (nn j) (cc j) es v6 (HT.out.below hW6) (hE.below hW6) (by rw [←HR.out.h.cl];exact HR.out.good.op) (Zjd hva)
     have HX:=Qh (Qi hlt (Qi hg (Qi hW6 (hE.below hW6))))
     have HQ:=Qh (Qi hq96 (Qi ((hb6.block _ (lt_of_block hq11)).trans hq11) hq14))
     have HS6:=Qh (Qi (hS.below hb6) (rcvV_on hR hb6))
     have E1:=Qh (Qi e1 eq)
     clear hlt hg hW hb6 e1 eq hE hn12 hva hN hq9 hq11 hS hR hW6 hq96 hq14
     go_upto_region 15 with fail
     rw [←E1.out.1,←E1.out.2]
     clear ix i2 i3 i0 i1 E1
     go_upto_region 16 with (go_at_call 12;refine FV.mono ?_;rintro e v7 ⟨VA,vn,vc,rfl,hV,hb7⟩;have H7:=Qh (Qi hV hb7);clear hV hb7 FV y0 y1 g0)
     obtain ⟨v8,q15,ex,eq,hbx,hq⟩:=nm1 v7 (.cells #[.int .i64 (tt j),.slice VA vn vc] 24 (0,0))
     rw [←ex,←eq]
     have ZdT:=Ze H7.out.2 hbx
     have HB8:=Qh ZdT
     have HV8:=Qh (H7.out.1.below hbx)
     have ZfT:=Qh hq
     have hq98:=(ZdT.block _ (lt_of_block HQ.out.1)).trans HQ.out.1
     have hq148:=(ZdT.block _ (lt_of_block HQ.out.2.2)).trans HQ.out.2.2
     obtain ⟨g0,g1,g2,g3,g4⟩:=ce5 hq98
     obtain ⟨y0,y1⟩:=cs2 hq148
     have FS:=whole_send HR.out (HT.out.below (Ze HX.out.2.2.1 ZdT)) (HS6.out.1.below ZdT) (HX.out.2.2.2.below ZdT)
     clear ex eq hbx hq ZdT hq98 hq148
     go_upto_region 17 with (go_at_call 13;refine FS.mono ?_;rintro e v9 ⟨a,b,d,L9,I9,PA,n9,c9,m9,k9,pn,pc,ev,rfl,hF,hb9⟩;have H9:=Qh (Qi hF hb9);clear hF hb9 FS g0 g1 g2 g3 g4 y0 y1)
     obtain ⟨v10,q17,ex,eq,hbx,hq⟩:=nm1 v9 (Y4 (a) (b) (d) (.slice L9 n9 c9) (.slice I9 m9 k9))
     rw [←ex,←eq]
     have HB10:=Qh (Ze HB8.out (Ze H9.out.2 hbx))
     have HB910:=Qh hbx
     have ZcD:=Qh hq
     clear ex eq hbx hq
     rcases H9.out.1 with eev|⟨eev,k,B,⟨ea,eb,ed⟩,hfit,hS9,hp9⟩
     ·subst eev
      have FA:=ZrN v10 (HT.out.below (Ze HX.out.2.2.1 HB10.out))
      go_wp2_with (go_at_call 10;refine FA.mono ?_;rintro e v11 ⟨rfl,ZcB⟩;have H11:=Qh ZcB;clear ZcB FA)
      go_ret
      exact ⟨rfl,Ze HX.out.2.2.1 (Ze HB10.out H11.out)⟩
     subst eev
     have HP:=Qh (Qi hfit (Qi (hS9.below HB910.out) (Y3 hp9 HB910.out)))
     clear hfit hS9 hp9
     subst ea eb ed
     go_upto_region 22 with fail
     obtain ⟨v11,q20,ex,eq,hbx,hq⟩:=nm1 v10 (.cells #[.int .i64 0,.slice none 0 0] 24 (0,0))
     rw [←ex,←eq]
     have HB11:=Qh hbx
     have HQ20:=Qh hq
     have hq911:=((Ze HB10.out hbx).block _ (lt_of_block HQ.out.1)).trans HQ.out.1
     have HQ911:=Qh hq911
     have g2:v11.cell? ⟨q9,2,none⟩=some (.int .i64 (j:Int)):=Za hq911 2 _ rfl
     have HL20:=Qh (show v10.heap.size≤q20 from by rw [eq];exact Nat.le_refl _)
     clear ex eq hbx hq hq911
     go_upto_if 91 with fail
     clear g2
     go_cut [] (fun wx=>∃ (BA:Option Addr) (bn bc:Nat),wx.heap[q20]?=some (.cells #[.int .i64 (bsF s).tick,.slice BA bn bc] 24 (0,0))∧Zj wx BA bn bc (bsF s).es∧Below v10.heap.size v10 wx)
     case first=>
      by_cases hj:1≤j
      ·have t1:decide ((0:Int)<(j:Int))=true:=decide_eq_true (by omega)
       have t2:(0:Int)<(j:Int):=by omega
       obtain ⟨g,o,CN,ccn,CA,eLA,eln,⟨z2,z3⟩,hbE⟩:=whole_base HR.out.h hj (HS6.out.1.below HB10.out)
       subst eLA eln
       have z2:=(HB11.out.cell (Zc z2)).trans z2
       have z3:=(HB11.out.cell (Zc z3)).trans z3
       have g3:v11.cell? ⟨q9,3,none⟩=some (.slice (some ⟨g,o,none⟩) 1 lc):=Za HQ911.out 3 _ rfl
       obtain ⟨f0,f1⟩:=cs2 HQ20.out
       have f2:=Zd HQ20.out 0
       have f3:=Zd HQ20.out 1
       have HBE:=Qh hbE
       clear hbE hj
       go_wp2_with fail
       go_meet
       have hb:=YB (.int .i64 (bsF s).tick) (.slice CA CN ccn) HB11.out HL20.out
       exact ⟨CA,CN,ccn,Yw _ _ HQ20.out,HBE.out.below hb,hb⟩
      ·have t1:decide ((0:Int)<(j:Int))=false:=decide_eq_false (by omega)
       have t2:¬ (0:Int)<(j:Int):=by omega
       have ez:bsF s=Rec.zero:=by
        rcases HR.out.h.base with ⟨_,_,h⟩|⟨h,_⟩
        ·exact h
        ·omega
       have HEZ:=Qh ez
       clear ez hj
       go_wp2_with fail
       go_meet
       rw [HEZ.out]
       exact ⟨none,0,0,HQ20.out,Zj.nilS _,HB11.out⟩
     case rest=>
     obtain ⟨BA,bn,bc,hq20,hBE,Zt⟩:=hcut
     obtain ⟨v12,eW⟩:∃ V,V=wc:=⟨_,rfl⟩
     rw [←eW] at hq20 hBE Zt ⊢
     clear eW
     have hb612:=Ze HB10.out Zt
     have HB12:=Qh hb612
     have HB1012:=Qh Zt
     have HQ12:=Qh (Qi hq20 hBE)
     have HP12:=Qh (Qi (HP.out.2.1.below Zt) (Y3 HP.out.2.2 Zt))
     have hq1112:=(hb612.block _ (lt_of_block HQ.out.2.1)).trans HQ.out.2.1
     have HQ1712:=Qh ((Zt.block _ (lt_of_block ZcD.out)).trans ZcD.out)
     obtain ⟨h0,h1,h2⟩:=cs3 hq1112
     have FR:=whole_recv HR.out HP.out.1 (HT.out.below (Ze HX.out.2.2.1 hb612)) (rcvV_on HS6.out.2 hb612) HP12.out.2
     clear hq20 hBE Zt hb612 hq1112
     go_upto_region 25 with (go_at_call 14;refine FR.mono ?_;rintro e v13 ⟨ra,rb,R9,WA,x9,y9,wn,wc9,rfl,hF,Yi⟩;have H13:=Qh (Qi hF Yi);clear hF Yi FR h0 h1 h2)
     obtain ⟨v14,q21,ex,eq,hbx,hqa,hqb⟩:=nm2 v13 (rcvO (ra) (rb) (.slice R9 x9 y9)) (.cells #[.int .i64 (tt j),.slice WA wn wc9] 24 (0,0))
     rw [←ex,←eq]
     have hb1214:=Ze H13.out.2 hbx
     have HB14:=Qh hb1214
     have HQ21:=Qh (Qi hqa hqb)
     have HL21:=Qh (show v13.heap.size≤q21 from by rw [eq];exact Nat.le_refl _)
     have HE13:=Qh (Qi (rcvV_on H13.out.1.2.1 hbx) (H13.out.1.2.2.below hbx))
     obtain ⟨g9,o9,m,CN,cn9,CA,eL9,en9,hm,⟨z0,z1,z2,z3⟩,hNE⟩:=whole_rec HR.out (HP12.out.1.below hb1214)
     subst eL9 en9
     have hq1714:=(hb1214.block _ (lt_of_block HQ1712.out)).trans HQ1712.out
     have HQ1714:=Qh hq1714
     have HNE:=Qh hNE
     have f3:v14.cell? ⟨q17,3,none⟩=some (.slice (some ⟨g9,o9,none⟩) (m+1) c9):=Za hq1714 3 _ rfl
     have m0:(0:Int)≤(m:Int):=by omega
     have m1:(m:Int)≤1:=by omega
     have m2:(((m+1:Nat):Int)==0)=false:=by simp;omega
     have m3:((m:Int)+1==0)=false:=by simp;omega
     have m4:wrap64 ((m:Int)+1-1)=(m:Int):=by rw [show (m:Int)+1-1=(m:Int) from by omega];exact Zn _ (by omega) (by omega)
     clear ex eq hbx hqa hqb hb1214 hq1714 hNE hm
     go_upto_region 28 with fail
     clear f3 m0 m1 m2 m3 m4 z0 z1 z2 z3
     obtain ⟨v15,q24,ex,eq,hbx,hq⟩:=nm1 v14 (.cells #[.int .i64 ((j:Int)+1),.int .i64 (j:Int),.int .i64 (tt j),.slice CA CN cn9] 45 (0,0))
     rw [←ex,←eq]
     have HB15:=Qh hbx
     have HQ24:=Qh hq
     have HB1215:=Qh (Ze HB14.out hbx)
     clear ex eq hbx hq
     have HV15:=Qh (HV8.out.below (Ze H9.out.2 (Ze HB910.out (Ze HB1012.out HB1215.out))))
     have hq1515:=((Ze H9.out.2 (Ze HB910.out (Ze HB1012.out HB1215.out))).block _ (lt_of_block ZfT.out)).trans ZfT.out
     have hq2015:=(HB1215.out.block _ (lt_of_block HQ12.out.1)).trans HQ12.out.1
     have HQ15F:=Qh (Qi hq1515 (Qi hq2015 HQ24.out))
     have HE15:=Qh (Qi (HNE.out.below HB15.out) (Qi HV15.out (HQ12.out.2.below HB1215.out)))
     have HT15:=Qh (HT.out.below (Ze HX.out.2.2.1 (Ze HB12.out HB1215.out)))
     have vv:=HR.out.view
     have vn':=HR.out.next k
     have vb:=HR.out.good.bv
     have HVV:=Qh (Qi vn' (Qi vv vb))
     clear hq1515 hq2015 vv vn' vb
     have x24:=HQ15F.out.2.2
     have x15:=HQ15F.out.1
     have a2:v15.cell? ⟨q24,2,none⟩=some (.int .i64 (tt j)):=Za x24 2 _ rfl
     have a3:v15.cell? ⟨q24,3,none⟩=some (.slice CA CN cn9):=Za x24 3 _ rfl
     obtain ⟨b0,b1⟩:=cs2 x15
     have FC:=ZnG (tt j) (tt j) CA VA CN cn9 vn vc (Z7 (plX s (tt j) sz es) k) (Ql cl (Xa cl es) es) v15 HT15.out HE15.out.1 HE15.out.2.1 HVV.out.1.1 HVV.out.2.1.1
     go_upto_region 29 with (go_at_call 15;refine FC.mono ?_;rintro e v16 ⟨vx,rfl,hO,ZaA⟩;obtain ⟨A16,c16,rfl⟩:=YF hO;have H16:=Qh ZaA;clear hO ZaA FC a2 a3 b0 b1)
     clear x24 x15
     have x24:=(H16.out.block _ (lt_of_block HQ15F.out.2.2)).trans HQ15F.out.2.2
     have x20:=(H16.out.block _ (lt_of_block HQ15F.out.2.1)).trans HQ15F.out.2.1
     obtain ⟨a0,a1⟩:=cs2 x20
     have b2:v16.cell? ⟨q24,2,none⟩=some (.int .i64 (tt j)):=Za x24 2 _ rfl
     have b3:v16.cell? ⟨q24,3,none⟩=some (.slice CA CN cn9):=Za x24 3 _ rfl
     have FC:=ZnG (bsF s).tick (tt j) BA CA bn bc CN cn9 (bsF s).es (Z7 (plX s (tt j) sz es) k) v16 (HT15.out.below H16.out) (HE15.out.2.2.below H16.out) (HE15.out.1.below H16.out) HVV.out.2.2 HVV.out.1.1
     go_upto_region 30 with (go_at_call 15;refine FC.mono ?_;rintro e v17 ⟨vx,rfl,hO,Qy⟩;obtain ⟨A17,c17,rfl⟩:=YF hO;have H17:=Qh Qy;clear hO Qy FC a0 a1 b2 b3)
     clear x24 x20
     have x15:=((Ze H16.out H17.out).block _ (lt_of_block HQ15F.out.1)).trans HQ15F.out.1
     have x20:=((Ze H16.out H17.out).block _ (lt_of_block HQ15F.out.2.1)).trans HQ15F.out.2.1
     obtain ⟨a0,a1⟩:=cs2 x20
     obtain ⟨b0,b1⟩:=cs2 x15
     have FC:=ZnG (bsF s).tick (tt j) BA VA bn bc vn vc (bsF s).es (Ql cl (Xa cl es) es) v17 (HT15.out.below (Ze H16.out H17.out)) (HE15.out.2.2.below (Ze H16.out H17.out)) (HE15.out.2.1.below (Ze H16.out H17.out)) HVV.out.2.2 HVV.out.2.1.1
     go_upto_region 31 with (go_at_call 15;refine FC.mono ?_;rintro e v18 ⟨vx,rfl,hO,Zj8⟩;obtain ⟨A18,c18,rfl⟩:=YF hO;have H18:=Qh Zj8;clear hO Zj8 FC a0 a1 b0 b1)
     clear x15 x20
     have hb1518:=Ze H16.out (Ze H17.out H18.out)
     have HB1518:=Qh hb1518
     obtain ⟨l1,l2,l3,e1l,e2l,e3l⟩:∃ l1 l2 l3:Nat,l1=(ZO (Zw (Z7 (plX s (tt j) sz es) k) (Ql cl (Xa cl es) es))).length∧l2=(ZO (Zw (bsF s).es (Z7 (plX s (tt j) sz es) k))).length∧l3=(ZO (Zw (bsF s).es (Ql cl (Xa cl es) es))).length:=⟨_,_,_,rfl,rfl,rfl⟩
     have hcount:=whole_count HR.out k
     rw [←e1l,←e2l,←e3l] at hcount
     rw [←e1l,←e2l,←e3l]
     clear e1l e2l e3l
     have HCO:=Qh hcount
     have hq2118:=((Ze HB15.out hb1518).block _ (lt_of_block HQ21.out.2)).trans HQ21.out.2
     have x24:=(hb1518.block _ (lt_of_block HQ15F.out.2.2)).trans HQ15F.out.2.2
     have x15:=(hb1518.block _ (lt_of_block HQ15F.out.1)).trans HQ15F.out.1
     have hq1418:=((Ze HB12.out (Ze HB1215.out hb1518)).block _ (lt_of_block HQ.out.2.2)).trans HQ.out.2.2
     have HQ18:=Qh (Qi hq2118 (Qi x24 (Qi x15 hq1418)))
     have HS1:=Qh (fun W (hb:Below v18.heap.size v18 W)=>Zrq (tt j) (Z7 (plX s (tt j) sz es) k) WA CA wn wc9 cn9 W)
     clear hq2118 x24 x15 hq1418 hb1518 hcount HS1
     go_cut [184] (fun v wx=>v=.bool false∧Below v18.heap.size v18 wx)
     case first=>
      have hwn:wn=CN:=HE13.out.2.len.trans HE15.out.1.len.symm
      subst hwn
      have hb:=Ze HB15.out HB1518.out
      have FS1:=Zrq (tt j) (Z7 (plX s (tt j) sz es) k) WA CA wn wc9 cn9 v18 (HE13.out.2.below hb) (HE15.out.1.below HB1518.out)
      have n1:(l1:Int)≤24:=by have:=HCO.out;omega
      have n2:(l2:Int)≤24:=by have:=HCO.out;omega
      have n3:(((l1:Int)+(l2:Int)) != (l3:Int))=false:=by have:=HCO.out.1;simp;omega
      have n4:(0:Int)≤(l1:Int):=by omega
      have n5:(0:Int)≤(l2:Int):=by omega
      clear hb
      obtain ⟨a0,a1⟩:=cs2 HQ18.out.1
      have a2:v18.cell? ⟨q24,2,none⟩=some (.int .i64 (tt j)):=Za HQ18.out.2.1 2 _ rfl
      have a3:v18.cell? ⟨q24,3,none⟩=some (.slice CA wn cn9):=Za HQ18.out.2.1 3 _ rfl
      obtain ⟨b0,b1⟩:=cs2 HQ18.out.2.2.1
      have b2:v18.cell? ⟨q14,0,none⟩=some (.int .i64 (tt j)):=Za HQ18.out.2.2.2 0 _ rfl
      by_cases hl1:l1=0
      ·have hnv:=HCO.out.2.1 hl1
       have hvn:vn=wn:=by rw [HE13.out.2.len,HE15.out.2.1.len,hnv]
       subst hvn
       have FS2:=fun W (hb:Below v18.heap.size v18 W)=>Zrq (tt j) (Z7 (plX s (tt j) sz es) k) WA VA vn wc9 vc W (HE13.out.2.below (Ze HB15.out (Ze HB1518.out hb))) (by rw [hnv];exact HE15.out.2.1.below (Ze HB1518.out hb))
       have n6:((l1:Int)==0)=true:=by simp [hl1]
       clear hl1 hnv
       go_wp2_with first | (go_at_call 16;with_reducible refine FS1.mono ?_;rintro e v19 ⟨rfl,Za8⟩;have a0:=(Za8.cell (Zc a0)).trans a0;have a1:=(Za8.cell (Zc a1)).trans a1;have b0:=(Za8.cell (Zc b0)).trans b0;have b1:=(Za8.cell (Zc b1)).trans b1;have b2:=(Za8.cell (Zc b2)).trans b2;have H19:=Qh Za8;have FS2:=FS2 v19 Za8;clear Za8 FS1 a2 a3) | (go_at_call 16;with_reducible refine FS2.mono ?_;rintro e v20 ⟨rfl,hb20⟩;have a0:=(hb20.cell (Zc a0)).trans a0;have b2:=(hb20.cell (Zc b2)).trans b2;have H20:=Qh hb20;clear hb20 FS2 a1 b0 b1)
       go_meet
       exact ⟨rfl,Ze H19.out H20.out⟩
      ·have n6:((l1:Int)==0)=false:=by simp [hl1]
       clear hl1
       go_wp2_with (go_at_call 16;with_reducible refine FS1.mono ?_;rintro e v19 ⟨rfl,Za8⟩;have a0:=(Za8.cell (Zc a0)).trans a0;have b2:=(Za8.cell (Zc b2)).trans b2;have H19:=Qh Za8;clear Za8 FS1 a1 a2 a3 b0 b1)
       go_meet
       exact ⟨rfl,H19.out⟩
     case rest=>
     obtain ⟨rfl,Zic⟩:=hcut
     obtain ⟨v21,eW⟩:∃ V,V=wc:=⟨_,rfl⟩
     rw [←eW] at Zic ⊢
     clear eW
     have hb1221:=Ze HB1215.out (Ze HB1518.out Zic)
     have hq1721:=(hb1221.block _ (lt_of_block HQ1712.out)).trans HQ1712.out
     have x24:=(Zic.block _ (lt_of_block HQ18.out.2.1)).trans HQ18.out.2.1
     have HB1221:=Qh hb1221
     have HB1821:=Qh Zic
     have HQ2421:=Qh x24
     have FK:=whole_ack HR.out k (HT.out.below (Ze HX.out.2.2.1 (Ze HB12.out hb1221))) (HP12.out.1.below hb1221)
     have k0:v21.cell? ⟨q24,0,none⟩=some (.int .i64 ((j:Int)+1)):=Za x24 0 _ rfl
     obtain ⟨f0,f1,f2,f3,f4⟩:=ce5 hq1721
     clear hb1221 hq1721 x24 Zic
     go_upto_region 34 with (go_at_call 17;refine FK.mono ?_;rintro e v22 ⟨OA,QA,oc,qn,qc,rfl,hF,hb22⟩;have H22:=Qh (Qi hF hb22);clear hF hb22 FK f0 f1 f2 f3 f4 k0)
     obtain ⟨v23,q31,ex,eq,hbx,hq⟩:=nm1 v22 (Y4 (cl) ((j:Int)+2) ((j:Int)+1) (.slice OA 1 oc) (.slice QA qn qc))
     rw [←ex,←eq]
     have HB23:=Qh hbx
     have HQ31:=Qh hq
     have HL31:=Qh (show v22.heap.size≤q31 from by rw [eq];exact Nat.le_refl _)
     have k0:v23.cell? ⟨q24,0,none⟩=some (.int .i64 ((j:Int)+1)):=Za (((Ze H22.out.2 hbx).block _ (lt_of_block HQ2421.out)).trans HQ2421.out) 0 _ rfl
     have f2:v23.cell? ⟨q31,2,none⟩=some (.int .i64 ((j:Int)+1)):=Za hq 2 _ rfl
     have f3:v23.cell? ⟨q31,3,none⟩=some (.slice OA 1 oc):=Za hq 3 _ rfl
     clear ex eq hbx hq
     go_upto_region 36 with fail
     clear k0 f2 f3
     have hb1223:=Ze HB1221.out (Ze H22.out.2 HB23.out)
     have HB1223:=Qh hb1223
     have hq923:=((Ze HB12.out hb1223).block _ (lt_of_block HQ.out.1)).trans HQ.out.1
     have hq1123:=((Ze HB12.out hb1223).block _ (lt_of_block HQ.out.2.1)).trans HQ.out.2.1
     have hq2123:=((Ze HB15.out (Ze HB1518.out (Ze HB1821.out (Ze H22.out.2 HB23.out)))).block _ (lt_of_block HQ21.out.1)).trans HQ21.out.1
     have HF:=Qh (Qi hq923 (Qi hq1123 hq2123))
     have HNQ:=Qh (show q31≠q9∧q21≠q9∧q11≠q9∧q9<v21.heap.size∧q11<v21.heap.size from by
      have h1:=lt_of_block HQ.out.1
      have h2:=lt_of_block HQ.out.2.1
      have h3:=HB12.out.size
      have h4:=HB1221.out.size
      have h5:=H22.out.2.size
      have h6:=HL31.out
      have h7:=HL21.out
      have h8:=H13.out.2.size
      have h9:=HQL11.out.2
      omega)
     clear hb1223 hq923 hq1123 hq2123
     obtain ⟨wdz,ed⟩:∃ W,W=v23.drew:=⟨_,rfl⟩
     have hbd:Below v23.heap.size v23 wdz:=by rw [ed];exact (Below.refl _ _).drew
     have HC:wdz.cell? ⟨q31,0,none⟩=some (.int .i64 (cl))∧wdz.cell? ⟨q31,1,none⟩=some (.int .i64 ((j:Int)+2))∧wdz.cell? ⟨q31,2,none⟩=some (.int .i64 ((j:Int)+1))∧wdz.cell? ⟨q31,3,none⟩=some (.slice OA 1 oc)∧wdz.cell? ⟨q31,4,none⟩=some (.slice QA qn qc)∧wdz.cell? ⟨q21,0,none⟩=some (.int .i64 (ra))∧wdz.cell? ⟨q21,1,none⟩=some (.int .i64 (rb))∧wdz.cell? ⟨q21,2,none⟩=some (.slice R9 x9 y9):=⟨Za ((hbd.block _ (lt_of_block HQ31.out)).trans HQ31.out) 0 _ rfl,Za ((hbd.block _ (lt_of_block HQ31.out)).trans HQ31.out) 1 _ rfl,Za ((hbd.block _ (lt_of_block HQ31.out)).trans HQ31.out) 2 _ rfl,Za ((hbd.block _ (lt_of_block HQ31.out)).trans HQ31.out) 3 _ rfl,Za ((hbd.block _ (lt_of_block HQ31.out)).trans HQ31.out) 4 _ rfl,Za ((hbd.block _ (lt_of_block HF.out.2.2)).trans HF.out.2.2) 0 _ rfl,Za ((hbd.block _ (lt_of_block HF.out.2.2)).trans HF.out.2.2) 1 _ rfl,Za ((hbd.block _ (lt_of_block HF.out.2.2)).trans HF.out.2.2) 2 _ rfl⟩
     have HB:=Qh hbd
     have HD:=Qh ed
     clear hbd ed
     refine Yy (fun W=>W.cell? ⟨q31,0,none⟩=some (.int .i64 (cl))∧W.cell? ⟨q31,1,none⟩=some (.int .i64 ((j:Int)+2))∧W.cell? ⟨q31,2,none⟩=some (.int .i64 ((j:Int)+1))∧W.cell? ⟨q31,3,none⟩=some (.slice OA 1 oc)∧W.cell? ⟨q31,4,none⟩=some (.slice QA qn qc)∧W.cell? ⟨q21,0,none⟩=some (.int .i64 (ra))∧W.cell? ⟨q21,1,none⟩=some (.int .i64 (rb))∧W.cell? ⟨q21,2,none⟩=some (.slice R9 x9 y9)) 3 hmx ?_
     change Zz _ _ _ _ _ _ _ _ _ (World.drew _)
     rw [←HD.out]
     refine tkl 0 rfl HC (by intro W ⟨hC0,hC1,hC2,hC3,hC4,hC5,hC6,hC7⟩;go_simp;try with_reducible rfl) ?_
     refine tkl 1 rfl HC (by intro W ⟨hC0,hC1,hC2,hC3,hC4,hC5,hC6,hC7⟩;go_simp;try with_reducible rfl) ?_
     refine Zi 2 rfl (fun K hK=>?_)
     have hq:=(HB.out.block _ (lt_of_block HF.out.1)).trans HF.out.1
     obtain ⟨y0,y1,y2,y3,y4⟩:=ce5 hq
     have y5:=Zd hq 0
     have y6:=Zd hq 1
     have y7:=Zd hq 2
     have y8:=Zd hq 3
     have y9:=Zd hq 4
     clear hq
     go_simp
     clear y0 y1 y2 y3 y4 y5 y6 y7 y8 y9
     obtain ⟨vz1,ex,e1⟩:∃ V,V=((((wdz.setCell ⟨q9,0,none⟩ (.int .i64 (cl))).setCell ⟨q9,1,none⟩ (.int .i64 ((j:Int)+2))).setCell ⟨q9,2,none⟩ (.int .i64 ((j:Int)+1))).setCell ⟨q9,3,none⟩ (.slice OA 1 oc)).setCell ⟨q9,4,none⟩ (.slice QA qn qc)∧V=QS wdz q9 (.int .i64 (cl)) (.int .i64 ((j:Int)+2)) (.int .i64 ((j:Int)+1)) (.slice OA 1 oc) (.slice QA qn qc):=⟨_,rfl,rfl⟩
     rw [←ex]
     clear ex
     have hne:∀ b,b≠q9→vz1.heap[b]?=wdz.heap[b]?:=fun b hb=>by rw [e1];exact Xn _ _ _ _ _ _ _ hb
     have n1:=hne q31 HNQ.out.1
     have n2:=hne q21 HNQ.out.2.1
     have HC:vz1.cell? ⟨q31,0,none⟩=some (.int .i64 (cl))∧vz1.cell? ⟨q31,1,none⟩=some (.int .i64 ((j:Int)+2))∧vz1.cell? ⟨q31,2,none⟩=some (.int .i64 ((j:Int)+1))∧vz1.cell? ⟨q31,3,none⟩=some (.slice OA 1 oc)∧vz1.cell? ⟨q31,4,none⟩=some (.slice QA qn qc)∧vz1.cell? ⟨q21,0,none⟩=some (.int .i64 (ra))∧vz1.cell? ⟨q21,1,none⟩=some (.int .i64 (rb))∧vz1.cell? ⟨q21,2,none⟩=some (.slice R9 x9 y9):=⟨(Zm n1 _).trans HC.1,(Zm n1 _).trans HC.2.1,(Zm n1 _).trans HC.2.2.1,(Zm n1 _).trans HC.2.2.2.1,(Zm n1 _).trans HC.2.2.2.2.1,(Zm n2 _).trans HC.2.2.2.2.2.1,(Zm n2 _).trans HC.2.2.2.2.2.2.1,(Zm n2 _).trans HC.2.2.2.2.2.2.2⟩
     have hq11:=(hne q11 HNQ.out.2.2.1).trans ((HB.out.block _ (lt_of_block HF.out.2.1)).trans HF.out.2.1)
     have HZ1:=Qh (Qi hq11 (Qi hne (show vz1.heap[q9]?=some (Y4 (cl) ((j:Int)+2) ((j:Int)+1) (.slice OA 1 oc) (.slice QA qn qc)) from by rw [e1];exact Yk _ _ _ _ _ ((HB.out.block _ (lt_of_block HF.out.1)).trans HF.out.1))))
     have HS1:=Qh (Qi (show wdz.heap.size≤vz1.heap.size from by rw [e1];exact (Yl (B:=0) _ _ _ _ _ (Below.refl _ _) (Nat.zero_le _)).size) (show Below w.heap.size w vz1 from by rw [e1];exact Yl _ _ _ _ _ (Ze HX.out.2.2.1 (Ze HB12.out (Ze HB1223.out HB.out))) HQL9.out))
     clear hne n1 n2 hq11 e1
     refine hK _ _ ?_;clear hK K
     refine ⟨Or.inr HC,?_⟩
     refine Zi 3 rfl (fun K hK=>?_)
     have hq:=HZ1.out.1
     obtain ⟨y0,y1,y2⟩:=cs3 hq
     have y3:=Zd hq 0
     have y4:=Zd hq 1
     have y5:=Zd hq 2
     clear hq
     go_simp
     clear y0 y1 y2 y3 y4 y5
     obtain ⟨vz2,ex,e2⟩:∃ V,V=((vz1.setCell ⟨q11,0,none⟩ (.int .i64 (ra))).setCell ⟨q11,1,none⟩ (.int .i64 (rb))).setCell ⟨q11,2,none⟩ (.slice R9 x9 y9)∧V=JY vz1 q11 (.int .i64 (ra)) (.int .i64 (rb)) (.slice R9 x9 y9):=⟨_,rfl,rfl⟩
     rw [←ex]
     clear ex
     have HZ2:=Qh e2
     clear e2
     refine hK _ _ ?_;clear hK K
     refine ⟨Or.inl (by kernel_rfl),?_⟩
     refine ZX (by kernel_rfl) ?_ _
     try clear HC
     go_wp2_with fail
     go_roundg (3-(j+1))
     case measure=>have:=HX.out.1;have:=HX.out.2.1;omega
     case rel=>
      have e2:=HZ2.out
      have hag:∀ b,b<wdz.heap.size→¬ (b=q9∨b=q11)→vz2.heap[b]?=wdz.heap[b]?:=fun b _ hb=>by rw [e2];exact (Zbd _ _ _ _ _ (fun h=>hb (.inr h))).trans (HZ1.out.2.1 b (fun h=>hb (.inl h)))
      have hsz:wdz.heap.size≤vz2.heap.size:=Nat.le_trans HS1.out.1 (by rw [e2];exact (ZqB (B:=0) _ _ _ (Below.refl _ _) (Nat.zero_le _)).size)
      have hbz:=Ze (Ze HB12.out HB1223.out) HB.out
      obtain ⟨hfull,_,hal,hN2⟩:=HR.out.after k
      have hL:=sndV_parts (HS6.out.1.below hbz)
      have hLR:=rcvV_parts (rcvV_on HS6.out.2 hbz)
      have hBox:=two_boxes ((HB.out.block _ (lt_of_block HF.out.1)).trans HF.out.1) ((HB.out.block _ (lt_of_block HF.out.2.1)).trans HF.out.2.1) hL hLR HR.out.h.old.1 HR.out.h.old.2
      have hRV:=rcvV_on HE13.out.1 (Ze HB15.out (Ze HB1518.out (Ze HB1821.out (Ze H22.out.2 (Ze HB23.out HB.out)))))
      have hR2:=hRV.off hBox hN2.idsR hN2.basesR hag
      have hq9z:vz2.heap[q9]?=some (Y4 (cl) ((j:Int)+2) ((j:Int)+1) (.slice OA 1 oc) (.slice QA qn qc)):=by rw [e2];exact (Zbd _ _ _ _ _ HNQ.out.2.2.1.symm).trans HZ1.out.2.2
      have hq11z:vz2.heap[q11]?=some (rcvO (ra) (rb) (.slice R9 x9 y9)):=by rw [e2];exact ZqA _ _ _ HZ1.out.1
      have hb2z:=Ze HB23.out HB.out
      have hSV:=H22.out.1.later (W:=vz2) (by rw [hal];simp) (by have:=snd_its hN2.full;omega) (Nat.le_trans hb2z.size hsz) (fun b h1 h2=>(hag b (Nat.lt_of_lt_of_le h2 hb2z.size) (by have:=HNQ.out.2.2.2;omega)).trans (hb2z.block b h2))
      have u2:wrap64 ((j:Int)+1)=(j:Int)+1:=Zn _ (by have:=HX.out.1;omega) (by have:=HX.out.1;omega)
      have ej:(((j+1:Nat):Int)+1)=(j:Int)+2:=by omega
      have ek:((j+1:Nat):Int)=(j:Int)+1:=by omega
      refine ⟨j+1,QG (Xz (plX s (tt j) sz es) k) ((j:Int)+1),Zbc r ((j:Int)+1) j (tt j) (Z7 (plX s (tt j) sz es) k),OA,QA,R9,1,oc,qn,qc,x9,y9,by have:=HX.out.1;have:=HX.out.2.1;omega,by rw [u2];go_num,hN2,?_,?_,?_,?_,?_⟩
      ·rw [ej,ek];exact hq9z
      ·rw [←H13.out.1.1.1,←H13.out.1.1.2];exact hq11z
      ·rw [ej,ek];exact hSV
      ·rw [←H13.out.1.1.1,←H13.out.1.1.2];exact hR2
      ·rw [e2];exact ZqB _ _ _ HS1.out.2 HQL11.out.1
    ·have hj3:j=3:=by omega
     have i2:decide ((j:Int)<3)=false:=decide_eq_false (by omega)
     have i3:decide (j<3)=false:=decide_eq_false hlt
     have HWE:=Qh hW
     have FA:=ZrN v5 (HT.out.below hW)
     clear hlt hg hN hq9 hq11 hS hR hW hj3
     go_wp2_with (go_at_call 10;refine FA.mono ?_;rintro e v6 ⟨rfl,hb6⟩;have H6:=Qh hb6;clear hb6 FA)
     go_ret
     exact ⟨rfl,Ze HWE.out H6.out⟩
end
end Go.Proofs.YtlgcfimhfmgkmaaGreatDoor
