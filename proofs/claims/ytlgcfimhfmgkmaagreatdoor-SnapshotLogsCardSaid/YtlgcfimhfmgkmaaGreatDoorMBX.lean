/- Lemmas for the statement. -/
import Derived.Test.YtlgcfimhfmgkmaaGreatDoorMBV
import Derived.Test.YtlgcfimhfmgkmaaGreatDoorMBW
set_option linter.unusedVariables false
set_option linter.unusedSimpArgs false
namespace Go.Proofs.YtlgcfimhfmgkmaaGreatDoor
open Go.RowKit
section
theorem ZfU {i:Nat} {s:Snd} {v:Value} {b:Nat} {w:World} (hT:Tabs w) (hS:ZA w s v) (hA:Zj w (some ⟨b,0,none⟩) 3 3 (Zf 0)) (h:ZP i s) (hi:i≤1000000) :
  Calls Tryz.prog 13 #[v,.agg #[.int .i64 (i:Nat),.slice (some ⟨b,0,none⟩) 3 3],.int .i64 1200] w fun e w'=>∃ (LA IA PA:Option Addr) (ln lc iN ic pn pc:Nat),e=.returned (.tuple #[.agg #[.int .i64 2,.int .i64 ((i:Int)+2),.int .i64 s.acked,.slice LA ln lc,.slice IA iN ic],.slice PA pn pc,.int .i64 0])∧ZA w' (nxS s (i:Int) 0) (.agg #[.int .i64 2,.int .i64 ((i:Int)+2),.int .i64 s.acked,.slice LA ln lc,.slice IA iN ic])∧8≤pn∧pn≤1200∧Below w.heap.size w w':=by
 refine (ZbQ (s:=s) (t:=(i:Int)) (h:=0) hT hS hA (h.can hi) h.small).mono ?_
 rintro e w' ⟨x,pv,B,rfl,hS',hp,hb⟩
 obtain ⟨g,c,rfl,hc,_⟩:=ZdX hp.1
 have hs:=h.can hi
 unfold Qu at hs
 simp only [Bool.and_eq_true,Bool.not_eq_true',decide_eq_true_eq] at hs
 have hlen:=hs.2
 have h':=h.sent hi
 have hx:=hS'
 obtain ⟨LA,IA,ln,lc,iN,ic,e,hrest⟩:=hx
 have e1:(nxS s (i:Int) 0).cl=2:=h'.cl
 have e2:(nxS s (i:Int) 0).next=(i:Int)+2:=by have:=h'.nx;omega
 have e3:(nxS s (i:Int) 0).acked=s.acked:=rfl
 rw [e1,e2,e3] at e
 subst e
 exact ⟨LA,IA,_,ln,lc,iN,ic,_,c,rfl,hS',by omega,by omega,hb⟩
theorem ZrZ {i:Nat} {s:Snd} {w w9:World} {a b c a9 b9 c9:Int} {LA IA L9 I9:Option Addr} {ln lc iN ic ln9 lc9 iN9 ic9:Nat} (h:ZP i s) (hi:i≤1000000) (hS:ZA w s (.agg #[.int .i64 a,.int .i64 b,.int .i64 c,.slice LA ln lc,.slice IA iN ic])) (hS9:ZA w9 (nxS s (i:Int) 0) (.agg #[.int .i64 a9,.int .i64 b9,.int .i64 c9,.slice L9 ln9 lc9,.slice I9 iN9 ic9])) :
  ∃ (b o j:Nat) (ka:Int),L9=some ⟨b,o,none⟩∧w9.cell? ⟨b,o+j*4,none⟩=some (.int .i64 ((i:Int)+1))∧Zy w9 (some ⟨b,o,none⟩) ln9 lc9 (nxS s (i:Int) 0).log∧ka=min s.acked 1∧(ln9:Int)=min ((ln:Int)+1) (32+ka)∧ln9=j+1∧(ln≤33∧ln9≤33)∧(0≤s.acked∧s.acked≤1073741825):=by
 obtain ⟨hlen,l9,x9,hl9,hx9⟩:=h.log hi
 have h33:=(h.sent hi).full.ln
 obtain ⟨hL,_,_⟩:=ZfQ hS
 obtain ⟨hL9,_,_⟩:=ZfQ hS9
 have h32:=h.full.ln
 have hk1:=h.full.ak
 have hk2:=h.full.acked_lt
 have hk3:=h.full.nx
 generalize (nxS s (i:Int) 0).log=l at hlen hl9 h33 hL9 ⊢
 subst hl9
 obtain ⟨b9,o9,_,_,_,rfl,⟨k0,_⟩,_⟩:=hL9.at_ l9.length x9 (by simp)
 have e1:=hL.len
 have e2:=hL9.len
 rw [←e2,←e1] at hlen
 rw [←e2] at h33
 rw [←e1] at h32
 rw [hx9] at k0
 rw [List.length_append] at e2
 refine ⟨b9,o9,l9.length,min s.acked 1,rfl,k0,hL9,rfl,hlen,e2,⟨h32,h33⟩,hk1,by omega⟩
theorem Zr0 {i n nI:Nat} {s:Snd} {w4 w5:World} {q:Nat} {L9 I9 LA IA:Option Addr} {lc9 ic9 ln lc iN ic:Nat} (h:ZP i s) (hi:i≤1000000) (hS9:ZA w4 (nxS s (i:Int) 0) (.agg #[.int .i64 2,.int .i64 ((i:Int)+2),.int .i64 s.acked,.slice L9 n lc9,.slice I9 nI ic9])) (hq:w4.heap[q]?=some (Y4 2 ((i:Int)+1) s.acked (.slice LA ln lc) (.slice IA iN ic))) (hk:∀ b,b<w4.heap.size→b≠q→w5.heap[b]?=w4.heap[b]?) :
  ∃ s1,ZP (i+1) s1∧(s1.next=(i:Int)+2∧s1.acked=s.acked)∧ZA w5 s1 (.agg #[.int .i64 2,.int .i64 ((i:Int)+2),.int .i64 s.acked,.slice L9 n lc9,.slice I9 nI ic9])∧(n=s1.log.length∧nI=s1.items.length)∧Zy w5 L9 n lc9 s1.log∧ZG 3 It.ints w5 I9 nI s1.items:=by
 have h':=h.sent hi
 have hb:ZA w5 (nxS s (i:Int) 0) (.agg #[.int .i64 2,.int .i64 ((i:Int)+2),.int .i64 s.acked,.slice L9 n lc9,.slice I9 nI ic9]):=h.inBox h' (Int.le_refl _) h.nx rfl hS9 hq hk
 obtain ⟨hL,hI,_⟩:=ZfQ hb
 exact ⟨nxS s (i:Int) 0,h',⟨by have:=h'.nx;omega,rfl⟩,hb,⟨hL.len,hI.len⟩,hL,hI⟩
theorem ZfV {W:World} {q:Nat} (h:W.heap[q]?=some (Y4 0 0 0 (.slice none 0 0) (.slice none 0 0))):Zq W q:=Zco h (fun u hu=>by
 simp only [List.mem_cons,List.not_mem_nil,or_false] at hu
 rcases hu with rfl|rfl|rfl|rfl|rfl
 ·exact .inl rfl
 ·exact .inl rfl
 ·exact .inl rfl
 ·exact .inr rfl
 ·exact .inr rfl)
theorem Tq26 {p:Prop} (h:p:=by
 go_wp2_with fail
 go_roundg (m-(i+1))
 case measure=>have:=HI.out.1;have:=HI.out.2.1;omega
 case rel=>
  refine ⟨i+1,s1,(some ⟨b9,o9,none⟩),j9+1,lc9,I9,iN9,ic9,by have:=HI.out.1;have:=HI.out.2.1;omega,by go_num,H1.out.1,?_,?_,(Ze HW5.out HW8.out)⟩
  rotate_left
  ·rw [show (((i+1:Nat):Int)+1)=(i:Int)+2 from by omega,H1.out.2.1.2];exact (H1.out.2.2.1.below HW8.out)
  ·rw [show (((i+1:Nat):Int)+1)=(i:Int)+2 from by omega,H1.out.2.1.2];exact HQ8.out):p:=h
theorem Tq5 {p:Prop} (h:p:=by
 refine Zi 9 rfl (fun K hK=>?_)
 have hq:=HQN.out
 have y0:v73.cell? ⟨q9,0,none⟩=some (.int .i64 0):=Za hq 0 _ rfl
 have y1:v73.cell? ⟨q9,1,none⟩=some (.int .i64 0):=Za hq 1 _ rfl
 have y2:v73.cell? ⟨q9,2,none⟩=some (.int .i64 0):=Za hq 2 _ rfl
 have y3:v73.cell? ⟨q9,3,none⟩=some (.slice none 0 0):=Za hq 3 _ rfl
 have y4:v73.cell? ⟨q9,4,none⟩=some (.slice none 0 0):=Za hq 4 _ rfl
 have y5:=Zd hq 0
 have y6:=Zd hq 1
 have y7:=Zd hq 2
 have y8:=Zd hq 3
 have y9:=Zd hq 4
 clear hq
 go_simp
 clear y0 y1 y2 y3 y4 y5 y6 y7 y8 y9
 refine hK _ _ ?_;clear hK K
 refine ⟨Or.inl (by kernel_rfl),?_⟩
 refine tkq 10 rfl ?_
 refine tkq 11 rfl ?_
 refine ZX (by kernel_rfl) ?_ _
 try clear HC
 go_wp2_with fail
 go_meet
 exact ⟨q9,L9,ln9,lc9,I9,iN9,ic9,PA,pn,pc,rfl,rfl,rfl,Yk _ _ _ _ _ HQN.out,ZA.keepQ HS9.out (QJ.2 (HSL.out.sent (by have:=HI.out;omega)).full) (ZfV HQN.out) (fun b _ hb=>Xn _ _ _ _ _ _ _ hb),HP.out,Qv.out,Yl _ _ _ _ _ HB.out Qv.out⟩):p:=h
theorem Tq93 {p:Prop} (h:p:=by
 rintro e v73 ⟨L9,I9,PA,ln9,lc9,iN9,ic9,pn,pc,rfl,hS9,hp1,hp2,hbN⟩
 have HS9:=Qh hS9
 have HP:=Qh (Qi hp1 hp2)
 have HB:=Qh (Ze HB.out hbN)
 have HQN:=Qh ((hbN.block _ (lt_of_block HQN.out)).trans HQN.out)
 clear hS9 hp1 hp2 hbN
 refine hK _ _ ?_;clear hK K
 refine ⟨Or.inl (by kernel_rfl),?_⟩
 refine tkq 4 rfl ?_
 refine tkq 5 rfl ?_
 refine tkq 6 rfl ?_
 refine tkq 7 rfl ?_
 exact Tq5):p:=h
set_option maxRecDepth 100000 in
set_option maxHeartbeats 8000000 in
theorem slogs_ok (A:Option Addr) (n c:Nat) (f:Nat→Nat) (w:World) (hT:Tabs w) (hf:∀ i,f i<256) (hn:n≤c∧c≤9223372036854775807) (hz:A=none→n=0∧c=0) (hr:Z8 w A n f) :
  Calls Tryz.prog 4 #[.slice A n c] w fun e w'=>e=.returned (.bool true)∧Below w.heap.size w w':=by
 have hmx:Tryz.prog.follows .mixedOrders=true:=by kernel_rfl
 obtain ⟨m,em⟩:∃ m,m=min n 80:=⟨_,rfl⟩
 have HM:=Qh (show m≤n∧m≤80 from by omega)
 have HT:=Qh hT
 have HR:=Qh (Qi hf hr)
 have F0:=Ziz 2 w
 rw [show JR 2=.tuple #[.agg #[.int .i64 2,.int .i64 1,.int .i64 0,.slice none 0 0,.slice none 0 0],.int .i64 0] from by unfold JR;rw [if_neg (by decide)]] at F0
 have m1:min (n:Int) 80=(m:Int):=by omega
 have m2:(if (80:Int)<(n:Int) then (80:Int) else (n:Int))=(m:Int):=by split<;>omega
 have m3:(m:Int)≤(c:Int):=by have:=HM.out;omega
 have m4:(0:Int)≤(m:Int):=by omega
 have m5:m≤c:=by have:=HM.out;omega
 have HC:=Qh (Qi hn hz)
 clear hT hf hn hz hr em
 go_enter Tryz.func4,Tryz.ntmps4
 go_upto_region 2 with (go_at_call 11;refine F0.mono ?_;rintro e w1 ⟨rfl,hb1⟩;have H1:=Qh hb1;clear hb1 F0)
 obtain ⟨w2,q1,ex,eq,hbx,hq⟩:=nm1 w1 (Y4 2 1 0 (.slice none 0 0) (.slice none 0 0))
 rw [←ex,←eq]
 have HQL:=Qh (show w.heap.size≤q1 from by rw [eq];exact H1.out.size)
 clear ex eq
 have HW2:=Qh (Ze H1.out hbx)
 have HQ2:=Qh hq
 have HS0:=Qh (show ZA w2 aS0 (.agg #[.int .i64 2,.int .i64 1,.int .i64 0,.slice none 0 0,.slice none 0 0]) from ZjJ w2)
 clear hq hbx
 go_upto_region 4 with fail
 go_wp2_with fail
 clear m1 m2 m3 m4 m5
 go_loopg [28] m (fun gh iv wr=>∃ (i:Nat) (s:Snd) (LA:Option Addr) (ln lc:Nat) (IA:Option Addr) (iN ic:Nat),gh+i=m∧iv=.int .i64 (i:Nat)∧ZP i s∧wr.heap[q1]?=some (Y4 2 ((i:Int)+1) s.acked (.slice LA ln lc) (.slice IA iN ic))∧ZA wr s (.agg #[.int .i64 2,.int .i64 ((i:Int)+1),.int .i64 s.acked,.slice LA ln lc,.slice IA iN ic])∧Below w.heap.size w wr)
 case atStart=>exact ⟨0,aS0,none,0,0,none,0,0,by omega,rfl,ZP.start,HQ2.out,HS0.out,HW2.out⟩
 case round=>
  obtain ⟨i,s,LA,ln,lc,IA,iN,ic,hg,rfl,hSL,hq,hS,hW⟩:=hrel
  obtain ⟨w3,eW⟩:∃ V,V=wr:=⟨_,rfl⟩
  rw [←eW] at hq hS hW ⊢
  clear eW
  have hm:=HM.out
  by_cases hlt:i<m
  ·obtain ⟨ad,rfl,c0⟩:=(HR.out.2.keepd hW) i (by omega)
   obtain ⟨a,ea,Zka⟩:∃ a,a=f i∧a<256:=⟨_,rfl,HR.out.1 i⟩
   rw [←ea] at c0
   have HA:=Qh Zka
   clear ea Zka
   have i0:(0:Int)≤(i:Int):=by omega
   have i1:(i:Int)<(m:Int):=by omega
   have i2:decide (i<m)=true:=decide_eq_true hlt
   have HW3:=Qh hW
   have HQ3:=Qh hq
   have HS3:=Qh hS
   have HSL:=Qh hSL
   have HI:=Qh (Qi hlt (Qi hg (show i≤80 from by omega)))
   clear hg hSL hq hS hW hm hlt
   go_upto_region 7 with fail
   clear c0 i1 i2
   go_cut [7,8,9] (fun v7 v8 v9 wx=>∃ (q9:Nat) (L9:Option Addr) (ln9 lc9:Nat) (I9:Option Addr) (iN9 ic9:Nat) (PA:Option Addr) (pn pc:Nat),v7=.pointer (some ⟨q9,0,none⟩)∧v8=.slice PA pn pc∧v9=.int .i64 0∧wx.heap[q9]?=some (Y4 2 ((i:Int)+2) s.acked (.slice L9 ln9 lc9) (.slice I9 iN9 ic9))∧ZA wx (nxS s (i:Int) 0) (.agg #[.int .i64 2,.int .i64 ((i:Int)+2),.int .i64 s.acked,.slice L9 ln9 lc9,.slice I9 iN9 ic9])∧(8≤pn∧pn≤1200)∧w3.heap.size≤q9∧Below w3.heap.size w3 wx)
   case first=>
    obtain ⟨wd7,ed⟩:∃ W,W=w3.drew:=⟨_,rfl⟩
    have hbd:Below w3.heap.size w3 wd7:=by rw [ed];exact (Below.refl _ _).drew
    have HC:wd7.cell? ⟨q1,0,none⟩=some (.int .i64 2)∧wd7.cell? ⟨q1,1,none⟩=some (.int .i64 ((i:Int)+1))∧wd7.cell? ⟨q1,2,none⟩=some (.int .i64 s.acked)∧wd7.cell? ⟨q1,3,none⟩=some (.slice LA ln lc)∧wd7.cell? ⟨q1,4,none⟩=some (.slice IA iN ic):=⟨Za ((hbd.block _ (lt_of_block HQ3.out)).trans HQ3.out) 0 _ rfl,Za ((hbd.block _ (lt_of_block HQ3.out)).trans HQ3.out) 1 _ rfl,Za ((hbd.block _ (lt_of_block HQ3.out)).trans HQ3.out) 2 _ rfl,Za ((hbd.block _ (lt_of_block HQ3.out)).trans HQ3.out) 3 _ rfl,Za ((hbd.block _ (lt_of_block HQ3.out)).trans HQ3.out) 4 _ rfl⟩
    have HB:=Qh hbd
    have HD:=Qh ed
    clear hbd ed
    refine Yy (fun W=>W.cell? ⟨q1,0,none⟩=some (.int .i64 2)∧W.cell? ⟨q1,1,none⟩=some (.int .i64 ((i:Int)+1))∧W.cell? ⟨q1,2,none⟩=some (.int .i64 s.acked)∧W.cell? ⟨q1,3,none⟩=some (.slice LA ln lc)∧W.cell? ⟨q1,4,none⟩=some (.slice IA iN ic)) 3 hmx ?_
    change Zz _ _ _ _ _ _ _ _ _ (World.drew _)
    rw [←HD.out]
    refine tkp 1 rfl (Or.inr HC) ?_
    refine tkl 0 rfl HC (by intro W ⟨hC0,hC1,hC2,hC3,hC4⟩;go_simp;try with_reducible rfl) ?_
    refine Jf (j:=2) (k:=8) (by kernel_rfl) ?_ ?_
    ·refine wpOp_step rfl (fun K hK=>?_)
     go_simp
     refine (ZbP (i:Nat) 0 wd7).mono ?_
     rintro e v71 ⟨sb,rfl,hA,hbN⟩
     have HA:=Qh hA
     have HC:=cr5 hbN HC
     have HB:=Qh (Ze HB.out hbN)
     clear hA hbN
     refine hK _ _ ?_;clear hK K
     refine ⟨Or.inr HC,?_⟩
     refine Jf (j:=3) (k:=8) (by kernel_rfl) ?_ ?_
     ·refine wpOp_step rfl (fun K hK=>?_)
      go_simp
      refine (ZfU (i:=i) (s:=s) (HT.out.below (Ze HW3.out HB.out)) (HS3.out.below HB.out) HA.out HSL.out (by have:=HI.out;omega)).mono ?_
      rintro e v72 ⟨L9,I9,PA,ln9,lc9,iN9,ic9,pn,pc,rfl,hS9,hp1,hp2,hbN⟩
      have HS9:=Qh hS9
      have HP:=Qh (Qi hp1 hp2)
      have HB:=Qh (Ze HB.out hbN)
      clear hS9 hp1 hp2 hbN
      refine hK _ _ ?_;clear hK K
      refine ⟨Or.inl (by kernel_rfl),?_⟩
      refine tkq 4 rfl ?_
      refine tkq 5 rfl ?_
      refine tkq 6 rfl ?_
      refine tkq 7 rfl ?_
      refine Zi 8 rfl (fun K hK=>?_)
      go_simp
      obtain ⟨v73,q9,e9,el,hbN,hlN⟩:=nm1 v72 (Y4 0 0 0 (.slice none 0 0) (.slice none 0 0))
      have hq0:w3.heap.size≤q9:=by rw [el];exact HB.out.size
      have HS9:=Qh (HS9.out.below hbN)
      have HB:=Qh (Ze HB.out hbN)
      have HQN:=Qh hlN
      have Qv:=Qh hq0
      clear hbN hlN hq0
      refine hK _ _ ?_;clear hK K
      rw [←e9,←el]
      clear e9 el
      refine ⟨Or.inl (by kernel_rfl),?_⟩
      exact Tq5
     ·refine wpOp_step rfl (fun K hK=>?_)
      go_simp
      obtain ⟨v72,q9,e9,el,hbN,hlN⟩:=nm1 v71 (Y4 0 0 0 (.slice none 0 0) (.slice none 0 0))
      have hq0:w3.heap.size≤q9:=by rw [el];exact HB.out.size
      have HAB:=Qh hbN
      have HC:=cr5 hbN HC
      have HB:=Qh (Ze HB.out hbN)
      have HQN:=Qh hlN
      have Qv:=Qh hq0
      clear hbN hlN hq0
      refine hK _ _ ?_;clear hK K
      rw [←e9,←el]
      clear e9 el
      refine ⟨Or.inr HC,?_⟩
      refine Zi 3 rfl (fun K hK=>?_)
      go_simp
      refine (ZfU (i:=i) (s:=s) (HT.out.below (Ze HW3.out HB.out)) (HS3.out.below HB.out) (HA.out.below HAB.out) HSL.out (by have:=HI.out;omega)).mono ?_
      exact Tq93
    ·refine wpOp_step rfl (fun K hK=>?_)
     go_simp
     obtain ⟨v71,q9,e9,el,hbN,hlN⟩:=nm1 wd7 (Y4 0 0 0 (.slice none 0 0) (.slice none 0 0))
     have hq0:w3.heap.size≤q9:=by rw [el];exact HB.out.size
     have HC:=cr5 hbN HC
     have HB:=Qh (Ze HB.out hbN)
     have HQN:=Qh hlN
     have Qv:=Qh hq0
     clear hbN hlN hq0
     refine hK _ _ ?_;clear hK K
     rw [←e9,←el]
     clear e9 el
     refine ⟨Or.inr HC,?_⟩
     refine Zi 2 rfl (fun K hK=>?_)
     go_simp
     refine (ZbP (i:Nat) 0 v71).mono ?_
     rintro e v72 ⟨sb,rfl,hA,hbN⟩
     have HA:=Qh hA
     have HC:=cr5 hbN HC
     have HB:=Qh (Ze HB.out hbN)
     have HQN:=Qh ((hbN.block _ (lt_of_block HQN.out)).trans HQN.out)
     clear hA hbN
     refine hK _ _ ?_;clear hK K
     refine ⟨Or.inr HC,?_⟩
     refine Zi 3 rfl (fun K hK=>?_)
     go_simp
     refine (ZfU (i:=i) (s:=s) (HT.out.below (Ze HW3.out HB.out)) (HS3.out.below HB.out) HA.out HSL.out (by have:=HI.out;omega)).mono ?_
     exact Tq93
   case rest=>
   obtain ⟨q9,L9,ln9,lc9,I9,iN9,ic9,PA,pn,pc,rfl,rfl,rfl,hq9,hS9,hp,hql,hb⟩:=hcut
   obtain ⟨w4,eW⟩:∃ V,V=wc:=⟨_,rfl⟩
   rw [←eW] at hq9 hS9 hb ⊢
   clear eW
   have hq1:=(hb.block _ (lt_of_block HQ3.out)).trans HQ3.out
   obtain ⟨b9,o9,j9,ka,rfl,k0,hL9,eka,hlen,Zr1,ZdZ,hak⟩:=ZrZ HSL.out (by have:=HI.out;omega) HS3.out hS9
   subst Zr1
   have f0:w4.cell? ⟨q9,0,none⟩=some (.int .i64 2):=Za hq9 0 _ rfl
   have f1:w4.cell? ⟨q9,1,none⟩=some (.int .i64 ((i:Int)+2)):=Za hq9 1 _ rfl
   have f2:w4.cell? ⟨q9,2,none⟩=some (.int .i64 s.acked):=Za hq9 2 _ rfl
   have f3:w4.cell? ⟨q9,3,none⟩=some (.slice (some ⟨b9,o9,none⟩) (j9+1) lc9):=Za hq9 3 _ rfl
   have f4:w4.cell? ⟨q9,4,none⟩=some (.slice I9 iN9 ic9):=Za hq9 4 _ rfl
   have g0:w4.cell? ⟨q1,0,none⟩=some (.int .i64 2):=Za hq1 0 _ rfl
   have g1:w4.cell? ⟨q1,1,none⟩=some (.int .i64 ((i:Int)+1)):=Za hq1 1 _ rfl
   have g2:w4.cell? ⟨q1,2,none⟩=some (.int .i64 s.acked):=Za hq1 2 _ rfl
   have g3:w4.cell? ⟨q1,3,none⟩=some (.slice LA ln lc):=Za hq1 3 _ rfl
   have g4:w4.cell? ⟨q1,4,none⟩=some (.slice IA iN ic):=Za hq1 4 _ rfl
   have y0:=Zd hq1 0
   have y1:=Zd hq1 1
   have y2:=Zd hq1 2
   have y3:=Zd hq1 3
   have y4:=Zd hq1 4
   have HW4:=Qh (Qi (Ze HW3.out hb) hb)
   have HQ4:=Qh (Qi hq1 (Qi hq9 hql))
   have HS4:=Qh (Qi hS9 hL9)
   have HL:=Qh ZdZ
   have v0:(i:Int)≤80:=by have:=HI.out.2.2;omega
   have v1:(ln:Int)≤33:=by omega
   have v2:(j9:Int)≤32:=by omega
   have v3:0≤ka:=by omega
   have v4:ka≤1:=by omega
   have n1:min s.acked 1=ka:=eka.symm
   have n3:(if 1<s.acked then (1:Int) else s.acked)=ka:=by rw [eka];split<;>omega
   have n2:min ((ln:Int)+1) (32+ka)=(j9:Int)+1:=by omega
   have n4:(if 32+ka<(ln:Int)+1 then 32+ka else (ln:Int)+1)=(j9:Int)+1:=by split<;>omega
   have b1:(((i:Int)+2) != ((i:Int)+1+1))=false:=by simp;omega
   have b4:decide ((pn:Int)<8)=false:=decide_eq_false (by omega)
   have x0:(0:Int)≤(j9:Int):=by omega
   clear hq9 hS9 hb hq1 hlen hL9 hp hql eka hak ZdZ
   go_upto_region 11 with fail
   obtain ⟨w5,ex,e5⟩:=nm5 w4 q1 (.int .i64 2) (.int .i64 ((i:Int)+2)) (.int .i64 s.acked) (.slice (some ⟨b9,o9,none⟩) (j9+1) lc9) (.slice I9 iN9 ic9)
   rw [←ex]
   clear ex f0 f1 f2 f3 f4 g0 g1 g2 g3 g4 y0 y1 y2 y3 y4 n1 n2 n3 n4 b1 b4 k0 x0 v1 v3 v4
   have hk5:∀ b,b<w4.heap.size→b≠q1→w5.heap[b]?=w4.heap[b]?:=fun b _ hne=>by rw [e5];exact Xn _ _ _ _ _ _ _ hne
   have HQ5:=Qh (show w5.heap[q1]?=some (Y4 2 ( ((i:Int)+2)) ( s.acked) (.slice (some ⟨b9,o9,none⟩) (j9+1) lc9) (.slice I9 iN9 ic9)) from by rw [e5];exact Yk _ _ _ _ _ HQ4.out.1)
   have HW5:=Qh (show Below w.heap.size w w5 from by rw [e5];exact Yl _ _ _ _ _ HW4.out.1 HQL.out)
   obtain ⟨s1,h1⟩:=Zr0 HSL.out (by have:=HI.out;omega) HS4.out.1 HQ4.out.1 hk5
   have H1:=Qh h1
   clear h1 hk5 e5
   have a0:(0:Int)≤(a:Int):=by omega
   have a1:(a:Int)<256:=by have:=HA.out;omega
   go_upto_region 13 with fail
   clear a0 a1
   obtain ⟨k,ek⟩:∃ k:Int,k=(i:Int)+3-(a:Int) % 40:=⟨_,rfl⟩
   rw [←ek]
   clear ek
   have r3:w5.cell? ⟨q1,3,none⟩=some (.slice (some ⟨b9,o9,none⟩) (j9+1) lc9):=Za HQ5.out 3 _ rfl
   go_wp2_with fail
   clear r3 v0
   go_loopg [109,11] (j9+1) (fun gh iv kv wr=>∃ j:Nat,gh+j=j9+1∧iv=.int .i64 (j:Nat)∧kv=.bool (Q3 s1.log k j)∧Below w5.heap.size w5 wr)
   case atStart=>exact ⟨0,rfl,rfl,by rw [ZrE],Below.refl _ _⟩
   case round=>
    obtain ⟨j,hg,rfl,rfl,hW⟩:=hrel
    obtain ⟨w6,eW⟩:∃ V,V=wr:=⟨_,rfl⟩
    rw [←eW] at hW ⊢
    clear eW
    by_cases hlt:j<j9+1
    ·obtain ⟨x,hx⟩:∃ x,s1.log[j]?=some x:=⟨_,List.getElem?_eq_getElem (by have:=H1.out.2.2.2.1.1;omega)⟩
     obtain ⟨b',o',CA,cn,cc,e,⟨c0,c1,c2,c3⟩,_⟩:=(H1.out.2.2.2.2.1.below hW).at_ j x hx
     injection e with e
     injection e with e1 e2
     subst e1 e2
     have i0:(0:Int)≤(j:Int):=by omega
     have i1:(j:Int)<(j9:Int)+1:=by omega
     have i2:decide (j<j9+1)=true:=decide_eq_true hlt
     have HX:=Qh (Qi hlt (Qi hg (Qi hW hx)))
     have HK:=Qh (ZrF (k:=k) hx)
     clear hlt hg hW hx
     rcases hK:Q3 s1.log k j with _ | _
     ·rcases hxk:(x.num==k) with _ | _
      ·go_wp2_with fail
       go_roundg (j9+1-(j+1))
       case measure=>have:=HX.out.1;have:=HX.out.2.1;omega
       case rel=>exact ⟨j+1,by have:=HX.out.1;omega,by go_num,by rw [HK.out,hK,decide_eq_false (by simpa using hxk)];rfl,Ze HX.out.2.2.1 (Zg w6 _)⟩
      ·go_wp2_with fail
       go_roundg (j9+1-(j+1))
       case measure=>have:=HX.out.1;have:=HX.out.2.1;omega
       case rel=>exact ⟨j+1,by have:=HX.out.1;omega,by go_num,by rw [HK.out,hK,decide_eq_true (by simpa using hxk)];rfl,Ze HX.out.2.2.1 (Zg w6 _)⟩
     ·go_wp2_with fail
      go_roundg (j9+1-(j+1))
      case measure=>have:=HX.out.1;have:=HX.out.2.1;omega
      case rel=>exact ⟨j+1,by have:=HX.out.1;omega,by go_num,by rw [HK.out,hK];rfl,Ze HX.out.2.2.1 (Zg w6 _)⟩
    ·have i2:decide (j<j9+1)=false:=decide_eq_false hlt
     have i3:decide ((j:Int)<(j9:Int)+1)=false:=decide_eq_false (by omega)
     have i4:¬ (j:Int)<(j9:Int)+1:=by omega
     have hj:j=s1.log.length:=by have:=H1.out.2.2.2.1.1;omega
     have HX:=Qh hW
     have HJ:=Qh hj
     clear hlt hg hW hj
     have HQ6:=Qh ((HX.out.block _ (lt_of_block HQ5.out)).trans HQ5.out)
     have HS6:=Qh (H1.out.2.2.1.below HX.out)
     have HT6:=Qh (HT.out.below (Ze HW5.out HX.out))
     have r0:w6.cell? ⟨q1,0,none⟩=some (.int .i64 2):=Za HQ6.out 0 _ rfl
     have r1:w6.cell? ⟨q1,1,none⟩=some (.int .i64 ((i:Int)+2)):=Za HQ6.out 1 _ rfl
     have r2:w6.cell? ⟨q1,2,none⟩=some (.int .i64 s.acked):=Za HQ6.out 2 _ rfl
     have r3:w6.cell? ⟨q1,3,none⟩=some (.slice (some ⟨b9,o9,none⟩) (j9+1) lc9):=Za HQ6.out 3 _ rfl
     have r4:w6.cell? ⟨q1,4,none⟩=some (.slice I9 iN9 ic9):=Za HQ6.out 4 _ rfl
     by_cases hka:k≤s.acked
     ·have t1:decide (k≤s.acked)=true:=decide_eq_true hka
      have FA:=ZrG (k:=k) H1.out.2.1.1 H1.out.2.1.2 HT6.out HS6.out H1.out.1 (by rw [H1.out.2.1.2];exact hka) H1.out.2.2.2.1.1 H1.out.2.2.2.1.2
      go_upto_region 23 with (go_at_call 17;refine FA.mono ?_;rintro e w7 ⟨LA7,IA7,lc7,ic7,rfl,hS7,hb7⟩;have H7:=Qh (Qi hS7 hb7);clear FA hS7 hb7)
      obtain ⟨w8,q14,ex,eq,hbx,hq⟩:=nm1 w7 (Y4 ( 2) ( ((i:Int)+2)) ( s.acked) (.slice LA7 (j9+1) lc7) (.slice IA7 iN9 ic7))
      rw [←ex,←eq]
      clear ex eq r0 r1 r2 r3 r4
      have HB8:=Qh hbx
      have QL:=Qh hq
      clear hbx hq
      have v0:(i:Int)≤80:=by have:=HI.out.2.2;omega
      have HW8:=Qh (show Below w5.heap.size w5 w8 from Ze HX.out (Ze H7.out.2 HB8.out))
      have HQ8:=Qh ((HW8.out.block _ (lt_of_block HQ5.out)).trans HQ5.out)
      have r2:w8.cell? ⟨q1,2,none⟩=some (.int .i64 s.acked):=Za HQ8.out 2 _ rfl
      go_upto_region 24 with fail
      clear r2 t1
      go_cut [174] (fun v wx=>v=.bool false∧Below w8.heap.size w8 wx)
      case first=>
       obtain ⟨Jj,ed⟩:∃ W,W=w8.drew:=⟨_,rfl⟩
       have hbd:Below w8.heap.size w8 Jj:=by rw [ed];exact (Below.refl _ _).drew
       have HC:Jj.cell? ⟨q14,0,none⟩=some (.int .i64 2)∧Jj.cell? ⟨q14,1,none⟩=some (.int .i64 ((i:Int)+2))∧Jj.cell? ⟨q14,2,none⟩=some (.int .i64 s.acked)∧Jj.cell? ⟨q14,3,none⟩=some (.slice LA7 (j9+1) lc7)∧Jj.cell? ⟨q14,4,none⟩=some (.slice IA7 iN9 ic7)∧Jj.cell? ⟨q1,0,none⟩=some (.int .i64 2)∧Jj.cell? ⟨q1,1,none⟩=some (.int .i64 ((i:Int)+2))∧Jj.cell? ⟨q1,2,none⟩=some (.int .i64 s.acked)∧Jj.cell? ⟨q1,3,none⟩=some (.slice (some ⟨b9,o9,none⟩) (j9+1) lc9)∧Jj.cell? ⟨q1,4,none⟩=some (.slice I9 iN9 ic9):=⟨Za ((hbd.block _ (lt_of_block QL.out)).trans QL.out) 0 _ rfl,Za ((hbd.block _ (lt_of_block QL.out)).trans QL.out) 1 _ rfl,Za ((hbd.block _ (lt_of_block QL.out)).trans QL.out) 2 _ rfl,Za ((hbd.block _ (lt_of_block QL.out)).trans QL.out) 3 _ rfl,Za ((hbd.block _ (lt_of_block QL.out)).trans QL.out) 4 _ rfl,Za ((hbd.block _ (lt_of_block HQ8.out)).trans HQ8.out) 0 _ rfl,Za ((hbd.block _ (lt_of_block HQ8.out)).trans HQ8.out) 1 _ rfl,Za ((hbd.block _ (lt_of_block HQ8.out)).trans HQ8.out) 2 _ rfl,Za ((hbd.block _ (lt_of_block HQ8.out)).trans HQ8.out) 3 _ rfl,Za ((hbd.block _ (lt_of_block HQ8.out)).trans HQ8.out) 4 _ rfl⟩
       have HB:=Qh hbd
       have HD:=Qh ed
       clear hbd ed
       refine Yy (fun W=>W.cell? ⟨q14,0,none⟩=some (.int .i64 2)∧W.cell? ⟨q14,1,none⟩=some (.int .i64 ((i:Int)+2))∧W.cell? ⟨q14,2,none⟩=some (.int .i64 s.acked)∧W.cell? ⟨q14,3,none⟩=some (.slice LA7 (j9+1) lc7)∧W.cell? ⟨q14,4,none⟩=some (.slice IA7 iN9 ic7)∧W.cell? ⟨q1,0,none⟩=some (.int .i64 2)∧W.cell? ⟨q1,1,none⟩=some (.int .i64 ((i:Int)+2))∧W.cell? ⟨q1,2,none⟩=some (.int .i64 s.acked)∧W.cell? ⟨q1,3,none⟩=some (.slice (some ⟨b9,o9,none⟩) (j9+1) lc9)∧W.cell? ⟨q1,4,none⟩=some (.slice I9 iN9 ic9)) 6 hmx ?_
       change Zz _ _ _ _ _ _ _ _ _ (World.drew _)
       rw [←HD.out]
       refine tkp 0 rfl (Or.inr HC) ?_
       refine tkp 1 rfl (Or.inr HC) ?_
       refine tkp 2 rfl (Or.inr HC) ?_
       refine tkl 3 rfl HC (by intro W ⟨hC0,hC1,hC2,hC3,hC4,hC5,hC6,hC7,hC8,hC9⟩;go_simp;try with_reducible rfl) ?_
       refine tkl 4 rfl HC (by intro W ⟨hC0,hC1,hC2,hC3,hC4,hC5,hC6,hC7,hC8,hC9⟩;go_simp;try with_reducible rfl) ?_
       refine Zi 5 rfl (fun K hK=>?_)
       go_simp
       refine (ZrJ (m:=i+1) H1.out.1 (H1.out.2.2.2.2.1.below (Ze HW8.out HB.out)) (H1.out.2.2.2.2.2.below (Ze HW8.out HB.out))).mono ?_
       rintro e Zr2 ⟨OA,QA,oc,qc,rfl,hO,hbN⟩
       have HO:=Qh hO
       have HC:=Zmu hbN HC
       have HB:=Qh (Ze HB.out hbN)
       clear hO hbN
       refine hK _ _ ?_;clear hK K
       refine ⟨Or.inr HC,?_⟩
       refine Zi 6 rfl (fun K hK=>?_)
       go_simp
       refine (ZrD 2 ((i:Int)+2) s.acked s1.log s1.items LA7 IA7 OA QA (j9+1) lc7 iN9 ic7 oc qc Zr2 ((H7.out.1.1.below HB8.out).below HB.out) ((H7.out.1.2.below HB8.out).below HB.out) HO.out.1 HO.out.2 (by rw [H1.out.2.2.2.1.2];exact H1.out.1.it_len)).mono ?_
       rintro e v242 ⟨rfl,hbN⟩
       have HB:=Qh (Ze HB.out hbN)
       clear hbN
       refine hK _ _ ?_;clear hK K
       refine ⟨Or.inl (by kernel_rfl),?_⟩
       refine tkq 7 rfl ?_
       refine tkq 8 rfl ?_
       exact Tq74
      case rest=>
      obtain ⟨rfl,hbx⟩:=hcut
      obtain ⟨w9,eW⟩:∃ V,V=wc:=⟨_,rfl⟩
      rw [←eW] at hbx ⊢
      clear eW
      have HX9:=Qh hbx
      clear hbx
      go_wp2_with fail
      go_roundg (m-(i+1))
      case measure=>have:=HI.out.1;have:=HI.out.2.1;omega
      case rel=>
       refine ⟨i+1,s1,(some ⟨b9,o9,none⟩),j9+1,lc9,I9,iN9,ic9,by have:=HI.out.1;have:=HI.out.2.1;omega,by go_num,H1.out.1,?_,?_,(Ze HW5.out (Ze HW8.out HX9.out))⟩
       rotate_left
       ·rw [show (((i+1:Nat):Int)+1)=(i:Int)+2 from by omega,H1.out.2.1.2];exact ((H1.out.2.2.1.below HW8.out).below HX9.out)
       ·rw [show (((i+1:Nat):Int)+1)=(i:Int)+2 from by omega,H1.out.2.1.2];exact ((HX9.out.block _ (lt_of_block HQ8.out)).trans HQ8.out)
     ·have t1:decide (k≤s.acked)=false:=decide_eq_false hka
      rcases hK:Q3 s1.log k j with _ | _
      ·have FA:=ZrH (k:=k) HT6.out HS6.out H1.out.1 (by rw [H1.out.2.1.2];omega) (by rw [←HJ.out];exact hK)
       go_upto_region 23 with (go_at_call 17;refine FA.mono ?_;rintro e w7 ⟨rfl,hb7⟩;have H7:=Qh (hb7);clear FA hb7)
       obtain ⟨w8,q14,ex,eq,hbx,hq⟩:=nm1 w7 (Y4 ( 0) ( 0) ( 0) (.slice none 0 0) (.slice none 0 0))
       rw [←ex,←eq]
       clear ex eq r0 r1 r2 r3 r4
       have HB8:=Qh hbx
       have QL:=Qh hq
       clear hbx hq
       have v0:(i:Int)≤80:=by have:=HI.out.2.2;omega
       have HW8:=Qh (show Below w5.heap.size w5 w8 from Ze HX.out (Ze H7.out HB8.out))
       have HQ8:=Qh ((HW8.out.block _ (lt_of_block HQ5.out)).trans HQ5.out)
       have r2:w8.cell? ⟨q1,2,none⟩=some (.int .i64 s.acked):=Za HQ8.out 2 _ rfl
       exact Tq26
      ·have FA:=ZrI (k:=k) H1.out.2.1.1 HT6.out HS6.out H1.out.1 (by rw [H1.out.2.1.2];omega) (by rw [←HJ.out];exact hK)
       go_upto_region 23 with (go_at_call 17;refine FA.mono ?_;rintro e w7 ⟨b7,o7,IA7,ln7,lc7,iN7,ic7,rfl,⟨hc7,hp7⟩,hS7,hs7,hb7⟩;have H7:=Qh (Qi (Qi hc7 hp7) (Qi hS7 (Qi hs7 hb7)));clear FA hc7 hp7 hS7 hs7 hb7)
       obtain ⟨w8,q14,ex,eq,hbx,hq⟩:=nm1 w7 (Y4 ( 2) ( ((i:Int)+2)) ( k) (.slice (some ⟨b7,o7,none⟩) ln7 lc7) (.slice IA7 iN7 ic7))
       rw [←ex,←eq]
       clear ex eq r0 r1 r2 r3 r4
       have HB8:=Qh hbx
       have QL:=Qh hq
       clear hbx hq
       have v0:(i:Int)≤80:=by have:=HI.out.2.2;omega
       have HW8:=Qh (show Below w5.heap.size w5 w8 from Ze HX.out (Ze H7.out.2.2.2 HB8.out))
       have HQ8:=Qh ((HW8.out.block _ (lt_of_block HQ5.out)).trans HQ5.out)
       have r0:w8.cell? ⟨q1,0,none⟩=some (.int .i64 2):=Za HQ8.out 0 _ rfl
       have r1:w8.cell? ⟨q1,1,none⟩=some (.int .i64 ((i:Int)+2)):=Za HQ8.out 1 _ rfl
       have r2:w8.cell? ⟨q1,2,none⟩=some (.int .i64 s.acked):=Za HQ8.out 2 _ rfl
       have r3:w8.cell? ⟨q1,3,none⟩=some (.slice (some ⟨b9,o9,none⟩) (j9+1) lc9):=Za HQ8.out 3 _ rfl
       have r4:w8.cell? ⟨q1,4,none⟩=some (.slice I9 iN9 ic9):=Za HQ8.out 4 _ rfl
       have d0:w8.cell? ⟨q14,0,none⟩=some (.int .i64 2):=Za QL.out 0 _ rfl
       have d1:w8.cell? ⟨q14,1,none⟩=some (.int .i64 ((i:Int)+2)):=Za QL.out 1 _ rfl
       have d2:w8.cell? ⟨q14,2,none⟩=some (.int .i64 k):=Za QL.out 2 _ rfl
       have d3:w8.cell? ⟨q14,3,none⟩=some (.slice (some ⟨b7,o7,none⟩) ln7 lc7):=Za QL.out 3 _ rfl
       have d4:w8.cell? ⟨q14,4,none⟩=some (.slice IA7 iN7 ic7):=Za QL.out 4 _ rfl
       have c7:w8.cell? ⟨b7,o7,none⟩=some (.int .i64 k):=(HB8.out.cell (Zc H7.out.1.1)).trans H7.out.1.1
       have p7:(0:Int)<(ln7:Int):=by have:=H7.out.1.2;omega
       have p8:0<ln7:=H7.out.1.2
       have p9:((ln7:Int)==0)=false:=by simp;omega
       go_upto_region 21 with fail
       clear c7 p7 p8 p9 t1
       have a0:(0:Int)≤(a:Int):=by omega
       have a1:(a:Int)<256:=by have:=HA.out;omega
       have y0:=Zd HQ8.out 0
       have y1:=Zd HQ8.out 1
       have y2:=Zd HQ8.out 2
       have y3:=Zd HQ8.out 3
       have y4:=Zd HQ8.out 4
       by_cases ha3:a % 3=0
       ·have m1:(a:Int) % 3=0:=by omega
        have m2:((a:Int) % 3==0)=true:=by simp [m1]
        go_upto_region 29 with fail
        clear m1 m2 a0 a1
        obtain ⟨w9,ex,e9⟩:=nm5 w8 q1 (.int .i64 2) (.int .i64 ((i:Int)+2)) (.int .i64 k) (.slice (some ⟨b7,o7,none⟩) ln7 lc7) (.slice IA7 iN7 ic7)
        rw [←ex]
        clear ex r0 r1 r2 r3 r4 d0 d1 d2 d3 d4 y0 y1 y2 y3 y4
        have hk9:∀ b,b<w8.heap.size→b≠q1→w9.heap[b]?=w8.heap[b]?:=fun b _ hne=>by rw [e9];exact Xn _ _ _ _ _ _ _ hne
        have HQ9:=Qh (show w9.heap[q1]?=some (Y4 2 ( ((i:Int)+2)) ( k) (.slice (some ⟨b7,o7,none⟩) ln7 lc7) (.slice IA7 iN7 ic7)) from by rw [e9];exact Yk _ _ _ _ _ HQ8.out)
        have HW9:=Qh (show Below w.heap.size w w9 from by rw [e9];exact Yl _ _ _ _ _ (Ze HW5.out HW8.out) HQL.out)
        have HS9:=Qh (H1.out.1.inBox H7.out.2.2.1 (by show s1.next≤s1.next+1;omega) H1.out.2.1.1 H1.out.2.1.2 (H7.out.2.1.below HB8.out) HQ8.out hk9)
        clear hk9 e9
        go_wp2_with fail
        go_roundg (m-(i+1))
        case measure=>have:=HI.out.1;have:=HI.out.2.1;omega
        case rel=>
         refine ⟨i+1,QG s1 k,(some ⟨b7,o7,none⟩),ln7,lc7,IA7,iN7,ic7,by have:=HI.out.1;have:=HI.out.2.1;omega,by go_num,H7.out.2.2.1,?_,?_,HW9.out⟩
         rotate_left
         ·rw [show (((i+1:Nat):Int)+1)=(i:Int)+2 from by omega,show (QG s1 k).acked=k from rfl];exact HS9.out
         ·rw [show (((i+1:Nat):Int)+1)=(i:Int)+2 from by omega,show (QG s1 k).acked=k from rfl];exact HQ9.out
       ·have m1:¬ (a:Int) % 3=0:=by omega
        have m2:((a:Int) % 3==0)=false:=by simp;omega
        exact Tq26
  ·have i2:decide (i<m)=false:=decide_eq_false hlt
   have HX:=Qh hW
   have FW:=ZrN w3 (HT.out.below hW)
   clear hg hSL hq hS hW hm hlt
   go_wp2_with (go_at_call 10;refine FW.mono ?_;rintro e w4 ⟨rfl,hb4⟩;have H4:=Qh hb4;clear hb4 FW)
   go_ret
   exact ⟨rfl,Ze HX.out H4.out⟩
end
end Go.Proofs.YtlgcfimhfmgkmaaGreatDoor
