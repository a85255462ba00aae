/- Lemmas for the statement. -/
import Derived.Test.YtlgcfimhfmgkmaaGreatDoorMBT
set_option linter.unusedVariables false
set_option linter.unusedSimpArgs false
set_option maxRecDepth 100000
set_option maxHeartbeats 8000000
namespace Go.Proofs.YtlgcfimhfmgkmaaGreatDoor
open Go.RowKit
section
theorem Zrv:(Tryz.prog.info? 135).map (fun i=>(i.zero,i.size,i.bytes))=some (some (.agg #[.int .i64 0,.int .i64 0,.int .i64 0]),3,24):=by kernel_rfl
theorem Zrw {fn:Func} {p:Tmp} (h:fn.results=#[.cell p 59]) (tmps:Array Value) (w:World) (g:Nat) (cs:Array Value) (hn:cs.size=5)
  (hp:tmps.getD p undef=.pointer (some ⟨g,0,none⟩)) (hg:w.heap[g]?=some (.cells cs 59 (0,0))) :
  (results fn tmps).run Tryz.prog w=.ok (.agg cs) w:=by
 have hp':tmps[p]?.getD undef=.pointer (some ⟨g,0,none⟩):=by simpa using hp
 have hi:(Tryz.prog.info? 59).map (·.size)=some cs.size:=by rw [hn];kernel_rfl
 have hl:=run_loadVar_row (P:=Tryz.prog) w g 59 59 cs (0,0) _ hg Tryz.underlying59 rfl hi
 simp [results,h,hp',asAddr,hl]
theorem Zrx (l:List It) (j:Nat) (x:It) (h:l[j]?=some x):ZM (l.take (j+1))=ZM (l.take j)++x.cells:=by
 rw [List.take_add_one,h]
 simp [ZM]
theorem Zry (x:It):∀ u∈x.cells,u.oneCell'=true:=by
 intro u hu
 simp only [It.cells,List.mem_cons,List.not_mem_nil,or_false] at hu
 rcases hu with rfl|rfl|rfl<;>rfl
theorem Zrz {w:World} {B:Nat} {v:Value} {l:List LR} (h:w.ownsRow B 222 4 v l.length (lrs l)) (hl:l.length≤1000000) (hr:∀ x,x∈l→Zj w x.A x.n x.c x.r.es):∃ A c,v=.slice A l.length c∧Zy w A l.length c (l.map LR.r):=by
 exact Tq16
theorem ZrA {w:World} {B:Nat} {v:Value} {l:List It} (h:w.ownsRow B 135 3 v l.length (ZM l)) (hl:l.length≤1000000):∃ A c,v=.slice A l.length c∧ZG 3 It.ints w A l.length l:=by
 exact Tq25
theorem Tq15 {p:Prop} (h:p:=by
 refine Zi 11 rfl (fun K hK=>?_)
 have hq:=HQ.out
 obtain ⟨y0,y1,y2,y3,y4⟩:=ce5 hq
 have y5:=Zd hq 0
 have y6:=Zd hq 1
 have y7:=Zd hq 2
 have y8:=Zd hq 3
 have y9:=Zd hq 4
 clear hq
 go_simp
 clear y0 y1 y2 y3 y4 y5 y6 y7 y8 y9
 refine hK _ _ ?_;clear hK K
 refine ⟨Or.inl (by kernel_rfl),?_⟩
 refine ZX (by kernel_rfl) ?_ _
 try clear HC
 go_wp2_with fail
 go_meet
 exact ⟨q,OA,oc,ls,_,rfl,HLS.out,Ses.objSet (i:=4) (.slice none 0 0) (Ses.objSet (i:=3) (.slice OA ls.length oc) (Ses.objSet (i:=2) (.int .i64 acked) (Ses.objSet (i:=1) (.int .i64 next) (Ses.objSet (i:=0) (.int .i64 cl) HS.out))))⟩):p:=h
theorem ZrB (cl next acked:Int) (log:List Rec) (items:List It) (LA IA:Option Addr) (ln lc iN ic:Nat) (w:World) (hL:Zy w LA ln lc log) (hI:ZG 3 It.ints w IA iN items) (hn:ln≤1000) (hs:ZjP log) (hi:iN≤1000) :
  Calls Tryz.prog 20 #[.agg #[.int .i64 cl,.int .i64 next,.int .i64 acked,.slice LA ln lc,.slice IA iN ic]] w fun e w'=>∃ (OA QA:Option Addr) (oc qc:Nat),e=.returned (.agg #[.int .i64 cl,.int .i64 next,.int .i64 acked,.slice OA log.length oc,.slice QA items.length qc])∧Zy w' OA log.length oc log∧ZG 3 It.ints w' QA items.length items∧Below w.heap.size w w':=by
 have hmx:Tryz.prog.follows .mixedOrders=true:=by kernel_rfl
 obtain ⟨w1,g,e1,eg,hg0,hg1,hb1⟩:∃ W q,W=(w.alloc (.cells #[.int .i64 cl,.int .i64 next,.int .i64 acked,.slice LA ln lc,.slice IA iN ic] 33 (0,0))).alloc (.cells #[.int .i64 0,.int .i64 0,.int .i64 0,.slice none 0 0,.slice none 0 0] 59 (0,0))∧q=w.heap.size∧W.heap[q]?=some (.cells #[.int .i64 cl,.int .i64 next,.int .i64 acked,.slice LA ln lc,.slice IA iN ic] 33 (0,0))∧W.heap[q+1]?=some (.cells #[.int .i64 0,.int .i64 0,.int .i64 0,.slice none 0 0,.slice none 0 0] 59 (0,0))∧Below w.heap.size w W:=⟨_,_,rfl,rfl,ZZ w _ _,Z0 w _ _,ZQ w _ _⟩
 obtain ⟨i9,hi9,hz0,hz1,hz2⟩:=info_parts Zrv
 have HI:=Qh (Qi hi9 (Qi hz0 (Qi hz1 hz2)))
 have H:=Qh (Qi hg0 (Qi hg1 hb1))
 have HL:=Qh (Qi (hL.below hb1) (Qi hn hs))
 have HN:=Qh (Qi (hI.below hb1) hi)
 have HGL:=Qh (show w.heap.size≤g+1 from by omega)
 have E1:=Qh (Qi e1 eg)
 clear hL hI hn hs hi hg0 hg1 hb1 e1 eg hi9 hz0 hz1 hz2
 go_enter Tryz.func20,Tryz.ntmps20
 go_upto_region 1 with fail
 rw [←E1.out.1,←E1.out.2]
 clear E1
 go_cut [3] (fun v wx=>∃ (q:Nat) (OA:Option Addr) (oc:Nat) (ls:List LR) (B:Nat),v=.pointer (some ⟨q,0,none⟩)∧ls.map LR.r=log∧Ses w1 wx (Zb q (.cells #[.int .i64 cl,.int .i64 next,.int .i64 acked,.slice OA ls.length oc,.slice none 0 0] 59 (0,0)) :: rowP B 222 4 ls.length (.slice OA ls.length oc) (lrs ls) :: ls.map lrP))
 case first=>
  obtain ⟨wd1,ed⟩:∃ W,W=w1.drew:=⟨_,rfl⟩
  have hbd:Below w1.heap.size w1 wd1:=by rw [ed];exact (Below.refl _ _).drew
  have HC:wd1.cell? ⟨g,0,none⟩=some (.int .i64 cl)∧wd1.cell? ⟨g,1,none⟩=some (.int .i64 next)∧wd1.cell? ⟨g,2,none⟩=some (.int .i64 acked)∧wd1.cell? ⟨g,3,none⟩=some (.slice LA ln lc):=⟨Za ((hbd.block _ (lt_of_block H.out.1)).trans H.out.1) 0 _ rfl,Za ((hbd.block _ (lt_of_block H.out.1)).trans H.out.1) 1 _ rfl,Za ((hbd.block _ (lt_of_block H.out.1)).trans H.out.1) 2 _ rfl,Za ((hbd.block _ (lt_of_block H.out.1)).trans H.out.1) 3 _ rfl⟩
  have HB:=Qh hbd
  have HD:=Qh ed
  clear hbd ed
  refine Yy (fun W=>W.cell? ⟨g,0,none⟩=some (.int .i64 cl)∧W.cell? ⟨g,1,none⟩=some (.int .i64 next)∧W.cell? ⟨g,2,none⟩=some (.int .i64 acked)∧W.cell? ⟨g,3,none⟩=some (.slice LA ln lc)) 11 hmx ?_
  change Zz _ _ _ _ _ _ _ _ _ (World.drew _)
  rw [←HD.out]
  refine tkp 0 rfl (Or.inr HC) ?_
  refine tkp 2 rfl (Or.inr HC) ?_
  refine tkp 4 rfl (Or.inr HC) ?_
  refine tkp 6 rfl (Or.inr HC) ?_
  refine tkl 1 rfl HC (by intro W ⟨hC0,hC1,hC2,hC3⟩;go_simp;try with_reducible rfl) ?_
  refine tkl 3 rfl HC (by intro W ⟨hC0,hC1,hC2,hC3⟩;go_simp;try with_reducible rfl) ?_
  refine tkl 5 rfl HC (by intro W ⟨hC0,hC1,hC2,hC3⟩;go_simp;try with_reducible rfl) ?_
  refine tkl 7 rfl HC (by intro W ⟨hC0,hC1,hC2,hC3⟩;go_simp;try with_reducible rfl) ?_
  refine Jf (j:=8) (k:=10) (by kernel_rfl) ?_ ?_
  ·refine wpOp_step rfl (fun K hK=>?_)
   go_simp
   refine (ZjQ LA ln lc log wd1 (HL.out.1.below HB.out) HL.out.2.1 HL.out.2.2).mono ?_
   rintro e v11 ⟨v,ls,rfl,hls,hSl⟩
   have hbN:=hSl.bel
   obtain ⟨OA,oc,ev⟩:=YF (w:=v11) (by exact hSl.head)
   subst ev
   have HLS:=Qh hls
   have hS2:=Ses.under ((Ses.start w1).below HB.out) hSl
   rw [List.append_nil] at hS2
   have HS:=Qh hS2
   clear hS2
   have HC:=cr4 hbN HC
   have HB:=Qh (Ze HB.out hbN)
   clear hls hSl hbN
   refine hK _ _ ?_;clear hK K
   refine ⟨Or.inr HC,?_⟩
   refine tkp 9 rfl (Or.inr HC) ?_
   refine Zi 10 rfl (fun K hK=>?_)
   go_simp
   obtain ⟨v12,q,e9,el,hbN,hlN⟩:=nm1 v11 (.cells #[.int .i64 0,.int .i64 0,.int .i64 0,.slice none 0 0,.slice none 0 0] 59 (0,0))
   have hSA:Ses w1 v12 (Zb q (.cells #[.int .i64 0,.int .i64 0,.int .i64 0,.slice none 0 0,.slice none 0 0] 59 (0,0)) :: rowP wd1.heap.size 222 4 ls.length (.slice OA ls.length oc) (lrs ls) :: ls.map lrP):=by rw [e9,el];exact HS.out.allocObj _
   have HS:=Qh hSA
   have HC:=cr4 hbN HC
   have HB:=Qh (Ze HB.out hbN)
   have HQ:=Qh hlN
   clear hSA hbN hlN
   refine hK _ _ ?_;clear hK K
   rw [←e9,←el]
   clear e9 el
   refine ⟨Or.inr HC,?_⟩
   exact Tq15
  ·refine wpOp_step rfl (fun K hK=>?_)
   go_simp
   obtain ⟨v11,q,e9,el,hbN,hlN⟩:=nm1 wd1 (.cells #[.int .i64 0,.int .i64 0,.int .i64 0,.slice none 0 0,.slice none 0 0] 59 (0,0))
   have hSA:Ses w1 v11 (Zb q (.cells #[.int .i64 0,.int .i64 0,.int .i64 0,.slice none 0 0,.slice none 0 0] 59 (0,0)) :: []):=by rw [e9,el];exact ((Ses.start w1).below HB.out).allocObj _
   have HS:=Qh hSA
   have HC:=cr4 hbN HC
   have HB:=Qh (Ze HB.out hbN)
   have HQ:=Qh hlN
   clear hSA hbN hlN
   refine hK _ _ ?_;clear hK K
   rw [←e9,←el]
   clear e9 el
   refine ⟨Or.inr HC,?_⟩
   refine Zi 8 rfl (fun K hK=>?_)
   go_simp
   refine (ZjQ LA ln lc log v11 (HL.out.1.below HB.out) HL.out.2.1 HL.out.2.2).mono ?_
   rintro e v12 ⟨v,ls,rfl,hls,hSl⟩
   have hbN:=hSl.bel
   obtain ⟨OA,oc,ev⟩:=YF (w:=v12) (by exact hSl.head)
   subst ev
   have HLS:=Qh hls
   have HS:=Qh ((Ses.under HS.out hSl).perm (List.perm_append_singleton _ _))
   have HC:=cr4 hbN HC
   have HB:=Qh (Ze HB.out hbN)
   have HQ:=Qh ((hbN.block _ (lt_of_block HQ.out)).trans HQ.out)
   clear hls hSl hbN
   refine hK _ _ ?_;clear hK K
   refine ⟨Or.inr HC,?_⟩
   refine tkp 9 rfl (Or.inr HC) ?_
   exact Tq15
 case rest=>
 obtain ⟨q,OA,oc,ls,B,rfl,hls,hS2⟩:=hcut
 obtain ⟨w2,e2⟩:∃ V,V=wc:=⟨_,rfl⟩
 rw [←e2] at hS2 ⊢
 clear e2
 have HLS:=Qh hls
 have HS2:=Qh hS2
 have f4:w2.cell? ⟨g,4,none⟩=some (.slice IA iN ic):=Za ((hS2.bel.block _ (lt_of_block H.out.1)).trans H.out.1) 4 _ rfl
 clear hls hS2
 go_upto_region 2 with fail
 go_wp2_with fail
 clear f4
 go_loopg [19] iN (fun gh iv wr=>∃ (j:Nat) (qv:Value),gh+j=iN∧iv=.int .i64 (j:Nat)∧Ses w1 wr (Zb q (.cells #[.int .i64 cl,.int .i64 next,.int .i64 acked,.slice OA ls.length oc,qv] 59 (0,0)) :: rowP w1.heap.size 135 3 j qv (ZM (items.take j)) :: rowP B 222 4 ls.length (.slice OA ls.length oc) (lrs ls) :: ls.map lrP))
 case atStart=>exact ⟨0,.slice none 0 0,rfl,rfl,(HS2.out.row0 w1.heap.size 135 3).front2⟩
 case round=>
  obtain ⟨j,qv,hg,rfl,hS⟩:=hrel
  obtain ⟨Wb,eW⟩:∃ V,V=wr:=⟨_,rfl⟩
  rw [←eW] at hS ⊢
  clear eW
  have h:=HN.out.1
  have hlen:=h.len
  have hin:=HN.out.2
  obtain ⟨QA,qc,eo⟩:=YF (w:=Wb) (by exact hS.tail.head)
  subst eo
  by_cases hlt:j<iN
  ·obtain ⟨x,hx⟩:∃ x,items[j]?=some x:=⟨_,List.getElem?_eq_getElem (by omega)⟩
   obtain ⟨b,o,rfl,hc⟩:=h.at_ j x hx
   have c0:=(hS.bel.cell (Zc (hc 0 x.i rfl))).trans (hc 0 x.i rfl)
   have c1:=(hS.bel.cell (Zc (hc 1 x.w rfl))).trans (hc 1 x.w rfl)
   have c2:=(hS.bel.cell (Zc (hc 2 x.s rfl))).trans (hc 2 x.s rfl)
   rw [Nat.add_zero] at c0
   have i0:(0:Int)≤(j:Int):=by omega
   have i1:(j:Int)<(iN:Int):=by omega
   have i2:decide (j<iN)=true:=decide_eq_true hlt
   have u2:wrap64 ((j:Int)+1)=(j:Int)+1:=Zn _ (by omega) (by omega)
   obtain ⟨W1,q5,e1,eq5,hg5,hb5⟩:∃ V q,V=Wb.alloc (.cells #[.int .i64 x.i,.int .i64 x.w,.int .i64 x.s] 134 (0,0))∧q=Wb.heap.size∧V.heap[q]?=some (.cells #[.int .i64 x.i,.int .i64 x.w,.int .i64 x.s] 134 (0,0))∧Below Wb.heap.size Wb V:=⟨_,_,rfl,rfl,heap_alloc_new Wb _,Zg Wb _⟩
   have hS1:=hS.below hb5
   have y4:W1.cell? ⟨q,4,none⟩=some (.slice QA j qc):=Za hS1.head 4 _ rfl
   obtain ⟨z0,z1,z2⟩:=cs3 hg5
   obtain ⟨W2,q6,e2,eq6⟩:∃ V q,V=W1.alloc (.cells #[.int .i64 x.i,.int .i64 x.w,.int .i64 x.s] 135 (0,0))∧q=W1.heap.size:=⟨_,_,rfl,rfl⟩
   have hnews:∀ i u,x.cells[i]?=some u→W2.cell? ((⟨q6,0,none⟩:Addr).add i)=some u:=by rw [e2];exact XC W1 #[.int .i64 x.i,.int .i64 x.w,.int .i64 x.s] 135 q6 eq6
   have hS2:=hS1.below (w':=W2) (by rw [e2];exact Zg W1 _)
   have HNN:=Qh (show j+1≤maxLen∧(j+1)*24≤140737488355328 by unfold maxLen;omega)
   have HX:=Qh (Qi (Qi hlt hg) (Qi hx (Qi hS2.front2 hnews)))
   have E1:=Qh (Qi e1 eq5)
   have E2:=Qh (Qi e2 eq6)
   clear hlt hg hx hS h hlen hin hg5 hb5 hS1 hS2 hnews e1 eq5 e2 eq6 hc
   go_upto_region 5 with fail
   rw [←E1.out.1,←E1.out.2]
   clear c0 c1 c2
   go_upto_region 6 with (at_builtin;rw [←E2.out.1,←E2.out.2];refine wpList_append_own_at _ rfl (.tmp 24) (.tmp 26) 57 rfl w1.heap.size 135 i9 _ 3 24 Tryz.underlying57 HI.out.1 HI.out.2.1 HI.out.2.2.1 HI.out.2.2.2 rfl (by decide) _ j _ rfl HX.out.2.2.1.head ⟨q6,0,none⟩ 1 1 x.cells rfl rfl HX.out.2.2.2 (Zry x) HNN.out.1 HNN.out.2 HX.out.2.2.1.bel.size ?_;intro v10 w10 hown hgr _ hblk;obtain ⟨g10,c10,rfl⟩:=ownsRow_succ hown;have XB:=(HX.out.2.2.1.rowApp hown hgr hblk).front2;have k4:w10.cell? ⟨q,4,none⟩=some (.slice QA j qc):=Za XB.head 4 _ rfl;have k5:=Zd XB.head 4;have H10:=Qh XB;clear hown hgr hblk XB)
   go_wp2_with fail
   go_roundg (iN-(j+1))
   case measure=>have:=HX.out.1;omega
   case rel=>
    refine ⟨j+1,.slice (some ⟨g10,0,none⟩) (j+1) c10,by have:=HX.out.1;omega,by go_num,?_⟩
    rw [Zrx items j x HX.out.2.1]
    exact Ses.objSet (i:=4) (.slice (some ⟨g10,0,none⟩) (j+1) c10) H10.out
  ·have i2:decide (j<iN)=false:=decide_eq_false hlt
   have hji:j=items.length:=by omega
   have ht:items.take j=items:=List.take_of_length_le (by omega)
   rw [ht] at hS
   have hq:=hS.head
   have hz:=(hS.bel.block _ (lt_of_block H.out.2.1)).trans H.out.2.1
   obtain ⟨y0,y1,y2,y3,y4⟩:=ce5 hq
   have z0:Wb.cell? ⟨g+1,0,none⟩=some (.int .i64 0):=Za hz 0 _ rfl
   have x0:=Zd hz 0
   have z1:Wb.cell? ⟨g+1,1,none⟩=some (.int .i64 0):=Za hz 1 _ rfl
   have x1:=Zd hz 1
   have z2:Wb.cell? ⟨g+1,2,none⟩=some (.int .i64 0):=Za hz 2 _ rfl
   have x2:=Zd hz 2
   have z3:Wb.cell? ⟨g+1,3,none⟩=some (.slice none 0 0):=Za hz 3 _ rfl
   have x3:=Zd hz 3
   have z4:Wb.cell? ⟨g+1,4,none⟩=some (.slice none 0 0):=Za hz 4 _ rfl
   have x4:=Zd hz 4
   have hln:ls.length=log.length:=by rw [←HLS.out,List.length_map]
   have HX:=Qh (Qi hS (Qi hz (Qi hji hln)))
   clear hS hq hz hji ht hlt hg h hlen hin hln
   go_wp2_with fail
   refine bodyPost_ret (Zrw rfl _ _ (g+1) _ rfl rfl (Yk (.int .i64 cl) (.int .i64 next) (.int .i64 acked) (.slice OA ls.length oc) (.slice QA j qc) HX.out.2.1)) rfl ?_
   obtain ⟨hS,hz,hji,hln⟩:=HX.out
   obtain ⟨Wf,eWf⟩:∃ V,V=QS Wb (g+1) (.int .i64 cl) (.int .i64 next) (.int .i64 acked) (.slice OA ls.length oc) (.slice QA j qc):=⟨_,rfl⟩
   have Zay:∀ p,p∈(Zb q (.cells #[.int .i64 cl,.int .i64 next,.int .i64 acked,.slice OA ls.length oc,.slice QA j qc] 59 (0,0)) :: rowP w1.heap.size 135 3 j (.slice QA j qc) (ZM items) :: rowP B 222 4 ls.length (.slice OA ls.length oc) (lrs ls) :: ls.map lrP)→p.P Wf:=fun p hp=>(hS.sep.1 p hp).same _ (fun b hb=>by rw [eWf];exact Xn _ _ _ _ _ _ _ (by have h1:=hS.base p hp b hb;have h2:=lt_of_block H.out.2.1;omega)) (by rw [eWf];exact (Yl (B:=g+1) _ _ _ _ _ (Below.refl _ _) (Nat.le_refl _)).size)
   have hbf:Below w.heap.size w Wf:=by rw [eWf];exact Yl _ _ _ _ _ (Ze H.out.2.2 hS.bel) HGL.out
   have hr1:=Zay _ (.tail _ (.tail _ (.head _)))
   have hr2:=Zay _ (.tail _ (.head _))
   have ZdZ:ls.length≤1000000:=by rw [hln,←HL.out.1.len];have:=HL.out.2.1;omega
   obtain ⟨A',c',e',hL'⟩:=Zrz hr1 ZdZ (fun x hx=>Zay (lrP x) (.tail _ (.tail _ (.tail _ (List.mem_map.2 ⟨x,hx,rfl⟩)))))
   injection e' with a1 _ a2
   rw [←a1,←a2,HLS.out,hln] at hL'
   subst hji
   obtain ⟨A2,c2,e2,hI'⟩:=ZrA hr2 (by have:=HN.out.2;have:=HN.out.1.len;omega)
   injection e2 with a3 _ a4
   rw [←a3] at hI'
   have hfin:=Qi hL' (Qi hI' hbf)
   rw [eWf] at hfin
   exact ⟨OA,QA,oc,qc,by rw [hln],hfin⟩
end
end Go.Proofs.YtlgcfimhfmgkmaaGreatDoor
namespace Go.Proofs.YtlgcfimhfmgkmaaGreatDoor
open Go.RowKit
section
theorem ZrC (l:List Rec) (A B:Option Addr) (n c d:Nat) (w:World) (ha:Zy w A n c l) (hb:Zy w B n d l) :
  Calls Tryz.prog 70 #[.slice A n c,.slice B n d] w fun r w'=>r=.returned (.bool true)∧Below w.heap.size w w':=by
 have hmx:Tryz.prog.follows .mixedOrders=true:=by kernel_rfl
 have t1:((n:Int) != (n:Int))=false:=by simp
 have H:=Qh (Qi ha hb)
 clear ha hb
 go_enter Tryz.func70,Tryz.ntmps70
 go_wp2_with fail
 clear t1
 go_loopg [13] n (fun gh iv wr=>∃ j:Nat,gh+j=n∧iv=.int .i64 (j:Nat)∧Below w.heap.size w wr)
 case atStart=>exact ⟨0,rfl,rfl,Below.refl _ _⟩
 case round=>
  obtain ⟨j,hg,rfl,hW⟩:=hrel
  obtain ⟨Wb,eW⟩:∃ V,V=wr:=⟨_,rfl⟩
  rw [←eW] at hW ⊢
  clear eW
  have hA:=H.out.1.below hW
  have hB:=H.out.2.below hW
  have hlen:=hA.len
  have hlim:=hA.lim
  by_cases hlt:j<n
  ·obtain ⟨x,hx⟩:∃ x,l[j]?=some x:=⟨_,List.getElem?_eq_getElem (by omega)⟩
   obtain ⟨b,o,CA,cn,cc,eA,⟨c0,c1,c2,c3⟩,hca⟩:=hA.at_ j x hx
   obtain ⟨b',o',DA,dn,dc,eB,⟨d0,d1,d2,d3⟩,hcb⟩:=hB.at_ j x hx
   have hdn:cn=dn:=by rw [hca.len,hcb.len]
   subst hdn
   subst eA eB
   have i0:(0:Int)≤(j:Int):=by omega
   have i1:(j:Int)<(n:Int):=by omega
   have i2:decide (j<n)=true:=decide_eq_true hlt
   have u2:wrap64 ((j:Int)+1)=(j:Int)+1:=Zn _ (by omega) (by omega)
   have t2:(x.num != x.num)=false:=by simp
   have t3:(x.base != x.base)=false:=by simp
   have HC0:=Qi c0 (Qi c1 (Qi c2 (Qi c3 (Qi d0 (Qi d1 (Qi d2 d3))))))
   have HCR:=Qh (Qi hca hcb)
   have HX:=Qh (Qi hlt (Qi hg hW))
   clear hlt hg hW hlen hlim hx hA hB hca hcb c0 c1 c2 c3 d0 d1 d2 d3
   go_upto_region 6 with fail
   go_cut [53] (fun v wx=>v=.bool false∧Below Wb.heap.size Wb wx)
   case first=>
    obtain ⟨wd6,ed⟩:∃ W,W=Wb.drew:=⟨_,rfl⟩
    have hbd:Below Wb.heap.size Wb wd6:=by rw [ed];exact (Below.refl _ _).drew
    have HC:wd6.cell? ⟨b,o+j*4,none⟩=some (.int .i64 x.num)∧wd6.cell? ⟨b,o+j*4+1,none⟩=some (.int .i64 x.base)∧wd6.cell? ⟨b,o+j*4+2,none⟩=some (.int .i64 x.tick)∧wd6.cell? ⟨b,o+j*4+3,none⟩=some (.slice CA cn cc)∧wd6.cell? ⟨b',o'+j*4,none⟩=some (.int .i64 x.num)∧wd6.cell? ⟨b',o'+j*4+1,none⟩=some (.int .i64 x.base)∧wd6.cell? ⟨b',o'+j*4+2,none⟩=some (.int .i64 x.tick)∧wd6.cell? ⟨b',o'+j*4+3,none⟩=some (.slice DA cn dc):=⟨(hbd.cell (Zc HC0.1)).trans HC0.1,(hbd.cell (Zc HC0.2.1)).trans HC0.2.1,(hbd.cell (Zc HC0.2.2.1)).trans HC0.2.2.1,(hbd.cell (Zc HC0.2.2.2.1)).trans HC0.2.2.2.1,(hbd.cell (Zc HC0.2.2.2.2.1)).trans HC0.2.2.2.2.1,(hbd.cell (Zc HC0.2.2.2.2.2.1)).trans HC0.2.2.2.2.2.1,(hbd.cell (Zc HC0.2.2.2.2.2.2.1)).trans HC0.2.2.2.2.2.2.1,(hbd.cell (Zc HC0.2.2.2.2.2.2.2)).trans HC0.2.2.2.2.2.2.2⟩
    have HB:=Qh hbd
    have HD:=Qh ed
    clear hbd ed
    refine Yy (fun W=>W.cell? ⟨b,o+j*4,none⟩=some (.int .i64 x.num)∧W.cell? ⟨b,o+j*4+1,none⟩=some (.int .i64 x.base)∧W.cell? ⟨b,o+j*4+2,none⟩=some (.int .i64 x.tick)∧W.cell? ⟨b,o+j*4+3,none⟩=some (.slice CA cn cc)∧W.cell? ⟨b',o'+j*4,none⟩=some (.int .i64 x.num)∧W.cell? ⟨b',o'+j*4+1,none⟩=some (.int .i64 x.base)∧W.cell? ⟨b',o'+j*4+2,none⟩=some (.int .i64 x.tick)∧W.cell? ⟨b',o'+j*4+3,none⟩=some (.slice DA cn dc)) 35 hmx ?_
    change Zz _ _ _ _ _ _ _ _ _ (World.drew _)
    rw [←HD.out]
    refine tkp 0 rfl (Or.inr HC) ?_
    refine tkp 1 rfl (Or.inr HC) ?_
    refine tkp 2 rfl (Or.inr HC) ?_
    refine tkp 3 rfl (Or.inr HC) ?_
    refine tkp 5 rfl (Or.inr HC) ?_
    refine tkp 6 rfl (Or.inr HC) ?_
    refine tkp 7 rfl (Or.inr HC) ?_
    refine tkp 8 rfl (Or.inr HC) ?_
    refine tkl 4 rfl HC (by intro W ⟨hC0,hC1,hC2,hC3,hC4,hC5,hC6,hC7⟩;go_simp;try with_reducible rfl) ?_
    refine tkl 9 rfl HC (by intro W ⟨hC0,hC1,hC2,hC3,hC4,hC5,hC6,hC7⟩;go_simp;try with_reducible rfl) ?_
    refine tkp 10 rfl (Or.inr HC) ?_
    refine tkp 11 rfl (Or.inr HC) ?_
    go_simp
    refine tkp 12 rfl (Or.inr HC) ?_
    refine tkp 13 rfl (Or.inr HC) ?_
    refine tkp 14 rfl (Or.inr HC) ?_
    refine tkp 15 rfl (Or.inr HC) ?_
    refine tkp 17 rfl (Or.inr HC) ?_
    refine tkp 18 rfl (Or.inr HC) ?_
    refine tkp 19 rfl (Or.inr HC) ?_
    refine tkp 20 rfl (Or.inr HC) ?_
    refine tkl 16 rfl HC (by intro W ⟨hC0,hC1,hC2,hC3,hC4,hC5,hC6,hC7⟩;go_simp;try with_reducible rfl) ?_
    refine tkl 21 rfl HC (by intro W ⟨hC0,hC1,hC2,hC3,hC4,hC5,hC6,hC7⟩;go_simp;try with_reducible rfl) ?_
    refine tkp 22 rfl (Or.inr HC) ?_
    refine tkp 23 rfl (Or.inr HC) ?_
    refine tkp 24 rfl (Or.inr HC) ?_
    go_simp
    refine tkp 25 rfl (Or.inr HC) ?_
    refine tkp 26 rfl (Or.inr HC) ?_
    refine tkp 27 rfl (Or.inr HC) ?_
    refine tkp 28 rfl (Or.inr HC) ?_
    refine tkp 30 rfl (Or.inr HC) ?_
    refine tkp 31 rfl (Or.inr HC) ?_
    refine tkp 32 rfl (Or.inr HC) ?_
    refine tkp 33 rfl (Or.inr HC) ?_
    refine tkl 29 rfl HC (by intro W ⟨hC0,hC1,hC2,hC3,hC4,hC5,hC6,hC7⟩;go_simp;try with_reducible rfl) ?_
    refine tkl 34 rfl HC (by intro W ⟨hC0,hC1,hC2,hC3,hC4,hC5,hC6,hC7⟩;go_simp;try with_reducible rfl) ?_
    go_simp
    refine Zi 35 rfl (fun K hK=>?_)
    go_simp
    refine (Zrq x.tick x.es CA DA cn cc dc wd6 (HCR.out.1.below HB.out) (HCR.out.2.below HB.out)).mono ?_
    rintro e v61 ⟨rfl,hbN⟩
    have HB:=Qh (Ze HB.out hbN)
    clear hbN
    refine hK _ _ ?_;clear hK K
    refine ⟨Or.inl (by kernel_rfl),?_⟩
    go_simp
    refine tkq 36 rfl ?_
    refine tkq 37 rfl ?_
    exact Tq74
   case rest=>
   exact Tq41
  ·have i2:decide (j<n)=false:=decide_eq_false hlt
   have HX:=Qh hW
   clear hlt hg hW hlen hlim hA hB
   go_wp2_with fail
   go_ret
   exact ⟨rfl,HX.out⟩
theorem ZrD (cl next acked:Int) (log:List Rec) (items:List It) (LA IA OA QA:Option Addr) (ln lc iN ic oc qc:Nat) (w:World) (hL:Zy w LA ln lc log) (hI:ZG 3 It.ints w IA iN items) (hO:Zy w OA ln oc log) (hQ:ZG 3 It.ints w QA iN items) (hi:iN≤1000) :
  Calls Tryz.prog 19 #[.agg #[.int .i64 cl,.int .i64 next,.int .i64 acked,.slice LA ln lc,.slice IA iN ic],.agg #[.int .i64 cl,.int .i64 next,.int .i64 acked,.slice OA ln oc,.slice QA iN qc]] w fun r w'=>r=.returned (.bool true)∧Below w.heap.size w w':=by
 obtain ⟨w1,g,e1,eg,hg0,hg1,hb1⟩:∃ W q,W=(w.alloc (.cells #[.int .i64 cl,.int .i64 next,.int .i64 acked,.slice LA ln lc,.slice IA iN ic] 33 (0,0))).alloc (.cells #[.int .i64 cl,.int .i64 next,.int .i64 acked,.slice OA ln oc,.slice QA iN qc] 59 (0,0))∧q=w.heap.size∧W.heap[q]?=some (.cells #[.int .i64 cl,.int .i64 next,.int .i64 acked,.slice LA ln lc,.slice IA iN ic] 33 (0,0))∧W.heap[q+1]?=some (.cells #[.int .i64 cl,.int .i64 next,.int .i64 acked,.slice OA ln oc,.slice QA iN qc] 59 (0,0))∧Below w.heap.size w W:=⟨_,_,rfl,rfl,ZZ w _ _,Z0 w _ _,ZQ w _ _⟩
 obtain ⟨f0,f1,f2,f3,f4⟩:=ce5 hg0
 obtain ⟨g0,g1,g2,g3,g4⟩:=ce5 hg1
 have t0:(cl != cl)=false:=by simp
 have t1:(next != next)=false:=by simp
 have t2:(acked != acked)=false:=by simp
 have t3:((iN:Int) != (iN:Int))=false:=by simp
 have FS:=ZrC log LA OA ln lc oc w1 (hL.below hb1) (hO.below hb1)
 have H:=Qh (Qi (Qi (hI.below hb1) (hQ.below hb1)) (Qi hb1 (Qi hg0 hg1)))
 have HI:=Qh hi
 have E1:=Qh (Qi e1 eg)
 clear hL hI hO hQ hg0 hg1 hb1 e1 eg hi
 go_enter Tryz.func19,Tryz.ntmps19
 go_upto_region 1 with fail
 rw [←E1.out.1,←E1.out.2]
 clear E1
 go_wp2_with (go_at_call 70;refine FS.mono ?_;rintro e w2 ⟨rfl,hb2⟩;have hg0:=(hb2.block _ (lt_of_block H.out.2.2.1)).trans H.out.2.2.1;have hg1:=(hb2.block _ (lt_of_block H.out.2.2.2)).trans H.out.2.2.2;have k0:w2.cell? ⟨g,4,none⟩=some (.slice IA iN ic):=Za hg0 4 _ rfl;have k1:w2.cell? ⟨g+1,4,none⟩=some (.slice QA iN qc):=Za hg1 4 _ rfl;have H2:=Qh (Qi hb2 (Qi hg0 hg1));clear hb2 hg0 hg1 FS)
 clear f0 f1 f2 f3 f4 g0 g1 g2 g3 g4 k0 k1 t0 t1 t2 t3
 go_loopg [45] iN (fun gh iv wr=>∃ j:Nat,gh+j=iN∧iv=.int .i64 (j:Nat)∧Below w2.heap.size w2 wr)
 case atStart=>exact ⟨0,rfl,rfl,Below.refl _ _⟩
 case round=>
  obtain ⟨j,hg,rfl,hW⟩:=hrel
  obtain ⟨W,eW⟩:∃ V,V=wr:=⟨_,rfl⟩
  rw [←eW] at hW ⊢
  clear eW
  have hA:=(H.out.1.1.below H2.out.1).below hW
  have hB:=(H.out.1.2.below H2.out.1).below hW
  have hlen:=hA.len
  have hlim:=HI.out
  by_cases hlt:j<iN
  ·obtain ⟨x,hx⟩:∃ x,items[j]?=some x:=⟨_,List.getElem?_eq_getElem (by omega)⟩
   obtain ⟨b,o,eA,hca⟩:=hA.at_ j x hx
   obtain ⟨b',o',eB,hcb⟩:=hB.at_ j x hx
   have c0:=hca 0 x.i rfl
   have c1:=hca 1 x.w rfl
   have c2:=hca 2 x.s rfl
   have d0:=hcb 0 x.i rfl
   have d1:=hcb 1 x.w rfl
   have d2:=hcb 2 x.s rfl
   rw [Nat.add_zero] at c0 d0
   subst eA eB
   have i0:(0:Int)≤(j:Int):=by omega
   have i1:(j:Int)<(iN:Int):=by omega
   have i2:decide (j<iN)=true:=decide_eq_true hlt
   have u2:wrap64 ((j:Int)+1)=(j:Int)+1:=Zn _ (by omega) (by omega)
   have k0:W.cell? ⟨g,4,none⟩=some (.slice (some ⟨b,o,none⟩) iN ic):=Za ((hW.block _ (lt_of_block H2.out.2.1)).trans H2.out.2.1) 4 _ rfl
   have k1:W.cell? ⟨g+1,4,none⟩=some (.slice (some ⟨b',o',none⟩) iN qc):=Za ((hW.block _ (lt_of_block H2.out.2.2)).trans H2.out.2.2) 4 _ rfl
   have HX:=Qh (Qi hlt (Qi hg hW))
   clear hlt hg hW hlen hlim hx hA hB hca hcb
   go_upto_region 6 with fail
   go_region
   all_goals go_wp2_with fail
   all_goals (go_roundg (iN-(j+1)))
   all_goals first
    | (have:=HX.out.1;have:=HX.out.2.1;omega)
    | exact ⟨j+1,by have:=HX.out.1;omega,by go_num,HX.out.2.2.drew⟩
  ·have i2:decide (j<iN)=false:=decide_eq_false hlt
   have HX:=Qh hW
   clear hlt hg hW hlen hlim hA hB
   go_wp2_with fail
   go_ret
   exact ⟨rfl,Ze H.out.2.1 (Ze H2.out.1 HX.out)⟩
end
end Go.Proofs.YtlgcfimhfmgkmaaGreatDoor
