/- Lemmas for the statement. -/
import Derived.Test.YtlgcfimhfmgkmaaGreatDoorMBS
set_option linter.unusedVariables false
set_option linter.unusedSimpArgs false
set_option maxRecDepth 100000
set_option maxHeartbeats 8000000
namespace Go.Proofs.YtlgcfimhfmgkmaaGreatDoor
open Go.RowKit
section
theorem Tq74 {p:Prop} (h:p:=by
 refine ZX (by kernel_rfl) ?_ _
 try clear HC
 go_wp2_with fail
 go_meet
 exact ⟨rfl,HB.out⟩):p:=h
theorem Tq41 {p:Prop} (h:p:=by
 obtain ⟨rfl,hbx⟩:=hcut
 obtain ⟨W2,eW⟩:∃ V,V=wc:=⟨_,rfl⟩
 rw [←eW] at hbx ⊢
 clear eW HC0
 have HBX:=Qh hbx
 clear hbx
 go_wp2_with fail
 go_roundg (n-(j+1))
 case measure=>have:=HX.out.1;have:=HX.out.2.1;omega
 case rel=>exact ⟨j+1,by have:=HX.out.1;omega,by go_num,Ze HX.out.2.2 HBX.out⟩):p:=h
theorem Zrq (t:Int) (es:List Ent) (A B:Option Addr) (n c d:Nat) (w:World) (ha:Zj w A n c es) (hb:Zj w B n d es) :
  Calls Tryz.prog 16 #[.agg #[.int .i64 t,.slice A n c],.agg #[.int .i64 t,.slice B n d]] w fun r w'=>r=.returned (.bool true)∧Below w.heap.size w w':=by
 have hmx:Tryz.prog.follows .mixedOrders=true:=by kernel_rfl
 obtain ⟨w1,g,e1,eg,hg0,hg1,hb1⟩:∃ W q,W=(w.alloc (.cells #[.int .i64 t,.slice A n c] 24 (0,0))).alloc (.cells #[.int .i64 t,.slice B n d] 24 (0,0))∧q=w.heap.size∧W.heap[q]?=some (.cells #[.int .i64 t,.slice A n c] 24 (0,0))∧W.heap[q+1]?=some (.cells #[.int .i64 t,.slice B n d] 24 (0,0))∧Below w.heap.size w W:=⟨_,_,rfl,rfl,ZZ w _ _,Z0 w _ _,ZQ w _ _⟩
 obtain ⟨f0,f1⟩:=cs2 hg0
 obtain ⟨f2,f3⟩:=cs2 hg1
 have t0:(t != t)=false:=by simp
 have t1:((n:Int) != (n:Int))=false:=by simp
 have H:=Qh (Qi (Qi (ha.below hb1) (hb.below hb1)) (Qi hb1 (Qi hg0 hg1)))
 have E1:=Qh (Qi e1 eg)
 clear ha hb hg0 hg1 hb1 e1 eg
 go_enter Tryz.func16,Tryz.ntmps16
 go_upto_region 1 with fail
 rw [←E1.out.1,←E1.out.2]
 clear E1
 go_wp2_with fail
 clear f0 f1 f2 f3 t0 t1
 go_loopg [23] n (fun gh iv wr=>∃ j:Nat,gh+j=n∧iv=.int .i64 (j:Nat)∧Below w1.heap.size w1 wr)
 case atStart=>exact ⟨0,rfl,rfl,Below.refl _ _⟩
 case round=>
  obtain ⟨j,hg,rfl,hW⟩:=hrel
  obtain ⟨Wb,eW⟩:∃ V,V=wr:=⟨_,rfl⟩
  rw [←eW] at hW ⊢
  clear eW
  have hA:=H.out.1.1.below hW
  have hB:=H.out.1.2.below hW
  have hlen:=hA.len
  have hlim:=hA.lim
  by_cases hlt:j<n
  ·obtain ⟨x,hx⟩:∃ x,es[j]?=some x:=⟨_,List.getElem?_eq_getElem (by omega)⟩
   obtain ⟨b,o,CA,cn,cc,eA,⟨c0,c1⟩,hca⟩:=hA.at_ j x hx
   obtain ⟨b',o',DA,dn,dc,eB,⟨d0,d1⟩,hcb⟩:=hB.at_ j x hx
   have hdn:cn=dn:=by rw [hca.len,hcb.len]
   subst hdn
   subst eA eB
   have i0:(0:Int)≤(j:Int):=by omega
   have i1:(j:Int)<(n:Int):=by omega
   have i2:decide (j<n)=true:=decide_eq_true hlt
   have u2:wrap64 ((j:Int)+1)=(j:Int)+1:=Zn _ (by omega) (by omega)
   have HC0:=Qi (show Wb.cell? ⟨g,1,none⟩=some (.slice (some ⟨b,o,none⟩) n c) from Za ((hW.block _ (lt_of_block H.out.2.2.1)).trans H.out.2.2.1) 1 _ rfl) (Qi c0 (Qi c1 (Qi (show Wb.cell? ⟨g+1,1,none⟩=some (.slice (some ⟨b',o',none⟩) n d) from Za ((hW.block _ (lt_of_block H.out.2.2.2)).trans H.out.2.2.2) 1 _ rfl) (Qi d0 d1))))
   have HCR:=Qh (Qi hca hcb)
   have HX:=Qh (Qi hlt (Qi hg hW))
   clear hlt hg hW hlen hlim hx hA hB hca hcb c0 c1 d0 d1
   go_upto_region 6 with fail
   go_cut [37] (fun v wx=>v=.bool false∧Below Wb.heap.size Wb wx)
   case first=>
    obtain ⟨wd6,ed⟩:∃ W,W=Wb.drew:=⟨_,rfl⟩
    have hbd:Below Wb.heap.size Wb wd6:=by rw [ed];exact (Below.refl _ _).drew
    have HC:wd6.cell? ⟨g,1,none⟩=some (.slice (some ⟨b,o,none⟩) n c)∧wd6.cell? ⟨b,o+j*2,none⟩=some (.int .i64 x.id)∧wd6.cell? ⟨b,o+j*2+1,none⟩=some (.slice CA cn cc)∧wd6.cell? ⟨g+1,1,none⟩=some (.slice (some ⟨b',o',none⟩) n d)∧wd6.cell? ⟨b',o'+j*2,none⟩=some (.int .i64 x.id)∧wd6.cell? ⟨b',o'+j*2+1,none⟩=some (.slice DA cn dc):=⟨(hbd.cell (Zc HC0.1)).trans HC0.1,(hbd.cell (Zc HC0.2.1)).trans HC0.2.1,(hbd.cell (Zc HC0.2.2.1)).trans HC0.2.2.1,(hbd.cell (Zc HC0.2.2.2.1)).trans HC0.2.2.2.1,(hbd.cell (Zc HC0.2.2.2.2.1)).trans HC0.2.2.2.2.1,(hbd.cell (Zc HC0.2.2.2.2.2)).trans HC0.2.2.2.2.2⟩
    have HB:=Qh hbd
    have HD:=Qh ed
    clear hbd ed
    refine Yy (fun W=>W.cell? ⟨g,1,none⟩=some (.slice (some ⟨b,o,none⟩) n c)∧W.cell? ⟨b,o+j*2,none⟩=some (.int .i64 x.id)∧W.cell? ⟨b,o+j*2+1,none⟩=some (.slice CA cn cc)∧W.cell? ⟨g+1,1,none⟩=some (.slice (some ⟨b',o',none⟩) n d)∧W.cell? ⟨b',o'+j*2,none⟩=some (.int .i64 x.id)∧W.cell? ⟨b',o'+j*2+1,none⟩=some (.slice DA cn dc)) 10 hmx ?_
    change Zz _ _ _ _ _ _ _ _ _ (World.drew _)
    rw [←HD.out]
    refine tkp 0 rfl (Or.inr HC) ?_
    refine tkp 2 rfl (Or.inr HC) ?_
    refine tkp 5 rfl (Or.inr HC) ?_
    refine tkp 7 rfl (Or.inr HC) ?_
    refine tkl 1 rfl HC (by intro W ⟨hC0,hC1,hC2,hC3,hC4,hC5⟩;go_simp;try with_reducible rfl) ?_
    refine tkp 3 rfl (Or.inr HC) ?_
    refine tkl 4 rfl HC (by intro W ⟨hC0,hC1,hC2,hC3,hC4,hC5⟩;go_simp;try with_reducible rfl) ?_
    refine tkl 6 rfl HC (by intro W ⟨hC0,hC1,hC2,hC3,hC4,hC5⟩;go_simp;try with_reducible rfl) ?_
    refine tkp 8 rfl (Or.inr HC) ?_
    refine tkl 9 rfl HC (by intro W ⟨hC0,hC1,hC2,hC3,hC4,hC5⟩;go_simp;try with_reducible rfl) ?_
    refine Zi 10 rfl (fun K hK=>?_)
    go_simp
    refine (Zrp x CA DA cn cc dc wd6 (HCR.out.1.below HB.out) (HCR.out.2.below HB.out)).mono ?_
    rintro e v61 ⟨rfl,hbN⟩
    have HB:=Qh (Ze HB.out hbN)
    clear hbN
    refine hK _ _ ?_;clear hK K
    refine ⟨Or.inl (by kernel_rfl),?_⟩
    refine tkq 11 rfl ?_
    exact Tq74
   case rest=>
   exact Tq41
  ·exact Tq78
end
end Go.Proofs.YtlgcfimhfmgkmaaGreatDoor
namespace Go.Proofs.YtlgcfimhfmgkmaaGreatDoor
open Go.RowKit
section
theorem Zrr {w:World} {b o n c:Nat} {cs:List Cmp} (h:Zo w (some ⟨b,o,none⟩) n c cs):∀ j u,(Ya cs)[j]?=some u→w.cell? ((⟨b,o,none⟩:Addr).add j)=some u:=by
 intro j u hj
 have hlt:j<(Ya cs).length:=(List.getElem?_eq_some_iff.1 hj).1
 rw [ZcP] at hlt
 obtain ⟨x,hx⟩:∃ x,cs[j / 5]?=some x:=⟨_,List.getElem?_eq_getElem (by omega)⟩
 obtain ⟨b',o',e,hc⟩:=h.at_ _ x hx
 injection e with e
 injection e with e1 e2
 subst e1 e2
 have ej:j=j / 5*5+j % 5:=by omega
 rw [ej] at hj
 have hj2:=(XX Cmp.cells 5 (fun _=>rfl) cs (j / 5) x (j % 5) hx (by omega)).symm.trans hj
 have ea:(⟨b,o,none⟩:Addr).add j=⟨b,o+j,none⟩:=by rcases j with _ | j<;>simp [Addr.add]
 rw [ea,show o+j=o+j / 5*5+j % 5 from by omega]
 have hr:j % 5=0∨j % 5=1∨j % 5=2∨j % 5=3∨j % 5=4:=by omega
 rcases hr with hr | hr | hr | hr | hr<;>rw [hr] at hj2 ⊢<;>(simp only [Cmp.cells,List.getElem?_cons_zero,List.getElem?_cons_succ,Option.some.injEq] at hj2;subst hj2)
 ·exact hc.c0
 ·exact hc.c1
 ·exact hc.c2
 ·exact hc.c3
 ·exact hc.c4
theorem Zrs {A:Option Addr} {n c k:Nat} {cs:List Cmp} {B e m:Nat} {xs:List Value} {q:Nat} (h:q∈(YO A n c cs).F):q∈(rowP B e m k (.slice A n c) xs).F:=by
 unfold YO at h
 split at h
 ·cases h
 ·rcases A with _ | a
  ·simp at h
  ·simpa [rowP,Value.ownBlock] using h
theorem Zrt (t:Int) (A:Option Addr) (n c:Nat) (es:List Ent) (w:World) (ha:Zj w A n c es) (hn:n≤1000) (hne:∀ e,e∈es→e.cs≠[]) (hcs:∀ e,e∈es→e.cs.length≤1000) :
  Calls Tryz.prog 136 #[.agg #[.int .i64 t,.slice A n c]] w fun e w'=>∃ OA on oc,e=.returned (.agg #[.int .i64 t,.slice OA on oc])∧ZbF w w' OA on oc es∧Below w.heap.size w w':=by
 have hmx:Tryz.prog.follows .mixedOrders=true:=by kernel_rfl
 obtain ⟨w1,g,e1,eg,hg0,hg1,hb1⟩:=Zc9 w t A n c
 obtain ⟨f0,f1⟩:=cs2 hg0
 have hS1:Ses w w1 [Zb (g+1) (wO 0 (.slice none 0 0))]:=by
  exact Tq73
 obtain ⟨w2,qo,e2,eqo,hS2⟩:∃ W q,W=w1.alloc (wO t (.slice none 0 0))∧q=w1.heap.size∧Ses w W (Zb q (wO t (.slice none 0 0)) :: [Zb (g+1) (wO 0 (.slice none 0 0))]):=⟨_,_,rfl,rfl,hS1.allocObj _⟩
 have hb2:Below w1.heap.size w1 w2:=by rw [e2];exact Zg w1 _
 obtain ⟨i9,hi9,hz0,hz1,hz2⟩:=info_parts Zb1
 obtain ⟨ic,hi5,hx0,hx1,hx2⟩:=info_parts ZcQ
 have HIC:=Qh (Qi hi5 (Qi hx0 (Qi hx1 hx2)))
 have HNE:=Qh (Qi hne hcs)
 clear hi5 hx0 hx1 hx2 hne hcs
 have HI:=Qh (Qi hi9 (Qi hz0 (Qi hz1 hz2)))
 have k1:w2.cell? ⟨g,1,none⟩=some (.slice A n c):=(hb2.cell (Zc f1)).trans f1
 have H:=Qh (Qi ha (Qi hS2 hn))
 clear ha hS1 hS2 hg0 hg1 hb1 hb2 hi9 hz0 hz1 hz2 hn
 unfold wO at e2
 go_enter Tryz.func136,Tryz.ntmps136
 go_upto_region 1 with fail
 rw [←e1,←eg]
 clear e1 eg
 go_upto_region 2 with fail
 rw [←e2,←eqo]
 clear e2 eqo f0 f1
 go_wp2_with fail
 go_loopg [12] n (fun gh iv wr=>∃ (j:Nat) (ov:Value) (rs:List ER),gh+j=n∧iv=.int .i64 (j:Nat)∧rs.map ER.e=es.take j∧Ses w wr (Zb qo (wO t ov) :: rowP w.heap.size 70 2 rs.length ov (ers rs) :: (rs.map erP++[Zb (g+1) (wO 0 (.slice none 0 0))])))
 case atStart=>exact ⟨0,.slice none 0 0,[],rfl,rfl,rfl,(H.out.2.1.row0 w.heap.size 70 2).perm (List.Perm.swap _ _ _)⟩
 case round=>
  obtain ⟨j,ov,rs,hg,rfl,hrs,hS⟩:=hrel
  obtain ⟨W,eW⟩:∃ W,W=wr:=⟨_,rfl⟩
  rw [←eW] at hS ⊢
  clear eW k1
  have h:=H.out.1
  have hlen:=h.len
  have hn:=H.out.2.2
  have hrl:rs.length≤n:=by
   have:=congrArg List.length hrs
   rw [List.length_map,List.length_take] at this
   omega
  have hown:W.ownsRow w.heap.size 70 2 ov rs.length (ers rs):=hS.part (p:=rowP w.heap.size 70 2 rs.length ov (ers rs)) (by simp)
  obtain ⟨OA,oc,eo⟩:=YF hown
  subst eo
  clear hown
  by_cases hlt:j<n
  ·obtain ⟨x,hx⟩:∃ x,es[j]?=some x:=⟨_,List.getElem?_eq_getElem (by omega)⟩
   obtain ⟨b,o,CA,cn,cc,rfl,⟨c0,c1⟩,hr⟩:=h.at_ j x hx
   have c0:=(hS.bel.cell (Zc c0)).trans c0
   have c1:=(hS.bel.cell (Zc c1)).trans c1
   have i0:(0:Int)≤(j:Int):=by omega
   have i1:(j:Int)<(n:Int):=by omega
   have i2:decide (j<n)=true:=decide_eq_true hlt
   have u2:wrap64 ((j:Int)+1)=(j:Int)+1:=Zn _ (by omega) (by omega)
   obtain ⟨W1,e1⟩:∃ V,V=W.alloc (.cells #[.int .i64 x.id,.slice CA cn cc] 70 (0,0)):=⟨_,rfl⟩
   obtain ⟨q5,eq5⟩:∃ q,q=W.heap.size:=⟨_,rfl⟩
   have hg5:W1.heap[q5]?=some (.cells #[.int .i64 x.id,.slice CA cn cc] 70 (0,0)):=by rw [e1,eq5];exact heap_alloc_new W _
   have hb1:Below W.heap.size W W1:=by rw [e1];exact Zg W _
   have hSd:Ses w W1.drew (Zb qo (wO t (.slice OA rs.length oc)) :: rowP w.heap.size 70 2 rs.length (.slice OA rs.length oc) (ers rs) :: (rs.map erP++[Zb (g+1) (wO 0 (.slice none 0 0))])):=(hS.below hb1).below (Below.refl _ _).drew
   have hbo:W1.drew.heap[qo]?=some (wO t (.slice OA rs.length oc)):=hSd.part (p:=Zb qo (wO t (.slice OA rs.length oc))) (by simp)
   have hE:Zo W1.drew CA cn cc x.cs:=hr.below hSd.bel
   obtain ⟨Wd,ed⟩:∃ V,V=W1.drew:=⟨_,rfl⟩
   have HC:W1.drew.cell? ⟨qo,1,none⟩=some (.slice OA rs.length oc)∧W1.drew.cell? ⟨q5,0,none⟩=some (.int .i64 x.id)∧W1.drew.cell? ⟨q5,1,none⟩=some (.slice CA cn cc):=⟨Za hbo 1 _ rfl,Za (show W1.drew.heap[q5]?=_ from hg5) 0 _ rfl,Za (show W1.drew.heap[q5]?=_ from hg5) 1 _ rfl⟩
   rw [←ed] at HC hSd hE
   have HE:=Qh hE
   have HCQ:=Qh HC.2.1
   have hxm:=List.mem_of_getElem? hx
   obtain ⟨y0,hy0⟩:∃ y,x.cs[0]?=some y:=⟨_,List.getElem?_eq_getElem (List.length_pos_iff.2 (HNE.out.1 x hxm))⟩
   obtain ⟨cb,co,eca,_⟩:=hr.at_ 0 y0 hy0
   have HCA:=Qh eca
   clear eca
   have HCN:=Qh (show x.cs.length=cn∧0+cn≤maxLen∧(0+cn)*40≤140737488355328 from by have h1:=hr.len;have h2:=HNE.out.2 x hxm;unfold maxLen;exact ⟨h1.symm,by omega,by omega⟩)
   clear hxm hy0
   have HSd:=Qh hSd
   have HD:=Qh ed
   have HN:=Qh (show rs.length+1≤maxLen∧(rs.length+1)*32≤140737488355328 by unfold maxLen;omega)
   have HX:=Qh (Qi hlt (Qi hg (Qi hrs hx)))
   clear hlt hg hrs hx hS hr hb1 hg5 hSd hbo hE ed h hlen hrl
   go_upto_region 5 with fail
   rw [←e1,←eq5]
   clear e1 eq5
   refine Yy (fun W=>W.cell? ⟨qo,1,none⟩=some (.slice OA rs.length oc)∧W.cell? ⟨q5,0,none⟩=some (.int .i64 x.id)∧W.cell? ⟨q5,1,none⟩=some (.slice CA cn cc)) 10 hmx ?_
   change Zz _ _ _ _ _ _ _ _ _ (World.drew _)
   rw [←HD.out]
   refine tkp 0 rfl (Or.inr HC) ?_
   refine tkp 2 rfl (Or.inr HC) ?_
   refine tkp 5 rfl (Or.inr HC) ?_
   refine tkl 1 rfl HC (by intro W ⟨hC0,hC1,hC2⟩;go_simp;try with_reducible rfl) ?_
   refine tkl 3 rfl HC (by intro W ⟨hC0,hC1,hC2⟩;go_simp;try with_reducible rfl) ?_
   refine tkl 6 rfl HC (by intro W ⟨hC0,hC1,hC2⟩;go_simp;try with_reducible rfl) ?_
   refine Zi 4 rfl (fun K hK=>?_)
   go_simp
   obtain ⟨Wb,g0,e0,eg0,hgb,hbb⟩:∃ V q,V=Wd.alloc (.cells #[] 75 (0,0))∧q=Wd.heap.size∧V.heap[q]?=some (.cells #[] 75 (0,0))∧Below Wd.heap.size Wd V:=⟨_,_,rfl,rfl,heap_alloc_new Wd _,Zg Wd _⟩
   have hO0:Wb.ownsRow Wd.heap.size 75 5 (.slice (some ⟨g0,0,none⟩) 0 0) 0 []:=⟨rfl,.inr ⟨g0,0,#[],rfl,Nat.le_of_eq eg0.symm,hgb,Nat.le_refl _,Nat.zero_le _,rfl,rfl⟩⟩
   have hS0:Ses w Wb (rowP Wd.heap.size 75 5 0 (.slice (some ⟨g0,0,none⟩) 0 0) [] :: Zb qo (wO t (.slice OA rs.length oc)) :: rowP w.heap.size 70 2 rs.length (.slice OA rs.length oc) (ers rs) :: (rs.map erP++[Zb (g+1) (wO 0 (.slice none 0 0))])):=HSd.out.new hbb (Za3 hO0) (fun q hq=>(Yg hO0 (by simpa [rowP] using hq)).2)
   have HC:=cr3 hbb HC
   have hqg:q5<g0:=by rw [eg0];exact Zc HCQ.out
   have HS0:=Qh (Qi hS0 (Qi hqg (Qi hbb.size (HE.out.below hbb))))
   clear hO0 hS0 hgb hbb hqg
   refine hK _ _ ?_;clear hK K
   rw [←e0,←eg0]
   clear e0 eg0
   refine ⟨Or.inr HC,?_⟩
   refine Zi 7 rfl (fun K hK=>?_)
   refine Zbz rfl (.tmp 20) (.tmp 22) 68 rfl Wd.heap.size 75 ic _ 5 40 Tryz.underlying68 HIC.out.1 HIC.out.2.1 HIC.out.2.2.1 HIC.out.2.2.2 rfl (by decide) _ 0 [] rfl HS0.out.1.head ⟨cb,co,none⟩ cn cc (Ya x.cs) (congrArg (fun A=>Value.slice A cn cc) HCA.out) (by rw [ZcP,HCN.out.1]) (Zrr (by rw [←HCA.out];exact HS0.out.2.2.2)) (ZgD x.cs) HCN.out.2.1 HCN.out.2.2 HS0.out.2.2.1 (fun v2 W2 hown hg _ hblk=>?_)
   have hS1:=HS0.out.1.rowApp hown hg hblk
   rw [Nat.zero_add,List.nil_append,←HCN.out.1] at hown
   obtain ⟨PA,qc,rfl,hPC⟩:=ZcU hown (by have:=HCN.out.2.1;have:=HE.out.lim;have:=HCN.out.1;omega) HE.out.kind
   obtain ⟨qn,eqn⟩:∃ q,q=x.cs.length:=⟨_,rfl⟩
   rw [←eqn] at hPC
   have hS2:Ses w W2 (YO PA qn qc x.cs :: Zb qo (wO t (.slice OA rs.length oc)) :: rowP w.heap.size 70 2 rs.length (.slice OA rs.length oc) (ers rs) :: (rs.map erP++[Zb (g+1) (wO 0 (.slice none 0 0))])):=hS1.swap (fun q hq=>Zrs hq) (Zdo hPC (fun _ _ _ _=>trivial))
   have HC:W2.cell? ⟨qo,1,none⟩=some (.slice OA rs.length oc)∧W2.cell? ⟨q5,0,none⟩=some (.int .i64 x.id)∧W2.cell? ⟨q5,1,none⟩=some (.slice CA cn cc):=⟨Za (show W2.heap[qo]?=some (wO t (.slice OA rs.length oc)) from hS2.part (p:=Zb qo (wO t (.slice OA rs.length oc))) (by simp)) 1 _ rfl,hg.cell HC.2.1 (fun e=>by have h1:=HS0.out.2.1;have h2:g0=q5:=Option.some.inj e.symm;omega),hg.cell HC.2.2 (fun e=>by have h1:=HS0.out.2.1;have h2:g0=q5:=Option.some.inj e.symm;omega)⟩
   have HS2:=Qh hS2
   rw [←eqn]
   clear hown hg hblk hS1 hS2 hPC eqn
   refine hK _ _ ?_;clear hK K
   refine ⟨Or.inr HC,?_⟩
   refine tkp 8 rfl (Or.inr HC) ?_
   refine Zi 9 rfl (fun K hK=>?_)
   go_simp
   obtain ⟨W3,e3⟩:∃ V,V=W2.alloc (.cells #[.int .i64 x.id,.slice PA qn qc] 70 (0,0)):=⟨_,rfl⟩
   obtain ⟨g3,eg3⟩:∃ q,q=W2.heap.size:=⟨_,rfl⟩
   have hS3:Ses w W3 (rowP w.heap.size 70 2 rs.length (.slice OA rs.length oc) (ers rs) :: YO PA qn qc x.cs :: Zb qo (wO t (.slice OA rs.length oc)) :: (rs.map erP++[Zb (g+1) (wO 0 (.slice none 0 0))])):=by rw [e3];exact (HS2.out.below (Zg W2 _)).third'
   have hb3:Below W2.heap.size W2 W3:=by rw [e3];exact Zg W2 _
   have HC:=cr3 hb3 HC
   obtain ⟨x9,ex9⟩:∃ x9:ER,x9=⟨x,PA,qn,qc⟩:=⟨_,rfl⟩
   have hnews:∀ j u,x9.cells[j]?=some u→W3.cell? ((⟨g3,0,none⟩:Addr).add j)=some u:=by rw [e3,ex9];exact XC W2 #[.int .i64 x.id,.slice PA qn qc] 70 g3 eg3
   have HS3:=Qh (Qi hS3 (Qi hnews ex9))
   clear hS3 hb3 hnews ex9
   refine hK _ _ ?_;clear hK K
   rw [←e3,←eg3]
   clear e3 eg3
   refine ⟨Or.inr HC,?_⟩
   refine Zi 10 rfl (fun K hK=>?_)
   refine Zbz rfl (.tmp 17) (.tmp 25) 22 rfl w.heap.size 70 i9 _ 2 32 Tryz.underlying22 HI.out.1 HI.out.2.1 HI.out.2.2.1 HI.out.2.2.2 rfl (by decide) _ rs.length (ers rs) rfl HS3.out.1.head ⟨g3,0,none⟩ 1 1 x9.cells rfl rfl HS3.out.2.1 (ZaP x9) HN.out.1 HN.out.2 HS3.out.1.bel.size (fun v5 W5 hown5 hg5 _ hblk=>?_)
   obtain ⟨g5,c5,rfl⟩:=ownsRow_succ hown5
   have hS5:=HS3.out.1.rowApp hown5 hg5 hblk
   have hb5:W5.heap[qo]?=some (wO t (.slice OA rs.length oc)):=hS5.part (p:=Zb qo (wO t (.slice OA rs.length oc))) (by simp)
   have y1:W5.cell? ⟨qo,1,none⟩=some (.slice OA rs.length oc):=Za hb5 1 _ rfl
   have y2:=Zd hb5 1
   have HS5:=Qh hS5
   clear hown5 hg5 hblk hb5 hS5
   refine hK _ _ ?_;clear hK K
   refine ⟨Or.inl (by kernel_rfl),?_⟩
   refine tkq 11 rfl ?_
   refine ZmU (j:=12) (by kernel_rfl) ?_
   exact Tq20
  ·exact Tq11
end
end Go.Proofs.YtlgcfimhfmgkmaaGreatDoor
namespace Go.Proofs.YtlgcfimhfmgkmaaGreatDoor
open Go.RowKit
section
theorem Zru:(Tryz.prog.info? 222).map (fun i=>(i.zero,i.size,i.bytes))=some (some (.agg #[.int .i64 0,.int .i64 0,.int .i64 0,.slice none 0 0]),4,48):=by kernel_rfl
def ZjP (l:List Rec):Prop:=∀ r,r∈l→r.es.length≤1000∧(∀ e,e∈r.es→e.cs≠[])∧∀ e,e∈r.es→e.cs.length≤1000
theorem ZjQ (A:Option Addr) (n c:Nat) (l:List Rec) (w:World) (h:Zy w A n c l) (hn:n≤1000) (hs:ZjP l) :
  Calls Tryz.prog 71 #[.slice A n c] w fun e w'=>∃ (v:Value) (ls:List LR),e=.returned v∧ls.map LR.r=l∧Ses w w' (rowP w.heap.size 222 4 ls.length v (lrs ls) :: ls.map lrP):=by
 have hmx:Tryz.prog.follows .mixedOrders=true:=by kernel_rfl
 obtain ⟨i9,hi9,hz0,hz1,hz2⟩:=info_parts Zru
 have HI:=Qh (Qi hi9 (Qi hz0 (Qi hz1 hz2)))
 have H:=Qh (Qi h (Qi hn hs))
 clear h hi9 hz0 hz1 hz2 hn hs
 go_enter Tryz.func71,Tryz.ntmps71
 go_wp2_with fail
 go_loopg [3,8] n (fun gh v iv wr=>∃ (j:Nat) (ls:List LR),gh+j=n∧iv=.int .i64 (j:Nat)∧ls.map LR.r=l.take j∧Ses w wr (rowP w.heap.size 222 4 ls.length v (lrs ls) :: ls.map lrP))
 case atStart=>exact ⟨0,[],rfl,rfl,rfl,(Ses.start w).row0 w.heap.size 222 4⟩
 case round=>
  obtain ⟨j,ls,hg,rfl,hls,hS⟩:=hrel
  obtain ⟨Wb,eW⟩:∃ V,V=wr:=⟨_,rfl⟩
  rw [←eW] at hS ⊢
  clear eW
  have h:=H.out.1
  have hlen:=h.len
  have hn:=H.out.2.1
  have hrl:ls.length≤n:=by
   have:=congrArg List.length hls
   rw [List.length_map,List.length_take] at this
   omega
  obtain ⟨OA,oc,eo⟩:=YF (hS.part (p:=rowP w.heap.size 222 4 ls.length _ (lrs ls)) (.head _))
  subst eo
  by_cases hlt:j<n
  ·obtain ⟨x,hx⟩:∃ x,l[j]?=some x:=⟨_,List.getElem?_eq_getElem (by omega)⟩
   obtain ⟨b,o,CA,cn,cc,rfl,⟨c0,c1,c2,c3⟩,hr⟩:=h.at_ j x hx
   have c0:=(hS.bel.cell (Zc c0)).trans c0
   have c1:=(hS.bel.cell (Zc c1)).trans c1
   have c2:=(hS.bel.cell (Zc c2)).trans c2
   have c3:=(hS.bel.cell (Zc c3)).trans c3
   have i0:(0:Int)≤(j:Int):=by omega
   have i1:(j:Int)<(n:Int):=by omega
   have i2:decide (j<n)=true:=decide_eq_true hlt
   have u2:wrap64 ((j:Int)+1)=(j:Int)+1:=Zn _ (by omega) (by omega)
   obtain ⟨W1,q5,e1,eq5,hg5,hb5⟩:∃ V q,V=Wb.alloc (.cells #[.int .i64 x.num,.int .i64 x.base,.int .i64 x.tick,.slice CA cn cc] 45 (0,0))∧q=Wb.heap.size∧V.heap[q]?=some (.cells #[.int .i64 x.num,.int .i64 x.base,.int .i64 x.tick,.slice CA cn cc] 45 (0,0))∧Below Wb.heap.size Wb V:=⟨_,_,rfl,rfl,heap_alloc_new Wb _,Zg Wb _⟩
   have hS1:=hS.below hb5
   have HE:=Qh (hr.below hS1.bel)
   have HM:=Qh (show cn≤1000∧(∀ e,e∈x.es→e.cs≠[])∧∀ e,e∈x.es→e.cs.length≤1000 from by have h1:=H.out.2.2 x (List.mem_of_getElem? hx);exact ⟨by rw [hr.len];exact h1.1,h1.2⟩)
   have HN:=Qh (show ls.length+1≤maxLen∧(ls.length+1)*48≤140737488355328 by unfold maxLen;omega)
   have HX:=Qh (Qi hlt (Qi hg (Qi hls (Qi hx hS1))))
   have HQ:=Qh hg5
   have E1:=Qh (Qi e1 eq5)
   clear hlt hg hls hx hS hr hg5 h hlen hrl hS1 hb5 e1 eq5
   go_upto_region 5 with fail
   rw [←E1.out.1,←E1.out.2]
   clear E1 c0 c1 c2 c3
   obtain ⟨wd5,ed⟩:∃ W,W=W1.drew:=⟨_,rfl⟩
   have hbd:Below W1.heap.size W1 wd5:=by rw [ed];exact (Below.refl _ _).drew
   have HC:wd5.cell? ⟨q5,0,none⟩=some (.int .i64 x.num)∧wd5.cell? ⟨q5,1,none⟩=some (.int .i64 x.base)∧wd5.cell? ⟨q5,2,none⟩=some (.int .i64 x.tick)∧wd5.cell? ⟨q5,3,none⟩=some (.slice CA cn cc):=⟨Za ((hbd.block _ (lt_of_block HQ.out)).trans HQ.out) 0 _ rfl,Za ((hbd.block _ (lt_of_block HQ.out)).trans HQ.out) 1 _ rfl,Za ((hbd.block _ (lt_of_block HQ.out)).trans HQ.out) 2 _ rfl,Za ((hbd.block _ (lt_of_block HQ.out)).trans HQ.out) 3 _ rfl⟩
   have HB:=Qh hbd
   have HD:=Qh ed
   clear hbd ed
   refine Yy (fun W=>W.cell? ⟨q5,0,none⟩=some (.int .i64 x.num)∧W.cell? ⟨q5,1,none⟩=some (.int .i64 x.base)∧W.cell? ⟨q5,2,none⟩=some (.int .i64 x.tick)∧W.cell? ⟨q5,3,none⟩=some (.slice CA cn cc)) 10 hmx ?_
   change Zz _ _ _ _ _ _ _ _ _ (World.drew _)
   rw [←HD.out]
   refine tkp 0 rfl (Or.inr HC) ?_
   refine tkp 1 rfl (Or.inr HC) ?_
   refine tkp 3 rfl (Or.inr HC) ?_
   refine tkp 5 rfl (Or.inr HC) ?_
   refine tkl 2 rfl HC (by intro W ⟨hC0,hC1,hC2,hC3⟩;go_simp;try with_reducible rfl) ?_
   refine tkl 4 rfl HC (by intro W ⟨hC0,hC1,hC2,hC3⟩;go_simp;try with_reducible rfl) ?_
   refine tkl 6 rfl HC (by intro W ⟨hC0,hC1,hC2,hC3⟩;go_simp;try with_reducible rfl) ?_
   refine Zi 7 rfl (fun K hK=>?_)
   go_simp
   refine (Zrt x.tick CA cn cc x.es wd5 (HE.out.below HB.out) HM.out.1 HM.out.2.1 HM.out.2.2).mono ?_
   rintro e v51 ⟨WA,wn,wc,rfl,hNE,hbN⟩
   obtain ⟨F,hok,hlow⟩:=hNE
   have hS0:Ses w wd5 (rowP w.heap.size 222 4 ls.length (.slice OA ls.length oc) (lrs ls) :: ls.map lrP):=HX.out.2.2.2.2.below HB.out
   have hS1:Ses w v51 (eP F WA wn wc x.es :: rowP w.heap.size 222 4 ls.length (.slice OA ls.length oc) (lrs ls) :: ls.map lrP):=Ses.new (p:=eP F WA wn wc x.es) hS0 hbN hok hlow
   have HS:=Qh hS1
   have HC:=cr4 hbN HC
   have HB:=Qh (Ze HB.out hbN)
   clear hok hlow hbN hS0 hS1
   refine hK _ _ ?_;clear hK K
   refine ⟨Or.inr HC,?_⟩
   refine tkp 8 rfl (Or.inr HC) ?_
   refine Zi 9 rfl (fun K hK=>?_)
   go_simp
   obtain ⟨v52,g4,e4,eg4⟩:∃ V q,V=v51.alloc (.cells #[.int .i64 x.num,.int .i64 x.base,.int .i64 x.tick,.slice WA wn wc] 222 (0,0))∧q=v51.heap.size:=⟨_,_,rfl,rfl⟩
   have hbN:Below v51.heap.size v51 v52:=by rw [e4];exact Zg v51 _
   obtain ⟨x9,ex9⟩:∃ x9:LR,x9=⟨x,F,WA,wn,wc⟩:=⟨_,rfl⟩
   have hnews:∀ j u,x9.cells[j]?=some u→v52.cell? ((⟨g4,0,none⟩:Addr).add j)=some u:=by rw [e4,ex9];exact XC v51 #[.int .i64 x.num,.int .i64 x.base,.int .i64 x.tick,.slice WA wn wc] 222 g4 eg4
   have hS4:Ses w v52 (rowP w.heap.size 222 4 ls.length (.slice OA ls.length oc) (lrs ls) :: lrP x9 :: ls.map lrP):=by rw [ex9];exact (HS.out.below hbN).front2
   have HS4:=Qh (Qi hS4 (Qi hnews ex9))
   have HC:=cr4 hbN HC
   have HB:=Qh (Ze HB.out hbN)
   clear hbN hnews hS4 ex9
   refine hK _ _ ?_;clear hK K
   rw [←e4,←eg4]
   clear e4 eg4
   refine ⟨Or.inr HC,?_⟩
   refine Zi 10 rfl (fun K hK=>?_)
   refine Zbz rfl (.tmp 12) (.tmp 21) 56 rfl w.heap.size 222 i9 _ 4 48 Tryz.underlying56 HI.out.1 HI.out.2.1 HI.out.2.2.1 HI.out.2.2.2 rfl (by decide) _ ls.length (lrs ls) rfl HS4.out.1.head ⟨g4,0,none⟩ 1 1 x9.cells rfl rfl HS4.out.2.1 (ZbG x9) HN.out.1 HN.out.2 HS4.out.1.bel.size (fun v5 v53 hown5 hg5 _ hblk=>?_)
   obtain ⟨g5,c5,rfl⟩:=ownsRow_succ hown5
   have HS5:=Qh (HS4.out.1.rowApp hown5 hg5 hblk)
   clear hown5 hg5 hblk
   refine hK _ _ ?_;clear hK K
   refine ⟨Or.inl (by kernel_rfl),?_⟩
   refine tkq 11 rfl ?_
   refine ZX (by kernel_rfl) ?_ _
   try clear HC
   exact Tq31
  ·exact Tq51
end
end Go.Proofs.YtlgcfimhfmgkmaaGreatDoor
