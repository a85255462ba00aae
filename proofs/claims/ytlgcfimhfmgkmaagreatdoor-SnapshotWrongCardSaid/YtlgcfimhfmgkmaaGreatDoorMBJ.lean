/- Lemmas for the statement. -/
import Derived.Test.YtlgcfimhfmgkmaaGreatDoorMBH
import Derived.Test.YtlgcfimhfmgkmaaGreatDoorMBI
set_option linter.unusedVariables false
set_option linter.unusedSimpArgs false
namespace Go.Proofs.YtlgcfimhfmgkmaaGreatDoor
open Go.RowKit
section
def Xb (cl:Int):Cmp:=⟨4,cl,0,0,0⟩
def wtN (x e:Ent):Int:=((Jy (max (ZV e-ZV x).natAbs (ZW e-ZW x).natAbs):Nat):Int)
def JV (cl:Int) (e:Ent) (l:List Ent):Int:=l.foldl (fun a x=>if (JU (Xb cl) x&&(YR x&&YR e))=true then max a (wtN x e) else a) 1
def Ji (cl:Int) (v:List Ent) (e:Ent):Int:=if JU (Xb cl) e=true then 16 else JV cl e v
def JW (ids gone:List Int) (e:Ent):Bool:=decide (e.id∈ids)&&!(decide (e.id∈gone))
def Jz (cl:Int) (v:List Ent) (ids gone:List Int):List Wt:=(v.filter (JW ids gone)).map (fun e=>⟨e.id,Ji cl v e⟩)
theorem ZpY (x e:Ent):1≤wtN x e∧wtN x e≤16:=by
 unfold wtN Jy
 omega
theorem ZpZ (cl:Int) (e:Ent) (l:List Ent) (j:Nat) (x:Ent) (h:l[j]?=some x):JV cl e (l.take (j+1))=if (JU (Xb cl) x&&(YR x&&YR e))=true then max (JV cl e (l.take j)) (wtN x e) else JV cl e (l.take j):=by
 rw [List.take_add_one,h]
 unfold JV
 rw [List.foldl_append]
 rfl
theorem Zi6 (cl:Int) (e:Ent) (l:List Ent):1≤JV cl e l∧JV cl e l≤16:=by
 unfold JV
 suffices H:∀ (l:List Ent) (a:Int),1≤a∧a≤16→1≤l.foldl (fun a x=>if (JU (Xb cl) x&&(YR x&&YR e))=true then max a (wtN x e) else a) a∧l.foldl (fun a x=>if (JU (Xb cl) x&&(YR x&&YR e))=true then max a (wtN x e) else a) a≤16 from H l 1 (by decide)
 intro l
 induction l with
 | nil=>intro a h;exact h
 | cons x l ih=>
  intro a h
  refine ih _ ?_
  have:=ZpY x e
  dsimp only
  split<;>omega
theorem Zp0 (cl:Int) (v:List Ent) (e:Ent):1≤Ji cl v e∧Ji cl v e≤16:=by
 unfold Ji
 split
 ·omega
 ·exact Zi6 cl e v
def Wt.cells (x:Wt):List Value:=[.int .i64 x.i,.int .i64 x.w]
def XA (l:List Wt):List Value:=l.flatMap Wt.cells
theorem Zi7 (x:Wt):x.cells.length=2:=rfl
theorem Zi8 (x:Wt):∀ u∈x.cells,u.oneCell'=true:=by
 intro u hu
 simp only [Wt.cells,List.mem_cons,List.not_mem_nil,or_false] at hu
 rcases hu with rfl|rfl<;>rfl
theorem Zi9 (l:List Wt) (t:Wt):XA (l++[t])=XA l++t.cells:=by simp [XA]
theorem Zp1:(Tryz.prog.info? 167).map (fun i=>(i.zero,i.size,i.bytes))=some (some (.agg #[.int .i64 0,.int .i64 0]),2,16):=by kernel_rfl
theorem Zp2 (cl:Int) (v:List Ent) (ids gone:List Int) (j:Nat) (x:Ent) (h:v[j]?=some x):((v.take (j+1)).filter (JW ids gone)).map (fun e=>(⟨e.id,Ji cl v e⟩:Wt))=((v.take j).filter (JW ids gone)).map (fun e=>(⟨e.id,Ji cl v e⟩:Wt))++(if JW ids gone x=true then [⟨x.id,Ji cl v x⟩] else []):=by
 rw [List.take_add_one,h,List.filter_append,List.map_append]
 congr 1
 rcases hb:JW ids gone x with _ | _<;>simp [List.filter_cons,hb]
theorem Tq54 {p:Prop} (h:p:=by
 go_roundg (n-(j+1))
 case measure=>have:=HX.out.1;have:=HX.out.2.1;omega
 case rel=>
  refine ⟨j+1,l,by have:=HX.out.1;have:=HX.out.2.1;omega,by go_num,?_,HB.out.tail⟩
  rw [HWT.out]
  rw [←HX.out.2.2.1]
  exact (List.append_nil l).symm):p:=h
theorem Tq22 {p:Prop} (h:p:=by
 clear hall
 go_wp2_with (go_at_call 97;refine FO.mono ?_;rintro e V4 ⟨rfl,hb4⟩;have HV5:=Qh (HKEY.out V4 hb4);clear hb4 FO y0 y1)
 go_roundg (n-(j2+1))
 case measure=>have:=HY.out.1;have:=HY.out.2.1;omega
 case rel=>
  refine ⟨j2+1,a2,by have:=HY.out.1;have:=HY.out.2.1;omega,rfl,by go_num,?_,HV5.out⟩
  rw [HS8.out.2];rfl):p:=h
theorem Tq17 {p:Prop} (h:p:=by
 have HS6:=Qh (Qi hS5 (Qi hnews ex9))
 clear hS5 hnews ex9 Xp
 go_upto_region 20 with (at_builtin;rw [←e5,←eg5];clear e5 eg5;refine wpList_append_own_at _ rfl (.tmp 78) (.tmp 83) 101 rfl w.heap.size 167 i9 _ 2 16 Tryz.underlying101 HI.out.1 HI.out.2.1 HI.out.2.2.1 HI.out.2.2.2 rfl (by decide) _ l.length _ rfl HS6.out.1.head ⟨g5,0,none⟩ 1 1 x9.cells rfl rfl HS6.out.2.1 (Zi8 x9) HN.out.1 HN.out.2 HS6.out.1.bel.size ?_;intro v7 V7 QY hg7 _ hblk7;have HS7:=Qh (HS6.out.1.rowApp QY hg7 hblk7);clear QY hg7 hblk7 y0)
 go_wp2_with fail
 go_roundg (n-(j+1))
 case measure=>have:=HX.out.1;have:=HX.out.2.1;omega
 case rel=>
  refine ⟨j+1,l++[x9],by have:=HX.out.1;have:=HX.out.2.1;omega,by go_num,?_,?_⟩
  ·rw [HWT.out,←HX.out.2.2.1,HWG.out,HS6.out.2.2];rfl
  ·rw [List.length_append,Zi9]
   exact HS7.out.sub (List.Sublist.cons_cons _ (.cons _ (.cons _ (List.Sublist.refl _))))):p:=h
set_option maxRecDepth 100000 in
set_option maxHeartbeats 8000000 in
theorem Zp3 (t cl:Int) (A IA GA:Option Addr) (n c ni ci ng cg:Nat) (v:List Ent) (ids gone:List Int) (w:World) (hv:Zj w A n c v) (hi:XF w IA ni ids) (hg:XF w GA ng gone) (hin:∀ e,e∈v→InP (ZV e) (ZW e)) (hn:n≤1000) :
    Calls Tryz.prog 47 #[.agg #[.int .i64 t,.slice A n c],.int .i64 cl,.slice IA ni ci,.slice GA ng cg] w fun e w'=>∃ OA oc,e=.returned (.slice OA (Jz cl v ids gone).length oc)∧Ses w w' [rowP w.heap.size 167 2 (Jz cl v ids gone).length (.slice OA (Jz cl v ids gone).length oc) (XA (Jz cl v ids gone))]:=by
  obtain ⟨w1,g,e1,eg,hS1⟩:∃ W q,W=w.alloc (wO t (.slice A n c))∧q=w.heap.size∧Ses w W [Zb q (wO t (.slice A n c))]:=⟨_,_,rfl,rfl,(Ses.start w).allocObj _⟩
  obtain ⟨w2,mb,e2,emb,hS2⟩:∃ W q,W=w1.alloc (.cells #[.int .u8 4,.int .i64 cl,.int .i64 0,.int .i64 0,.int .i64 0] 75 (0,0))∧q=w1.heap.size∧Ses w W (Zb q (ZF (Xb cl)) :: [Zb g (wO t (.slice A n c))]):=⟨_,_,rfl,rfl,hS1.allocObj _⟩
  have hg2:w2.heap[g]?=some (wO t (.slice A n c)):=hS2.part (p:=Zb g (wO t (.slice A n c))) (by simp)
  have f1:w2.cell? ⟨g,1,none⟩=some (.slice A n c):=Za hg2 1 _ rfl
  obtain ⟨i9,hi9,hz0,hz1,hz2⟩:=info_parts Zp1
  have HI:=Qh (Qi hi9 (Qi hz0 (Qi hz1 hz2)))
  have H:=Qh (Qi hv (Qi hi (Qi hg (Qi hin (Qi hn hS2)))))
  clear hv hi hg hin hn hS1 hS2 hg2 hi9 hz0 hz1 hz2
  unfold wO at e1
  go_enter Tryz.func47,Tryz.ntmps47
  go_upto_region 1 with fail
  rw [←e1,←eg]
  clear e1 eg
  go_upto_region 2 with fail
  rw [←e2,←emb]
  clear e2 emb
  go_wp2_with fail
  go_loopg [11,28] n (fun gh ov iv wr=>∃ (j:Nat) (l:List Wt),gh+j=n∧iv=.int .i64 (j:Nat)∧l=((v.take j).filter (JW ids gone)).map (fun e=>(⟨e.id,Ji cl v e⟩:Wt))∧Ses w wr (rowP w.heap.size 167 2 l.length ov (XA l) :: [Zb mb (ZF (Xb cl)),Zb g (wO t (.slice A n c))]))
  case atStart=>exact ⟨0,[],rfl,rfl,rfl,H.out.2.2.2.2.2.row0 w.heap.size 167 2⟩
  case round=>
    obtain ⟨j,l,hg,rfl,hl,hS⟩:=hrel
    obtain ⟨W,eW⟩:∃ W,W=wr:=⟨_,rfl⟩
    rw [←eW] at hS ⊢
    clear eW
    have h:=H.out.1
    have hlen:=h.len
    have hn:=H.out.2.2.2.2.1
    obtain ⟨OA,oc,eo⟩:=YF (hS.part (p:=rowP w.heap.size 167 2 l.length _ (XA l)) (.head _))
    subst eo
    have hll:l.length≤n:=by
      rw [hl,List.length_map]
      have h1:=List.length_filter_le (JW ids gone) (v.take j)
      have h2:=List.length_take_le' j v
      omega
    by_cases hlt:j<n
    · obtain ⟨x,hx⟩:∃ x,v[j]?=some x:=⟨_,List.getElem?_eq_getElem (by omega)⟩
      obtain ⟨b,o,CA,cn,cc,eA,⟨c0,c1⟩,hr⟩:=h.at_ j x hx
      subst eA
      have c0:=(hS.bel.cell (Zc c0)).trans c0
      have c1:=(hS.bel.cell (Zc c1)).trans c1
      have i0:(0:Int)≤(j:Int):=by omega
      have i1:(j:Int)<(n:Int):=by omega
      have i2:decide (j<n)=true:=decide_eq_true hlt
      have u2:wrap64 ((j:Int)+1)=(j:Int)+1:=Zn _ (by omega) (by omega)
      obtain ⟨W1,q13,e1,Zja,hS1⟩:∃ V q,V=W.alloc (.cells #[.int .i64 x.id,.slice CA cn cc] 70 (0,0))∧q=W.heap.size∧Ses w V (Zb q (.cells #[.int .i64 x.id,.slice CA cn cc] 70 (0,0)) :: rowP w.heap.size 167 2 l.length (.slice OA l.length oc) (XA l) :: [Zb mb (ZF (Xb cl)),Zb g (wO t (.slice (some ⟨b,o,none⟩) n c))]):=⟨_,_,rfl,rfl,hS.allocObj _⟩
      have Xp:W1.heap[q13]?=some (.cells #[.int .i64 x.id,.slice CA cn cc] 70 (0,0)):=hS1.sep.head
      have y0:W1.cell? ⟨q13,0,none⟩=some (.int .i64 x.id):=Za Xp 0 _ rfl
      have FA:=Zfu IA ni ci ids x.id W1 (H.out.2.1.below hS1.bel)
      obtain ⟨a,ea⟩:∃ a,a=decide (x.id∈ids):=⟨_,rfl⟩
      rw [←ea] at FA
      obtain ⟨bb,ebb⟩:∃ a,a=decide (x.id∈gone):=⟨_,rfl⟩
      have HN:=Qh (show l.length+1≤maxLen∧(l.length+1)*16≤140737488355328 by unfold maxLen;omega)
      have HX:=Qh (Qi hlt (Qi hg (Qi hl (Qi hx (Qi hS1 (Qi (Qi ea ebb) hr))))))
      clear hlt hg hl hx hS hr Xp hS1 h hlen hll ea ebb
      go_upto_region 7 with fail
      rw [←e1,←Zja]
      clear e1 Zja
      have hW:=Zp2 cl v ids gone j x HX.out.2.2.2.1
      have hwb:JW ids gone x=(a&&!bb):=by unfold JW;rw [HX.out.2.2.2.2.2.1.1,HX.out.2.2.2.2.2.1.2]
      rw [hwb] at hW
      have HWT:=Qh hW
      clear hW hwb
      rcases a with _ | _
      · go_wp2_with (go_at_call 99;refine FA.mono ?_;rintro e W2 ⟨rfl,hb2⟩;have HB:=Qh (HX.out.2.2.2.2.1.below hb2);clear hb2 FA)
        exact Tq54
      rcases bb with _ | _
      case true=>
        go_wp2_with (first
          | (have t1:=FA
             go_at_call 99
             refine t1.mono ?_
             rintro e W2 ⟨rfl,hb2⟩
             have hS2:=HX.out.2.2.2.2.1.below hb2
             have y0:=(hb2.cell (Zc y0)).trans y0
             have FB:=Zfu GA ng cg gone x.id W2 (H.out.2.2.1.below hS2.bel)
             rw [←HX.out.2.2.2.2.2.1.2] at FB
             have HB1:=Qh hS2
             clear hb2 FA t1 hS2)
          | (have t2:=FB
             go_at_call 99
             refine t2.mono ?_
             rintro e W3 ⟨rfl,hb3⟩
             have HB:=Qh (HB1.out.below hb3)
             clear hb3 FB t2))
        exact Tq54
      case false=>
        go_upto_region 8 with (first
          | (have t1:=FA
             go_at_call 99
             refine t1.mono ?_
             rintro e W2 ⟨rfl,hb2⟩
             have hS2:=HX.out.2.2.2.2.1.below hb2
             have y0:=(hb2.cell (Zc y0)).trans y0
             have FB:=Zfu GA ng cg gone x.id W2 (H.out.2.2.1.below hS2.bel)
             rw [←HX.out.2.2.2.2.2.1.2] at FB
             have HB1:=Qh hS2
             clear hb2 FA t1 hS2)
          | (have t2:=FB
             go_at_call 99
             refine t2.mono ?_
             rintro e W3 ⟨rfl,hb3⟩
             have HB:=Qh (HB1.out.below hb3)
             clear hb3 FB t2))
        clear y0 c0 c1
        have Xp:W3.heap[q13]?=some (.cells #[.int .i64 x.id,.slice CA cn cc] 70 (0,0)):=HB.out.sep.head
        obtain ⟨y0,y1⟩:=cs2 Xp
        have FP:=Zi5 x CA cn cc W3 (HX.out.2.2.2.2.2.2.below HB.out.bel)
        obtain ⟨P,eP⟩:∃ P,P=YR x:=⟨_,rfl⟩
        rw [←eP] at FP
        have HEP:=Qh eP
        clear Xp eP
        go_upto_region 10 with (
          go_at_call 100
          refine FP.mono ?_
          rintro e W4 ⟨rfl,hb4⟩
          have HB4:=Qh (HB.out.below hb4)
          clear hb4 FP y0 y1)
        obtain ⟨W5,q15,e5,Zcj,hS5⟩:∃ V q,V=W4.alloc (.cells #[.int .i64 (ZV x),.int .i64 (ZW x)] 152 (0,0))∧q=W4.heap.size∧Ses w V (Zb q (.cells #[.int .i64 (ZV x),.int .i64 (ZW x)] 152 (0,0)) :: Zb q13 (.cells #[.int .i64 x.id,.slice CA cn cc] 70 (0,0)) :: rowP w.heap.size 167 2 l.length (.slice OA l.length oc) (XA l) :: [Zb mb (ZF (Xb cl)),Zb g (wO t (.slice (some ⟨b,o,none⟩) n c))]):=⟨_,_,rfl,rfl,HB4.out.allocObj _⟩
        rw [←e5,←Zcj]
        clear e5 Zcj
        have hg5:W5.heap[g]?=some (wO t (.slice (some ⟨b,o,none⟩) n c)):=hS5.part (p:=Zb g (wO t (.slice (some ⟨b,o,none⟩) n c))) (by simp)
        have f5:W5.cell? ⟨g,1,none⟩=some (.slice (some ⟨b,o,none⟩) n c):=Za hg5 1 _ rfl
        have HS5:=Qh (Qi hS5 HEP.out)
        clear hS5 hg5
        go_wp2_with fail
        clear f5
        go_loopg [14,51] n (fun gh av iv wr=>∃ (j2:Nat) (a2:Int),gh+j2=n∧av=.int .i64 a2∧iv=.int .i64 (j2:Nat)∧a2=JV cl x (v.take j2)∧Ses w wr (Zb q15 (.cells #[.int .i64 (ZV x),.int .i64 (ZW x)] 152 (0,0)) :: Zb q13 (.cells #[.int .i64 x.id,.slice CA cn cc] 70 (0,0)) :: rowP w.heap.size 167 2 l.length (.slice OA l.length oc) (XA l) :: [Zb mb (ZF (Xb cl)),Zb g (wO t (.slice (some ⟨b,o,none⟩) n c))]))
        case atStart=>exact ⟨0,1,rfl,rfl,rfl,rfl,HS5.out.1⟩
        case round=>
          obtain ⟨j2,a2,hg2,rfl,rfl,ha2,hS6⟩:=hrel
          obtain ⟨V,eV⟩:∃ V,V=wr:=⟨_,rfl⟩
          rw [←eV] at hS6 ⊢
          clear eV
          have h:=H.out.1
          have hlen:=h.len
          by_cases hlt2:j2<n
          · obtain ⟨y,hy⟩:∃ y,v[j2]?=some y:=⟨_,List.getElem?_eq_getElem (by omega)⟩
            obtain ⟨b',o',DA,dn,dc,eA,⟨d0,d1⟩,hdr⟩:=h.at_ j2 y hy
            injection eA with eA
            injection eA with eA1 eA2 _
            subst eA1 eA2
            have d0:=(hS6.bel.cell (Zc d0)).trans d0
            have d1:=(hS6.bel.cell (Zc d1)).trans d1
            have n0:(0:Int)≤(j2:Int):=by omega
            have n1:(j2:Int)<(n:Int):=by omega
            have n2:decide (j2<n)=true:=decide_eq_true hlt2
            have v2:wrap64 ((j2:Int)+1)=(j2:Int)+1:=Zn _ (by omega) (by have:=H.out.2.2.2.2.1;omega)
            obtain ⟨V1,q18,e1,Zjb,hS7⟩:∃ V' q,V'=V.alloc (.cells #[.int .i64 y.id,.slice DA dn dc] 70 (0,0))∧q=V.heap.size∧Ses w V' (Zb q (.cells #[.int .i64 y.id,.slice DA dn dc] 70 (0,0)) :: Zb q15 (.cells #[.int .i64 (ZV x),.int .i64 (ZW x)] 152 (0,0)) :: Zb q13 (.cells #[.int .i64 x.id,.slice CA cn cc] 70 (0,0)) :: rowP w.heap.size 167 2 l.length (.slice OA l.length oc) (XA l) :: [Zb mb (ZF (Xb cl)),Zb g (wO t (.slice (some ⟨b,o,none⟩) n c))]):=⟨_,_,rfl,rfl,hS6.allocObj _⟩
            have Zcn:V1.heap[q18]?=some (.cells #[.int .i64 y.id,.slice DA dn dc] 70 (0,0)):=hS7.sep.head
            obtain ⟨y0,y1⟩:=cs2 Zcn
            have FQ:=Zi5 y DA dn dc V1 (hdr.below hS7.bel)
            obtain ⟨Q,eQ⟩:∃ Q,Q=YR y:=⟨_,rfl⟩
            rw [←eQ] at FQ
            have hpy:=H.out.2.2.2.1 y (List.mem_of_getElem? hy)
            have hpx:=H.out.2.2.2.1 x (List.mem_of_getElem? HX.out.2.2.2.1)
            have HY:=Qh (Qi hlt2 (Qi hg2 (Qi ha2 (Qi hy (Qi hS7 (Qi hdr (Qi eQ (Qi hpy hpx))))))))
            clear hlt2 hg2 ha2 hy hS6 hS7 hdr eQ hpy hpx Zcn h hlen
            go_upto_region 13 with fail
            rw [←e1,←Zjb]
            clear e1 Zjb
            go_upto_region 14 with (
              go_at_call 100
              refine FQ.mono ?_
              rintro e V2 ⟨rfl,hb2⟩
              have HV2:=Qh (HY.out.2.2.2.2.1.below hb2)
              clear hb2 FQ y0 y1)
            obtain ⟨V3,q19,e3,Zcl,hS8⟩:∃ V' q,V'=V2.alloc (.cells #[.int .i64 (ZV y),.int .i64 (ZW y)] 152 (0,0))∧q=V2.heap.size∧Ses w V' (Zb q (.cells #[.int .i64 (ZV y),.int .i64 (ZW y)] 152 (0,0)) :: Zb q18 (.cells #[.int .i64 y.id,.slice DA dn dc] 70 (0,0)) :: Zb q15 (.cells #[.int .i64 (ZV x),.int .i64 (ZW x)] 152 (0,0)) :: Zb q13 (.cells #[.int .i64 x.id,.slice CA cn cc] 70 (0,0)) :: rowP w.heap.size 167 2 l.length (.slice OA l.length oc) (XA l) :: [Zb mb (ZF (Xb cl)),Zb g (wO t (.slice (some ⟨b,o,none⟩) n c))]):=⟨_,_,rfl,rfl,HV2.out.allocObj _⟩
            rw [←e3,←Zcl]
            clear e3 Zcl
            have Zcn:V3.heap[q18]?=some (.cells #[.int .i64 y.id,.slice DA dn dc] 70 (0,0)):=hS8.sep.tail.head
            obtain ⟨y0,y1⟩:=cs2 Zcn
            have FO:=Zi4 (Xb cl) mb y DA dn dc V3 (HY.out.2.2.2.2.2.1.below hS8.bel) (hS8.part (p:=Zb mb (ZF (Xb cl))) (by simp))
            obtain ⟨O,eO⟩:∃ O,O=JU (Xb cl) y:=⟨_,rfl⟩
            rw [←eO] at FO
            have hfm:=ZpZ cl x v j2 y HY.out.2.2.2.1
            rw [←eO,←HY.out.2.2.2.2.2.2.1,←HS5.out.2,←HY.out.2.2.1] at hfm
            have HS8:=Qh (Qi hS8 hfm)
            clear hS8 Zcn eO hfm
            by_cases hall:O=true∧Q=true∧P=true
            · obtain ⟨rfl,rfl,rfl⟩:=hall
              go_upto_region 15 with (
                go_at_call 97
                refine FO.mono ?_
                rintro e V4 ⟨rfl,hb4⟩
                have hS9:=HS8.out.1.below hb4
                have Zjc:V4.heap[q19]?=some (.cells #[.int .i64 (ZV y),.int .i64 (ZW y)] 152 (0,0)):=hS9.sep.head
                have Zck:V4.heap[q15]?=some (.cells #[.int .i64 (ZV x),.int .i64 (ZW x)] 152 (0,0)):=hS9.sep.tail.tail.head
                obtain ⟨z0,z1⟩:=cs2 Zjc
                obtain ⟨z2,z3⟩:=cs2 Zck
                have FW:=ZpX (ZV y) (ZW y) (ZV x) (ZW x) HY.out.2.2.2.2.2.2.2.1 HY.out.2.2.2.2.2.2.2.2 V4
                have HS9:=Qh hS9
                clear hb4 FO y0 y1 hS9 Zjc Zck)
              obtain ⟨wt,ewt⟩:∃ wt:Int,wt=wtN y x:=⟨_,rfl⟩
              have hwt:((Jy (max (ZV x-ZV y).natAbs (ZW x-ZW y).natAbs):Nat):Int)=wt:=ewt.symm
              rw [hwt] at FW
              obtain ⟨m2,em2⟩:∃ m2,m2=max a2 wt:=⟨_,rfl⟩
              have hmax:max a2 wt=m2:=em2.symm
              have HM:=Qh (Qi ewt em2)
              clear ewt hwt em2
              go_wp2_with (go_at_call 101;refine FW.mono ?_;rintro e V5 ⟨rfl,hb5⟩;have HV5:=Qh (HS9.out.below hb5);clear hb5 FW z0 z1 z2 z3)
              go_roundg (n-(j2+1))
              case measure=>have:=HY.out.1;have:=HY.out.2.1;omega
              case rel=>
                refine ⟨j2+1,m2,by have:=HY.out.1;have:=HY.out.2.1;omega,rfl,by go_num,?_,HV5.out.tail.tail⟩
                rw [HS8.out.2,HM.out.2,HM.out.1];rfl
            · have hno:(O&&(Q&&P))=false:=by
                rcases O with _ | _<;>rcases Q with _ | _<;>rcases P with _ | _<;>first | rfl | exact absurd ⟨rfl,rfl,rfl⟩ hall
              have HNO:=Qh hno
              clear hno
              have key:∀ V4,Below V3.heap.size V3 V4→Ses w V4 (Zb q15 (.cells #[.int .i64 (ZV x),.int .i64 (ZW x)] 152 (0,0)) :: Zb q13 (.cells #[.int .i64 x.id,.slice CA cn cc] 70 (0,0)) :: rowP w.heap.size 167 2 l.length (.slice OA l.length oc) (XA l) :: [Zb mb (ZF (Xb cl)),Zb g (wO t (.slice (some ⟨b,o,none⟩) n c))]):=fun V4 hb4=>(HS8.out.1.below hb4).tail.tail
              have HKEY:=Qh key
              clear key
              rcases O with _ | _
              · exact Tq22
              · rcases Q with _ | _
                · exact Tq22
                · have hP:P=false:=by rcases P with _ | _;rfl;exact absurd ⟨rfl,rfl,rfl⟩ hall
                  subst hP
                  exact Tq22
          · have n2:decide (j2<n)=false:=decide_eq_false hlt2
            have ht:v.take j2=v:=List.take_of_length_le (by omega)
            rw [ht] at ha2
            have hbe:=Zi6 cl x v
            rw [←ha2] at hbe
            have Xp:V.heap[q13]?=some (.cells #[.int .i64 x.id,.slice CA cn cc] 70 (0,0)):=hS6.sep.tail.head
            obtain ⟨y0,y1⟩:=cs2 Xp
            have FO:=Zi4 (Xb cl) mb x CA cn cc V (HX.out.2.2.2.2.2.2.below hS6.bel) (hS6.part (p:=Zb mb (ZF (Xb cl))) (by simp))
            obtain ⟨O,eO⟩:∃ O,O=JU (Xb cl) x:=⟨_,rfl⟩
            rw [←eO] at FO
            have HY:=Qh (Qi ha2 (Qi hS6 eO))
            clear ha2 hS6 eO ht hlt2 hg2 h hlen Xp hbe
            have hwg:Ji cl v x=if O=true then 16 else a2:=by unfold Ji;rw [←HY.out.2.2,←HY.out.1]
            have HWG:=Qh hwg
            clear hwg
            rcases O with _ | _
            · go_upto_region 19 with (
                go_at_call 97
                refine FO.mono ?_
                rintro e V4 ⟨rfl,hb4⟩
                have HS9:=Qh (HY.out.2.1.below hb4)
                clear hb4 FO y0 y1)
              have Xp:V4.heap[q13]?=some (.cells #[.int .i64 x.id,.slice CA cn cc] 70 (0,0)):=HS9.out.sep.tail.head
              have y0:V4.cell? ⟨q13,0,none⟩=some (.int .i64 x.id):=Za Xp 0 _ rfl
              obtain ⟨V5,e5⟩:∃ V',V'=V4.alloc (.cells #[.int .i64 x.id,.int .i64 a2] 167 (0,0)):=⟨_,rfl⟩
              obtain ⟨g5,eg5⟩:∃ q,q=V4.heap.size:=⟨_,rfl⟩
              have hS5:Ses w V5 (rowP w.heap.size 167 2 l.length (.slice OA l.length oc) (XA l) :: Zb q15 (.cells #[.int .i64 (ZV x),.int .i64 (ZW x)] 152 (0,0)) :: Zb q13 (.cells #[.int .i64 x.id,.slice CA cn cc] 70 (0,0)) :: [Zb mb (ZF (Xb cl)),Zb g (wO t (.slice (some ⟨b,o,none⟩) n c))]):=by rw [e5];exact (HS9.out.third').below (Zg V4 _)
              obtain ⟨x9,ex9⟩:∃ x9:Wt,x9=⟨x.id,a2⟩:=⟨_,rfl⟩
              have hnews:∀ j u,x9.cells[j]?=some u→V5.cell? ((⟨g5,0,none⟩:Addr).add j)=some u:=by rw [e5,ex9];exact XC V4 #[.int .i64 x.id,.int .i64 a2] 167 g5 eg5
              exact Tq17
            · go_upto_region 19 with (
                go_at_call 97
                refine FO.mono ?_
                rintro e V4 ⟨rfl,hb4⟩
                have HS9:=Qh (HY.out.2.1.below hb4)
                clear hb4 FO y0 y1)
              have Xp:V4.heap[q13]?=some (.cells #[.int .i64 x.id,.slice CA cn cc] 70 (0,0)):=HS9.out.sep.tail.head
              have y0:V4.cell? ⟨q13,0,none⟩=some (.int .i64 x.id):=Za Xp 0 _ rfl
              obtain ⟨V5,e5⟩:∃ V',V'=V4.alloc (.cells #[.int .i64 x.id,.int .i64 16] 167 (0,0)):=⟨_,rfl⟩
              obtain ⟨g5,eg5⟩:∃ q,q=V4.heap.size:=⟨_,rfl⟩
              have hS5:Ses w V5 (rowP w.heap.size 167 2 l.length (.slice OA l.length oc) (XA l) :: Zb q15 (.cells #[.int .i64 (ZV x),.int .i64 (ZW x)] 152 (0,0)) :: Zb q13 (.cells #[.int .i64 x.id,.slice CA cn cc] 70 (0,0)) :: [Zb mb (ZF (Xb cl)),Zb g (wO t (.slice (some ⟨b,o,none⟩) n c))]):=by rw [e5];exact (HS9.out.third').below (Zg V4 _)
              obtain ⟨x9,ex9⟩:∃ x9:Wt,x9=⟨x.id,16⟩:=⟨_,rfl⟩
              have hnews:∀ j u,x9.cells[j]?=some u→V5.cell? ((⟨g5,0,none⟩:Addr).add j)=some u:=by rw [e5,ex9];exact XC V4 #[.int .i64 x.id,.int .i64 16] 167 g5 eg5
              exact Tq17
    · have i2:decide (j<n)=false:=decide_eq_false hlt
      have ht:v.take j=v:=List.take_of_length_le (by omega)
      rw [ht] at hl
      have HX:=Qh (Qi hl hS)
      clear hl hS ht hlt hg h hlen hll
      go_wp2_with fail
      go_ret
      obtain ⟨hl,hS⟩:=HX.out
      subst hl
      exact ⟨OA,oc,rfl,hS.sub (List.Sublist.cons_cons _ (.cons _ (.cons _ List.Sublist.slnil)))⟩
end
end Go.Proofs.YtlgcfimhfmgkmaaGreatDoor
namespace Go.Proofs.YtlgcfimhfmgkmaaGreatDoor
open Go.RowKit
section
theorem Zp4 {cl:Int} {e:Ent} (h:Yv e=true):Yv (Zbx cl e)=true:=by
 unfold Yv at h ⊢
 simp only [Bool.and_eq_true,decide_eq_true_eq,Bool.not_eq_true',List.any_eq_false] at h ⊢
 refine ⟨⟨h.1.1,?_⟩,fun c hc=>h.2 c ((List.mem_filter.1 hc).1)⟩
 have h2:=h.1.2
 unfold Xt at h2 ⊢
 rw [decide_eq_true_eq] at h2 ⊢
 exact h2.sublist (List.Sublist.map _ List.filter_sublist)
theorem Zp5 {cl:Int} {l:List (Int × Int)} {es:List Ent} (h:Ym es):Ym (Ql cl l es):=by
 unfold Ym Ql
 rw [List.pairwise_map]
 exact List.Pairwise.sublist List.filter_sublist h
theorem Zp6 {t cl:Int} {l:List (Int × Int)} {es:List Ent} (h:Zl t es=true):Zl t (Ql cl l es)=true:=by
 have hv:=Zap.1 h
 refine Zap.2 ⟨hv.1,Nat.le_trans (ZaV _ _ _) hv.2.1,Zp5 hv.2.2.1,fun e he=>?_⟩
 obtain ⟨x,hx,rfl⟩:=List.mem_map.1 he
 exact Zp4 (hv.2.2.2 x ((List.mem_filter.1 hx).1))
theorem Zp7 {e:Ent} (h:Yv e=true):InP (ZV e) (ZW e):=by
 unfold InP ZV ZW
 rcases hc:ZC 1 e.cs with _ | c
 ·simp only [Option.getD_none,Cmp.zero];decide
 ·simp only [Option.getD_some]
  unfold ZC at hc
  have hk:c.kind=1:=by simpa using List.find?_some hc
  have hf:=(Za2 h).2 c (List.mem_of_find?_eq_some hc)
  unfold YJ inR at hf
  rw [hk] at hf
  simp only [Bool.and_eq_true,Bool.not_eq_true',decide_eq_false_iff_not,rgL,rgH] at hf
  obtain ⟨⟨_,⟨⟨⟨a,b⟩,c,d⟩,_⟩,_⟩,_⟩:=hf
  omega
theorem Zjd {t:Int} {es:List Ent} (h:Zl t es=true):∀ e,e∈es→InP (ZV e) (ZW e):=fun e he=>Zp7 (Y0 h e he)
theorem merge_le {s t:Int} {es fs:List Ent} (sent:List Int) (va:Zl s es=true) (vb:Zl t fs=true):(XR es fs (YL (Zw es fs)++sent)).length≤fs.length:=by
 have h1:(QT es fs (YL (Zw es fs)++sent)).length=(XR es fs (YL (Zw es fs)++sent)).length:=by unfold QT;rw [Zdg]
 rw [←h1]
 refine ZeW (Zdi (YG va) (YG vb)) (fun x hx=>?_)
 rcases Zdh.1 hx with ⟨hx,hn⟩|⟨hx,_⟩
 ·by_cases hf:∃ y,y∈fs∧y.id=x.id
  ·exact hf
  ·exfalso
   apply hn
   refine List.mem_append_left _ ((ZhU va vb).2 ⟨x,hx,rfl,fun f hf' e=>hf ⟨f,hf',e⟩⟩)
 ·exact ⟨x,hx,rfl⟩
theorem Zje (f:Ent→Int) (hf:∀ e,1≤f e∧f e≤16):∀ (l:List Ent) (last:Int),Ym l→(∀ e,e∈l→last<e.id∧e.id≤65536)→XU last (l.map fun e=>(e.id,f e))=true
 | [],_,_,_=>rfl
 | e :: l,last,hr,hl=>by
  have hr':=List.pairwise_cons.1 hr
  rw [List.map_cons]
  unfold XU okW
  have h1:=hl e (.head _)
  have h2:=hf e
  rw [Bool.and_eq_true]
  refine ⟨?_,Zje f hf l e.id hr'.2 (fun x hx=>⟨hr'.1 x hx,(hl x (.tail _ hx)).2⟩)⟩
  simp only [Bool.not_eq_true',Bool.or_eq_false_iff,decide_eq_false_iff_not]
  omega
theorem Zp8 {t cl:Int} {v:List Ent} {ids gone:List Int} (h:Zl t v=true):Qo (Jz cl v ids gone)=true:=by
 have hv:=Zap.1 h
 unfold Qo Xj Jz
 rw [Bool.and_eq_true,decide_eq_true_eq,List.map_map,List.length_map]
 refine ⟨?_,Nat.le_trans (List.length_filter_le _ _) hv.2.1⟩
 refine Zje (fun e=>Ji cl v e) (fun e=>Zp0 cl v e) _ (-1) (List.Pairwise.sublist List.filter_sublist hv.2.2.1) (fun e he=>?_)
 have:=Z4 h e ((List.mem_filter.1 he).1)
 omega
theorem Zp9 (cl:Int) (v:List Ent) (ids gone:List Int):(Jz cl v ids gone).length≤v.length:=by
 unfold Jz
 rw [List.length_map]
 exact List.length_filter_le _ _
theorem Zqa {s t:Int} {es fs:List Ent} (va:Zl s es=true) (vb:Zl t fs=true):(YL (Zw es fs)).length≤es.length+fs.length:=
 Nat.le_trans (List.length_filterMap_le _ _) (Zdv va vb)
theorem Zjf {top:Int}:∀ {l:List Rec} {last:Int},rlB top last l=true→∀ r,r∈l→(last<r.num∧r.num≤top)∧(0≤r.base∧r.base<r.num)∧Zl r.tick r.es=true
 | [],_,_,r,hr=>by cases hr
 | x :: l,last,h,r,hr=>by
  unfold rlB at h
  rw [Bool.and_eq_true] at h
  have h1:=h.1
  unfold okR at h1
  simp only [Bool.not_eq_true',Bool.or_eq_false_iff,decide_eq_false_iff_not] at h1
  have hx:(last<x.num∧x.num≤top)∧(0≤x.base∧x.base<x.num)∧Zl x.tick x.es=true:=⟨⟨by omega,by omega⟩,⟨by omega,by omega⟩,by simpa using h1.2⟩
  rcases List.mem_cons.1 hr with rfl | hr
  ·exact hx
  ·have:=Zjf h.2 r hr
   exact ⟨⟨by omega,this.1.2⟩,this.2⟩
theorem Zqb {l:List Rec} {lo hi:Int} (h:QF l lo hi=true):l.length≤33∧∀ r,r∈l→(0<r.num∧r.num≤1073741824)∧(0≤r.base∧r.base<r.num)∧Zl r.tick r.es=true:=by
 unfold QF at h
 rw [Bool.and_eq_true,decide_eq_true_eq] at h
 refine ⟨h.1,fun r hr=>?_⟩
 have:=Zjf h.2 r hr
 exact ⟨⟨by omega,by omega⟩,this.2⟩
structure Zjg (s:Snd):Prop where
 cl:1≤s.cl∧s.cl≤8
 nx:1≤s.next∧s.next≤1073741825
 ak:0≤s.acked∧s.acked≤1073741824
 it:Qp s.items=true
 ln:s.log.length≤33
 lg:∀ r,r∈s.log→(0<r.num∧r.num≤1073741824)∧(0≤r.base∧r.base<r.num)∧Zl r.tick r.es=true
 fd:∃ r,Z6 s.log s.acked=some r∧Zl r.tick r.es=true∧(r=Rec.zero∨r∈s.log)
theorem ZdO {s:Snd} (h:YU s=true):Zjg s:=by
 unfold YU at h
 rw [Bool.and_eq_true] at h
 have hb:=h.1
 unfold ZbE at hb
 simp only [Bool.not_eq_true',Bool.or_eq_false_iff,decide_eq_false_iff_not,Bool.not_eq_false'] at hb
 obtain ⟨⟨⟨⟨⟨⟨h1,h2⟩,h3⟩,h4⟩,h5⟩,h6⟩,h7⟩:=hb
 have hm:=Zqb h7
 have h8:=h.2
 by_cases ha:s.acked=0
 ·refine ⟨by omega,by omega,by omega,h6,hm.1,hm.2,Rec.zero,?_,by decide,.inl rfl⟩
  unfold Z6
  rw [if_pos ha]
 ·rw [if_neg ha] at h8
  unfold Zat at h8
  rcases hl:s.log with _|⟨r,l⟩
  ·rw [hl] at h8;cases h8
  ·rw [hl] at h8
   have hr:r∈s.log:=by rw [hl];exact .head _
   have h9:r.num=s.acked:=by simpa using h8
   have hmr:=hm.2 r hr
   refine ⟨by omega,by omega,⟨by omega,by omega⟩,h6,hm.1,hm.2,r,?_,hmr.2.2,.inr hr⟩
   unfold Z6
   rw [if_neg ha,hl,List.find?_cons_of_pos (by simpa using h9)]
end
end Go.Proofs.YtlgcfimhfmgkmaaGreatDoor
namespace Go.Proofs.YtlgcfimhfmgkmaaGreatDoor
open Go.RowKit
section
def Zq (W:World) (q:Nat):Prop:=∀ i u,W.cell? ⟨q,i,none⟩=some u→u=.int .i64 0∨u=.slice none 0 0
theorem Zco {W:World} {q:Nat} {cs:Array Value} {T:TypeId} (h:W.heap[q]?=some (.cells cs T (0,0))) (hc:∀ u,u∈cs.toList→u=.int .i64 0∨u=.slice none 0 0):Zq W q:=fun i u hu=>by
 rw [cell_of_block h i] at hu
 exact hc u (by
  have:cs.toList[i]?=some u:=by simpa using hu
  exact List.mem_of_getElem? this)
section
variable {W W':World} {q:Nat}
theorem Zq.ne (h:Zq W q) {b i:Nat} {u:Value} (hc:W.cell? ⟨b,i,none⟩=some u) (h0:u≠.int .i64 0) (h1:u≠.slice none 0 0):b≠q:=by
 rintro rfl
 rcases h i u hc with e | e
 ·exact h0 e
 ·exact h1 e
theorem Zj.keepQ {A:Option Addr} {n c:Nat} {l:List Ent} (h:Zj W A n c l) (hid:∀ e,e∈l→1≤e.id) (hq:Zq W q) (hk:∀ b,b<W.heap.size→b≠q→W'.heap[b]?=W.heap[b]?):Zj W' A n c l:=by
 refine ⟨h.len,fun j e hj=>?_,h.nil,h.lim,h.le⟩
 obtain ⟨b,o,CA,cn,cc,ea,⟨h0,h1⟩,hc⟩:=h.at_ j e hj
 have hb:b≠q:=hq.ne h0 (fun e'=>by injection e' with _ e';have:=hid e (List.mem_of_getElem? hj);omega) (by simp)
 have hs:=hk b (Zc h0) hb
 refine ⟨b,o,CA,cn,cc,ea,⟨(Zm hs _).trans h0,(Zm hs _).trans h1⟩,hc.len,fun i x hx=>?_,hc.nil,hc.lim,hc.kind⟩
 obtain ⟨b',o',ea',hcc⟩:=hc.at_ i x hx
 have hb':b'≠q:=hq.ne hcc.c0 (by simp) (by simp)
 exact ⟨b',o',ea',hcc.step (hk b' (Zc hcc.c0) hb')⟩
theorem Zy.keepQ {A:Option Addr} {n c:Nat} {l:List Rec} (h:Zy W A n c l) (hl:∀ r,r∈l→1≤r.num∧∀ e,e∈r.es→1≤e.id) (hq:Zq W q) (hk:∀ b,b<W.heap.size→b≠q→W'.heap[b]?=W.heap[b]?):Zy W' A n c l:=by
 refine ⟨h.len,fun j r hj=>?_,h.nil,h.lim,h.le⟩
 obtain ⟨b,o,CA,cn,cc,e,⟨h0,h1,h2,h3⟩,hc⟩:=h.at_ j r hj
 have hr:=hl r (List.mem_of_getElem? hj)
 have hb:b≠q:=hq.ne h0 (fun e'=>by injection e' with _ e';omega) (by simp)
 have hs:=hk b (Zc h0) hb
 exact ⟨b,o,CA,cn,cc,e,⟨(Zm hs _).trans h0,(Zm hs _).trans h1,(Zm hs _).trans h2,(Zm hs _).trans h3⟩,hc.keepQ hr.2 hq hk⟩
theorem ZG.keepQ {A:Option Addr} {n:Nat} {l:List It} (h:ZG 3 It.ints W A n l) (hl:∀ x,x∈l→1≤x.w) (hq:Zq W q) (hk:∀ b,b<W.heap.size→b≠q→W'.heap[b]?=W.heap[b]?):ZG 3 It.ints W' A n l:=by
 refine ⟨h.len,fun j x hj=>?_,h.lim⟩
 obtain ⟨b,o,e,hc⟩:=h.at_ j x hj
 have hx:=hl x (List.mem_of_getElem? hj)
 have hb:b≠q:=hq.ne (hc 1 x.w rfl) (fun e'=>by injection e' with _ e';omega) (by simp)
 refine ⟨b,o,e,fun r v hv=>(Zm (hk b (Zc (hc r v hv)) hb) _).trans (hc r v hv)⟩
theorem ZA.keepQ {s:Snd} {v:Value} (h:ZA W s v) (hs:YU s=true) (hq:Zq W q) (hk:∀ b,b<W.heap.size→b≠q→W'.heap[b]?=W.heap[b]?):ZA W' s v:=by
 obtain ⟨LA,IA,ln,lc,iN,ic,e,hL,hI,hn⟩:=h
 have ho:=ZdO hs
 refine ⟨LA,IA,ln,lc,iN,ic,e,hL.keepQ (fun r hr=>⟨by have:=ho.lg r hr;omega,fun x hx=>(Z4 (ho.lg r hr).2.2 x hx).1⟩) hq hk,hI.keepQ (fun x hx=>?_) hq hk,hn⟩
 have:=(Zcd ho.it).2 x hx
 omega
end
theorem ZA.below {w w':World} {s:Snd} {v:Value} (h:ZA w s v) (hb:Below w.heap.size w w'):ZA w' s v:=by
 obtain ⟨LA,IA,ln,lc,iN,ic,e,hL,hI,hn⟩:=h
 exact ⟨LA,IA,ln,lc,iN,ic,e,hL.below hb,hI.below hb,hn⟩
theorem Zaw.carry {B:Nat} {W W2:World} {q:Nat} {s:Snd} {LA IA:Option Addr} {ln lc iN ic:Nat} (h:Zaw B W s LA IA ln lc iN ic) (hq:q<W.heap.size) (hg:∀ g,LA=some ⟨g,0,none⟩→g≠q) (hsz:W.heap.size≤W2.heap.size) (hk:∀ b,b<W.heap.size→b≠q→W2.heap[b]?=W.heap[b]?)
  (hE:∀ (V V':World) (r:Rec) (A:Option Addr) (n c:Nat),r∈s.log→V.heap[q]?=W.heap[q]?→(∀ b,b<V.heap.size→b≠q→V'.heap[b]?=V.heap[b]?)→Zj V A n c r.es→Zj V' A n c r.es)
  (hN:∀ (V V':World) (A:Option Addr) (n:Nat),V.heap[q]?=W.heap[q]?→(∀ b,b<V.heap.size→b≠q→V'.heap[b]?=V.heap[b]?)→ZG 3 It.ints V A n s.items→ZG 3 It.ints V' A n s.items):Zaw B W2 s LA IA ln lc iN ic:=by
 obtain ⟨g,LS,rfl,hO,hn,hm,hi,hc⟩:=h
 have hgq:=hg g rfl
 refine ⟨g,LS,rfl,XW hO (fun b hb=>hk b (Yg hO hb).1 (by have:some g=some b:=hb;injection this with this;omega)),hn,hm,hi,fun W' hz hk'=>?_⟩
 have hq':q<W'.heap.size:=by omega
 obtain ⟨V,eV⟩:∃ V:World,V={ W' with heap:=W'.heap.setIfInBounds q (W.heap[q]'hq) }:=⟨_,rfl⟩
 have hVs:V.heap.size=W'.heap.size:=by rw [eV];simp
 have hVq:V.heap[q]?=W.heap[q]?:=by rw [eV];simp [hq']
 have hVn:∀ b,b≠q→V.heap[b]?=W'.heap[b]?:=fun b hb=>by rw [eV];simp [Array.getElem?_setIfInBounds_ne (Ne.symm hb)]
 obtain ⟨h1,h2⟩:=hc V (by omega) (fun b hb hbg=>by
  by_cases e:b=q
  ·rw [e];exact hVq
  ·rw [hVn b e,hk' b (by omega) hbg,hk b hb e])
 have hag:∀ b,b<V.heap.size→b≠q→W'.heap[b]?=V.heap[b]?:=fun b _ hb=>(hVn b hb).symm
 exact ⟨fun x hx=>hE V W' x.r x.A x.n x.c (by rw [←hm];exact List.mem_map.2 ⟨x,hx,rfl⟩) hVq hag (h1 x hx),hN V W' IA iN hVq hag h2⟩
theorem Zaw.first {B:Nat} {W:World} {s:Snd} {LA IA:Option Addr} {ln lc iN ic:Nat} (h:Zaw B W s LA IA ln lc iN ic):∃ g r CA cn cc,LA=some ⟨g,0,none⟩∧r∈s.log∧(W.cell? ⟨g,0,none⟩=some (.int .i64 r.num)∧W.cell? ⟨g,1,none⟩=some (.int .i64 r.base)∧W.cell? ⟨g,2,none⟩=some (.int .i64 r.tick)∧W.cell? ⟨g,3,none⟩=some (.slice CA cn cc)):=by
 have hL:=h.toL.1
 obtain ⟨g,LS,rfl,_,⟨_,_,hne⟩,hm,_⟩:=h
 rcases LS with _|⟨x,LS⟩
 ·exact absurd rfl hne
 obtain ⟨b,o,CA,cn,cc,e,⟨h0,h1,h2,h3⟩,_⟩:=hL.at_ 0 x.r (by rw [←hm];rfl)
 injection e with e
 injection e with e1 e2
 subst e1 e2
 exact ⟨g,x.r,CA,cn,cc,rfl,(by rw [←hm];exact .head _),h0,h1,h2,h3⟩
theorem Zq.blk {W V:World} {q:Nat} (h:Zq W q) (e:V.heap[q]?=W.heap[q]?):Zq V q:=fun i u hu=>h i u ((Zm e i).symm.trans hu)
theorem Xy.keepQ {B:Nat} {W W':World} {q:Nat} {s:Snd} {v:Value} (h:Xy B W s v) (hs:YU s=true) (hqz:q<W.heap.size) (hq:Zq W q) (hk:∀ b,b<W.heap.size→b≠q→W'.heap[b]?=W.heap[b]?) (hsz:W.heap.size≤W'.heap.size):Xy B W' s v:=by
 obtain ⟨LA,IA,ln,lc,iN,ic,e,h⟩:=h
 have ho:=ZdO hs
 refine ⟨LA,IA,ln,lc,iN,ic,e,h.carry hqz (fun g' hg'=>?_) hsz hk (fun V V' r A n c hr hV hag hR=>hR.keepQ (fun x hx=>(Z4 (ho.lg r hr).2.2 x hx).1) (hq.blk hV) hag) (fun V V' A n hV hag hR=>hR.keepQ (fun x hx=>?_) (hq.blk hV) hag)⟩
 ·obtain ⟨g,r,CA,cn,cc,e1,hr,h0,_⟩:=h.first
  rw [e1] at hg'
  injection hg' with hg'
  injection hg' with hg'
  rw [←hg']
  exact hq.ne h0 (fun e'=>by injection e' with _ e';have:=(ho.lg r hr).1;omega) (by simp)
 ·have:=(Zcd ho.it).2 x hx
  omega
end
end Go.Proofs.YtlgcfimhfmgkmaaGreatDoor
