/- Lemmas for the statement. -/
import Derived.Test.YtlgcfimhfmgkmaaGreatDoorMBD
set_option linter.unusedVariables false
set_option linter.unusedSimpArgs false
set_option maxRecDepth 100000
set_option maxHeartbeats 8000000
namespace Go.Proofs.YtlgcfimhfmgkmaaGreatDoor
open Go.RowKit
section
theorem ZiD (cl next acked:Int) (log:List Rec) (items:List It) (LA IA:Option Addr) (ln lc iN ic:Nat) (w:World) (hT:Tabs w) (hL:Zy w LA ln lc log) (hI:ZG 3 It.ints w IA iN items) (hak:acked≤9223372036854775807) :
    Calls Tryz.prog 21 #[.agg #[.int .i64 cl,.int .i64 next,.int .i64 acked,.slice LA ln lc,.slice IA iN ic]] w fun e w'=>e=.returned (.bool (YU ⟨cl,next,acked,log,items⟩))∧Below w.heap.size w w':=by
  obtain ⟨w1,e1⟩:∃ W,W=w.alloc (.cells #[.int .i64 cl,.int .i64 next,.int .i64 acked,.slice LA ln lc,.slice IA iN ic] 33 (0,0)):=⟨_,rfl⟩
  obtain ⟨g,eg⟩:∃ g,g=w.heap.size:=⟨_,rfl⟩
  have hb:Below w.heap.size w w1:=by rw [e1];exact Zg w _
  have hg0:w1.heap[g]?=some (.cells #[.int .i64 cl,.int .i64 next,.int .i64 acked,.slice LA ln lc,.slice IA iN ic] 33 (0,0)):=by rw [e1,eg];exact heap_alloc_new w _
  obtain ⟨f0,f1,f2,f3,f4⟩:=ce5 hg0
  have FA:=Zil IA iN ic items w1 (hI.below hb)
  obtain ⟨R,eR⟩:∃ R,R=YU ⟨cl,next,acked,log,items⟩:=⟨_,rfl⟩
  rw [←eR]
  obtain ⟨OK,eOK⟩:∃ OK,OK=ZbE ⟨cl,next,acked,log,items⟩:=⟨_,rfl⟩
  obtain ⟨R1,eR1⟩:∃ R1,R1=(if acked=0 then decide (log.length≤32) else Zat log acked):=⟨_,rfl⟩
  have hR:R=(!OK&&R1):=by rw [eR,eOK,eR1];rfl
  have H:=Qh (Qi hb (Qi hT (Qi hL (Qi hg0 (Qi eR1 hak)))))
  clear hb hT hL hI hg0 eR eR1 hak
  go_enter Tryz.func21,Tryz.ntmps21
  go_upto_region 1 with fail
  rw [←e1,←eg]
  clear e1 eg
  unfold ZbE at eOK
  simp only [] at eOK
  have HR:=Qh hR
  clear hR
  have HO:Hid True:=Qh trivial
  by_cases t1:cl<1
  · have d1:decide (cl<1)=true:=decide_eq_true t1
    have hok:OK=true:=by rw [eOK,d1];first | rfl | simp
    clear eOK FA HO
    subst hok
    clear t1
    go_wp2_with fail
    go_ret
    exact ⟨by rw [HR.out];rfl,H.out.1⟩
  have d1:decide (cl<1)=false:=decide_eq_false t1
  by_cases t2:8<cl
  · have d2:decide (8<cl)=true:=decide_eq_true t2
    have hok:OK=true:=by rw [eOK,d1,d2];first | rfl | simp
    clear eOK FA HO
    subst hok
    clear t1 t2
    go_wp2_with fail
    go_ret
    exact ⟨by rw [HR.out];rfl,H.out.1⟩
  have d2:decide (8<cl)=false:=decide_eq_false t2
  by_cases t3:next<1
  · have d3:decide (next<1)=true:=decide_eq_true t3
    have hok:OK=true:=by rw [eOK,d1,d2,d3];first | rfl | simp
    clear eOK FA HO
    subst hok
    clear t1 t2 t3
    go_wp2_with fail
    go_ret
    exact ⟨by rw [HR.out];rfl,H.out.1⟩
  have d3:decide (next<1)=false:=decide_eq_false t3
  by_cases t4:1073741825<next
  · have d4:decide (1073741825<next)=true:=decide_eq_true t4
    have hok:OK=true:=by rw [eOK,d1,d2,d3,d4];first | rfl | simp
    clear eOK FA HO
    subst hok
    clear t1 t2 t3 t4
    go_wp2_with fail
    go_ret
    exact ⟨by rw [HR.out];rfl,H.out.1⟩
  have d4:decide (1073741825<next)=false:=decide_eq_false t4
  by_cases t5:acked<0
  · have d5:decide (acked<0)=true:=decide_eq_true t5
    have hok:OK=true:=by rw [eOK,d1,d2,d3,d4,d5];first | rfl | simp
    clear eOK FA HO
    subst hok
    clear t1 t2 t3 t4 t5
    go_wp2_with fail
    go_ret
    exact ⟨by rw [HR.out];rfl,H.out.1⟩
  have d5:decide (acked<0)=false:=decide_eq_false t5
  have un:wrap64 (next-1)=next-1:=Zn _ (by omega) (by omega)
  have HK:=Qh (Qi t4 t5)
  clear t1 t2 t3 t4 t5 HO
  obtain ⟨V,eV⟩:∃ V,V=Qp items:=⟨_,rfl⟩
  rw [←eV] at FA eOK
  rcases V with _ | _
  · have hok:OK=true:=by rw [eOK,d1,d2,d3,d4,d5];simp
    clear eOK eV
    subst hok
    go_wp2_with (go_at_call 72;refine FA.mono ?_;rintro e w2 ⟨rfl,hb2⟩;have H2:=Qh hb2;clear hb2 FA)
    go_ret
    exact ⟨by rw [HR.out];rfl,H.out.1.trans (H2.out.mono H.out.1.size)⟩
  obtain ⟨U,eU⟩:∃ U,U=QF log acked (next-1):=⟨_,rfl⟩
  rw [←eU] at eOK
  have hok:OK=!U:=by rw [eOK,d1,d2,d3,d4,d5];simp
  have HU:=Qh eU
  clear eOK eV eU
  subst hok
  go_upto_if 42 with (first
    | (go_at_call 72
       have t1:=FA
       refine t1.mono ?_
       rintro e w2 ⟨rfl,hb2⟩
       have h2:=H.out.1.trans (hb2.mono H.out.1.size)
       have FL:=ZiC LA ln lc log acked (next-1) ⟨by have:=HK.out;omega,H.out.2.2.2.2.2⟩ w2 (H.out.2.1.below h2) (H.out.2.2.1.below h2)
       rw [←HU.out] at FL
       have f0:=(hb2.cell (Zc f0)).trans f0
       have f1:=(hb2.cell (Zc f1)).trans f1
       have f2:=(hb2.cell (Zc f2)).trans f2
       have f3:=(hb2.cell (Zc f3)).trans f3
       have hg2:=(hb2.block _ (Zh H.out.2.2.2.1)).trans H.out.2.2.2.1
       have H2:=Qh (Qi h2 hg2)
       clear hb2 h2 hg2 FA t1)
    | (go_at_call 73
       have t2:=FL
       refine t2.mono ?_
       rintro e w3 ⟨rfl,hb3⟩
       have hg3:=(hb3.block _ (Zh H2.out.2)).trans H2.out.2
       have H3:=Qh (Qi (H2.out.1.trans (hb3.mono H2.out.1.size)) hg3)
       clear hb3 hg3 FL t2))
  clear f0 f1 f2 f3 f4
  have f2:w3.cell? ⟨g,2,none⟩=some (.int .i64 acked):=Za H3.out.2 2 _ rfl
  have f3:w3.cell? ⟨g,3,none⟩=some (.slice LA ln lc):=Za H3.out.2 3 _ rfl
  rcases U with _ | _
  · simp only [Bool.not_false]
    go_wp2_with fail
    go_ret
    exact ⟨by rw [HR.out];rfl,H3.out.1⟩
  simp only [Bool.not_true]
  by_cases ha:acked=0
  · have hd:(acked==0)=true:=by rw [ha];rfl
    by_cases hn:ln≤32
    · have q1:decide (ln≤32)=true:=decide_eq_true hn
      have q2:decide ((ln:Int)≤32)=true:=decide_eq_true (by omega)
      have HA:=Qh (Qi ha hn)
      clear ha hn
      go_wp2_with fail
      go_ret
      refine ⟨?_,H3.out.1⟩
      rw [HR.out,H.out.2.2.2.2.1,if_pos HA.out.1,decide_eq_true (by rw [←H.out.2.2.1.len];exact HA.out.2)];rfl
    · have q1:decide (ln≤32)=false:=decide_eq_false hn
      have q2:decide ((ln:Int)≤32)=false:=decide_eq_false (by omega)
      have HA:=Qh (Qi ha hn)
      clear ha hn
      go_wp2_with fail
      go_ret
      refine ⟨?_,H3.out.1⟩
      rw [HR.out,H.out.2.2.2.2.1,if_pos HA.out.1,decide_eq_false (by rw [←H.out.2.2.1.len];exact HA.out.2)];rfl
  · have hd:(acked==0)=false:=beq_eq_false_iff_ne.2 ha
    rcases log with _|⟨r,l⟩
    · have h0:ln=0:=H.out.2.2.1.len
      subst h0
      have q1:decide ((0:Int)<((0:Nat):Int))=false:=rfl
      have HA:=Qh ha
      clear ha
      go_upto_region 5 with fail
      go_quiet (fail)
      go_wp2_with fail
      go_ret
      refine ⟨?_,YW H3.out.1 _⟩
      rw [HR.out,H.out.2.2.2.2.1,if_neg HA.out];rfl
    · obtain ⟨b,o,CA,cn,cc,eA,⟨c0,_⟩,_⟩:=H.out.2.2.1.at_ 0 r rfl
      subst eA
      have hn:ln=l.length+1:=H.out.2.2.1.len
      have c0:w3.cell? ⟨b,o,none⟩=some (.int .i64 r.num):=(H3.out.1.cell (Zc c0)).trans c0
      have q1:decide ((0:Int)<(ln:Int))=true:=decide_eq_true (by omega)
      have q2:decide (0<ln)=true:=decide_eq_true (by omega)
      have i0:(0:Int)<(ln:Int):=by omega
      obtain ⟨Q,eQ⟩:∃ Q,Q=decide (r.num=acked):=⟨_,rfl⟩
      have eQ':(r.num==acked)=Q:=by rw [eQ];rfl
      have HA:=Qh (Qi ha eQ)
      clear ha hn eQ
      go_upto_region 5 with fail
      go_quiet (fail)
      go_wp2_with fail
      go_ret
      refine ⟨?_,YW H3.out.1 _⟩
      rw [HR.out,H.out.2.2.2.2.1,if_neg HA.out.1,HA.out.2];rfl
end
end Go.Proofs.YtlgcfimhfmgkmaaGreatDoor
namespace Go.Proofs.YtlgcfimhfmgkmaaGreatDoor
open Go.RowKit
section
def Za6 (w w':World) (s:Snd) (v:Value):Prop:=∃ (B B2:Nat) (OA QA:Option Addr) (oc qc:Nat) (ls:List LR),v=.agg #[.int .i64 s.cl,.int .i64 s.next,.int .i64 s.acked,.slice OA ls.length oc,.slice QA s.items.length qc]∧ls.map LR.r=s.log ∧
 Ses w w' (rowP B 45 4 ls.length (.slice OA ls.length oc) (lrs ls) :: (ls.map lrP++[rowP B2 134 3 s.items.length (.slice QA s.items.length qc) (ZM s.items)]))
def Za7:Value:=.agg #[.int .i64 0,.int .i64 0,.int .i64 0,.slice none 0 0,.slice none 0 0]
def QG (s:Snd) (k:Int):Snd:=⟨s.cl,s.next,k,s.log.filter (fun r=>!decide (r.num<k)),s.items⟩
def ZiE (w w':World) (s:Snd) (k:Int) (v:Value):Prop:=
 (YU s=false∧v=.tuple #[Za7,.int .i64 2]∧Below w.heap.size w w') ∨
 (YU s=true∧k≤s.acked∧∃ x,v=.tuple #[x,.int .i64 0]∧Za6 w w' s x) ∨
 (YU s=true∧s.acked<k∧Z6 s.log k=none∧v=.tuple #[Za7,.int .i64 6]∧Below w.heap.size w w') ∨
 (YU s=true∧s.acked<k∧(∃ r,Z6 s.log k=some r)∧∃ x,v=.tuple #[x,.int .i64 0]∧Za6 w w' (QG s k) x)
theorem ZpA {s:Snd} (h:YU s=true):0≤s.acked:=by
 by_cases h':0≤s.acked
 ·exact h'
 ·have hd:decide (s.acked<0)=true:=decide_eq_true (by omega)
  simp [YU,ZbE,hd] at h
theorem Ses.put5R {w0 W:World} {g:Nat} {x y z u v:Value} {T:TypeId} {m l:List Part} (a b c d e:Value) (h:Ses w0 W (m++Zb g (.cells #[x,y,z,u,v] T (0,0)) :: l)):Ses w0 (QS W g a b c d e) m:=by
 have h1:=h.perm (List.perm_middle (a:=Zb g (.cells #[x,y,z,u,v] T (0,0))) (l₁:=m) (l₂:=l))
 have h7:=Ses.objSet (i:=4) e (Ses.objSet (i:=3) d (Ses.objSet (i:=2) c (Ses.objSet (i:=1) b (Ses.objSet (i:=0) a h1))))
 exact h7.tail.sub (List.sublist_append_left m l)
theorem ZpB (cl next acked k:Int) (log:List Rec) (items:List It) (LA IA:Option Addr) (ln lc iN ic:Nat) (w:World) (hT:Tabs w) (hL:Zy w LA ln lc log) (hI:ZG 3 It.ints w IA iN items) (hak:acked≤9223372036854775807) (hn:ln≤1000) (hes:∀ r,r∈log→r.es.length≤1000) (hi:iN≤1000000∧(IA=none→iN=0∧ic=0)) :
  Calls Tryz.prog 17 #[.agg #[.int .i64 cl,.int .i64 next,.int .i64 acked,.slice LA ln lc,.slice IA iN ic],.int .i64 k] w fun e w'=>∃ v,e=.returned v∧ZiE w w' ⟨cl,next,acked,log,items⟩ k v:=by
 obtain ⟨w1,g,e1,eg,hS1⟩:∃ W q,W=((w.alloc (.cells #[.int .i64 cl,.int .i64 next,.int .i64 acked,.slice LA ln lc,.slice IA iN ic] 33 (0,0))).alloc (.cells #[.int .i64 k] 3 (0,0))).alloc ZR∧q=w.heap.size∧Ses w W [Zb (q+2) ZR,Zb (q+1) (.cells #[.int .i64 k] 3 (0,0)),Zb q (.cells #[.int .i64 cl,.int .i64 next,.int .i64 acked,.slice LA ln lc,.slice IA iN ic] 33 (0,0))]:=by
  refine ⟨_,_,rfl,rfl,?_⟩
  have h:=(((Ses.start w).allocObj (.cells #[.int .i64 cl,.int .i64 next,.int .i64 acked,.slice LA ln lc,.slice IA iN ic] 33 (0,0))).allocObj (.cells #[.int .i64 k] 3 (0,0))).allocObj ZR
  rw [World.size_alloc,World.size_alloc] at h
  exact h
 have hg1:w1.heap[g]?=some (.cells #[.int .i64 cl,.int .i64 next,.int .i64 acked,.slice LA ln lc,.slice IA iN ic] 33 (0,0)):=hS1.part (p:=Zb g (.cells #[.int .i64 cl,.int .i64 next,.int .i64 acked,.slice LA ln lc,.slice IA iN ic] 33 (0,0))) (by simp)
 obtain ⟨f0,f1,f2,f3,f4⟩:=ce5 hg1
 obtain ⟨R,eR⟩:∃ R,R=YU ⟨cl,next,acked,log,items⟩:=⟨_,rfl⟩
 have F1:=ZiD cl next acked log items LA IA ln lc iN ic w1 (hT.below hS1.bel) (hL.below hS1.bel) (hI.below hS1.bel) hak
 rw [←eR] at F1
 have HS:=Qh (Qi hS1 (Qi (Qi hL hI) (Qi hn (Qi hes (Qi hi eR)))))
 clear hS1 hg1 hT hL hI hn hes hi eR hak
 unfold ZR at e1
 go_enter Tryz.func17,Tryz.ntmps17
 go_upto_region 1 with fail
 rw [←e1,←eg]
 clear e1 eg
 rcases R with _ | _
 ·go_upto_region 2 with (go_at_call 21;refine F1.mono ?_;rintro e w2 ⟨rfl,hb2⟩;have H2:=Qh hb2;clear hb2)
  clear f0 f1 f2 f3 f4
  have hS2:=HS.out.1.below H2.out
  have hz2:w2.heap[g+2]?=some ZR:=hS2.head
  have hg2:w2.heap[g]?=some (.cells #[.int .i64 cl,.int .i64 next,.int .i64 acked,.slice LA ln lc,.slice IA iN ic] 33 (0,0)):=hS2.part (p:=Zb g (.cells #[.int .i64 cl,.int .i64 next,.int .i64 acked,.slice LA ln lc,.slice IA iN ic] 33 (0,0))) (by simp)
  have hfz:=fun i=>Zd hz2 i
  obtain ⟨z0,z1,z2,z3,z4⟩:=ce5 hz2
  have H3:=Qh (Qi hS2 hz2)
  clear hS2 hz2 hg2
  go_wp2_with fail
  refine bodyPost_ret (Za5 rfl _ _ (g+2) _ rfl rfl (Yk (.int .i64 0) (.int .i64 0) (.int .i64 0) (.slice none 0 0) (.slice none 0 0) H3.out.2)) rfl ?_
  exact ⟨_,rfl,.inl ⟨HS.out.2.2.2.2.2.symm,rfl,(Ses.put5R (m:=[]) _ _ _ _ _ H3.out.1).bel⟩⟩
 go_upto_region 3 with (go_at_call 21;refine F1.mono ?_;rintro e w2 ⟨rfl,hb2⟩;have H2:=Qh hb2;clear hb2)
 clear f0 f1 f2 f3 f4
 have hS2:=HS.out.1.below H2.out
 have hz2:w2.heap[g+2]?=some ZR:=hS2.head
 have hg2:w2.heap[g]?=some (.cells #[.int .i64 cl,.int .i64 next,.int .i64 acked,.slice LA ln lc,.slice IA iN ic] 33 (0,0)):=hS2.part (p:=Zb g (.cells #[.int .i64 cl,.int .i64 next,.int .i64 acked,.slice LA ln lc,.slice IA iN ic] 33 (0,0))) (by simp)
 have hfz:=fun i=>Zd hz2 i
 obtain ⟨z0,z1,z2,z3,z4⟩:=ce5 hz2
 obtain ⟨f0,f1,f2,f3,f4⟩:=ce5 hg2
 have F2:=ZiB cl next acked log items LA IA ln lc iN ic w2 (HS.out.2.1.1.below hS2.bel) (HS.out.2.1.2.below hS2.bel) HS.out.2.2.1 HS.out.2.2.2.1 HS.out.2.2.2.2.1
 have HS2:=Qh (Qi hS2 (Qi hz2 hg2))
 clear hS2 hz2 hg2 z0 z1 z2 z3 z4 hfz
 go_upto_region 4 with (go_at_call 53;refine F2.mono ?_;rintro e w3 ⟨B,B2,OA,QA,oc,qc,ls,rfl,hls,hS3⟩;have H3:=Qh (Qi hls hS3);clear hls hS3)
 clear f0 f1 f2 f3 f4
 obtain ⟨w4,g4,e4,eg4,hS4⟩:∃ W q,W=w3.alloc (.cells #[.int .i64 cl,.int .i64 next,.int .i64 acked,.slice OA ls.length oc,.slice QA items.length qc] 33 (0,0))∧q=w3.heap.size∧Ses w W ((Zb q (.cells #[.int .i64 cl,.int .i64 next,.int .i64 acked,.slice OA ls.length oc,.slice QA items.length qc] 33 (0,0)) :: (rowP B 45 4 ls.length (.slice OA ls.length oc) (lrs ls) :: (ls.map lrP++[rowP B2 134 3 items.length (.slice QA items.length qc) (ZM items)])))++[Zb (g+2) ZR,Zb (g+1) (.cells #[.int .i64 k] 3 (0,0)),Zb g (.cells #[.int .i64 cl,.int .i64 next,.int .i64 acked,.slice LA ln lc,.slice IA iN ic] 33 (0,0))]):=⟨_,_,rfl,rfl,(HS2.out.1.under H3.out.2).allocObj _⟩
 rw [←e4,←eg4]
 clear e4 eg4
 have hg4:w4.heap[g4]?=some (.cells #[.int .i64 cl,.int .i64 next,.int .i64 acked,.slice OA ls.length oc,.slice QA items.length qc] 33 (0,0)):=hS4.head
 have hz4:w4.heap[g+2]?=some ZR:=hS4.part (p:=Zb (g+2) ZR) (by simp)
 have hk4:w4.heap[g+1]?=some (.cells #[.int .i64 k] 3 (0,0)):=hS4.part (p:=Zb (g+1) (.cells #[.int .i64 k] 3 (0,0))) (by simp)
 have hs4:w4.heap[g]?=some (.cells #[.int .i64 cl,.int .i64 next,.int .i64 acked,.slice LA ln lc,.slice IA iN ic] 33 (0,0)):=hS4.part (p:=Zb g (.cells #[.int .i64 cl,.int .i64 next,.int .i64 acked,.slice LA ln lc,.slice IA iN ic] 33 (0,0))) (by simp)
 have k0:w4.cell? ⟨g+1,0,none⟩=some (.int .i64 k):=Za hk4 0 _ rfl
 have f2:w4.cell? ⟨g,2,none⟩=some (.int .i64 acked):=Za hs4 2 _ rfl
 by_cases t1:k≤acked
 ·have d1:decide (k≤acked)=true:=decide_eq_true t1
  have hfz:=fun i=>Zd hz4 i
  obtain ⟨z0,z1,z2,z3,z4⟩:=ce5 hz4
  obtain ⟨q0,q1,q2,q3,q4⟩:=ce5 hg4
  have H4:=Qh (Qi hS4 (Qi hz4 t1))
  clear hS4 hg4 hz4 hk4 hs4 t1
  go_wp2_with fail
  refine bodyPost_ret (Za5 rfl _ _ (g+2) _ rfl rfl (Yk (.int .i64 cl) (.int .i64 next) (.int .i64 acked) (.slice OA ls.length oc) (.slice QA items.length qc) H4.out.2.1)) rfl ?_
  exact ⟨_,rfl,.inr (.inl ⟨HS.out.2.2.2.2.2.symm,H4.out.2.2,_,rfl,B,B2,OA,QA,oc,qc,ls,rfl,H3.out.1,(Ses.put5R (m:=Zb g4 (.cells #[.int .i64 cl,.int .i64 next,.int .i64 acked,.slice OA ls.length oc,.slice QA items.length qc] 33 (0,0)) :: (rowP B 45 4 ls.length (.slice OA ls.length oc) (lrs ls) :: (ls.map lrP++[rowP B2 134 3 items.length (.slice QA items.length qc) (ZM items)]))) _ _ _ _ _ H4.out.1).tail⟩)⟩
 have d1:decide (k≤acked)=false:=decide_eq_false t1
 have f3:w4.cell? ⟨g,3,none⟩=some (.slice LA ln lc):=Za hs4 3 _ rfl
 have F3:=ZdB k LA ln lc log w4 (HS.out.2.1.1.below hS4.bel)
 have H4:=Qh (Qi hS4 t1)
 clear hS4 hg4 hz4 hk4 hs4 t1
 go_upto_region 7 with (go_at_call 45;refine F3.mono ?_;rintro e w5 ⟨r,RA,rn,rc,b,rfl,hf,hb5⟩;have H5:=Qh (Qi hf hb5);clear hf hb5)
 obtain ⟨w6,g6,e6,eg6,hS6⟩:∃ W q,W=w5.alloc (.cells #[.int .i64 r.num,.int .i64 r.base,.int .i64 r.tick,.slice RA rn rc] 45 (0,0))∧q=w5.heap.size∧Ses w W (Zb q (.cells #[.int .i64 r.num,.int .i64 r.base,.int .i64 r.tick,.slice RA rn rc] 45 (0,0)) :: ((Zb g4 (.cells #[.int .i64 cl,.int .i64 next,.int .i64 acked,.slice OA ls.length oc,.slice QA items.length qc] 33 (0,0)) :: (rowP B 45 4 ls.length (.slice OA ls.length oc) (lrs ls) :: (ls.map lrP++[rowP B2 134 3 items.length (.slice QA items.length qc) (ZM items)])))++[Zb (g+2) ZR,Zb (g+1) (.cells #[.int .i64 k] 3 (0,0)),Zb g (.cells #[.int .i64 cl,.int .i64 next,.int .i64 acked,.slice LA ln lc,.slice IA iN ic] 33 (0,0))])):=⟨_,_,rfl,rfl,(H4.out.1.below H5.out.2).allocObj _⟩
 rw [←e6,←eg6]
 clear e6 eg6
 have hS6:=hS6.tail
 have hf:=H5.out.1
 unfold ZdA at hf
 rcases hf with ⟨hf,rfl,-⟩|⟨hf,rfl,-⟩
 rotate_left
 ·have hz6:w6.heap[g+2]?=some ZR:=hS6.part (p:=Zb (g+2) ZR) (by simp)
  have hfz:=fun i=>Zd hz6 i
  obtain ⟨z0,z1,z2,z3,z4⟩:=ce5 hz6
  have H6:=Qh (Qi hS6 (Qi hz6 hf))
  clear hS6 hz6 hf
  go_wp2_with fail
  refine bodyPost_ret (Za5 rfl _ _ (g+2) _ rfl rfl (Yk (.int .i64 0) (.int .i64 0) (.int .i64 0) (.slice none 0 0) (.slice none 0 0) H6.out.2.1)) rfl ?_
  exact ⟨_,rfl,.inr (.inr (.inl ⟨HS.out.2.2.2.2.2.symm,(by have h:=H4.out.2;show acked<k;omega),H6.out.2.2,rfl,(Ses.put5R (m:=Zb g4 (.cells #[.int .i64 cl,.int .i64 next,.int .i64 acked,.slice OA ls.length oc,.slice QA items.length qc] 33 (0,0)) :: (rowP B 45 4 ls.length (.slice OA ls.length oc) (lrs ls) :: (ls.map lrP++[rowP B2 134 3 items.length (.slice QA items.length qc) (ZM items)]))) _ _ _ _ _ H6.out.1).bel⟩))⟩
 have hg6:w6.heap[g4]?=some (.cells #[.int .i64 cl,.int .i64 next,.int .i64 acked,.slice OA ls.length oc,.slice QA items.length qc] 33 (0,0)):=hS6.head
 have hk6:w6.heap[g+1]?=some (.cells #[.int .i64 k] 3 (0,0)):=hS6.part (p:=Zb (g+1) (.cells #[.int .i64 k] 3 (0,0))) (by simp)
 have k0:w6.cell? ⟨g+1,0,none⟩=some (.int .i64 k):=Za hk6 0 _ rfl
 have q2:w6.cell? ⟨g4,2,none⟩=some (.int .i64 acked):=Za hg6 2 _ rfl
 have y2:=Zd hg6 2
 obtain ⟨w7,e7,hS7⟩:∃ V,V=w6.setCell ⟨g4,2,none⟩ (.int .i64 k)∧Ses w V ((Zb g4 (.cells #[.int .i64 cl,.int .i64 next,.int .i64 k,.slice OA ls.length oc,.slice QA items.length qc] 33 (0,0)) :: (rowP B 45 4 ls.length (.slice OA ls.length oc) (lrs ls) :: (ls.map lrP++[rowP B2 134 3 items.length (.slice QA items.length qc) (ZM items)])))++[Zb (g+2) ZR,Zb (g+1) (.cells #[.int .i64 k] 3 (0,0)),Zb g (.cells #[.int .i64 cl,.int .i64 next,.int .i64 acked,.slice LA ln lc,.slice IA iN ic] 33 (0,0))]):=⟨_,rfl,Ses.objSet (i:=2) (.int .i64 k) hS6⟩
 have hne:0<ls.length:=by
  rcases ls with _|⟨x,ls⟩
  ·have h:=H3.out.1
   rw [←h] at hf
   have hk:k≠0:=by have:=H4.out.2;have:=ZpA HS.out.2.2.2.2.2.symm;have:0≤acked:=this;omega
   unfold Z6 at hf
   rw [if_neg hk] at hf
   simp at hf
  ·simp
 have hfo:∃ r,Z6 log k=some r:=⟨_,hf⟩
 obtain ⟨m,em⟩:∃ m,ls.length=m+1:=⟨ls.length-1,by omega⟩
 obtain ⟨g9,c9,e9⟩:∃ g9 c9,Value.slice OA ls.length oc=.slice (some ⟨g9,0,none⟩) ls.length c9:=by
  have hown:w6.ownsRow B 45 4 (.slice OA ls.length oc) ls.length (lrs ls):=hS6.tail.head
  rw [em] at hown ⊢
  exact ownsRow_succ hown
 injection e9 with e9 _ e10
 subst e9 e10
 have hlen:ls.length≤1000:=by
  have h:=congrArg List.length H3.out.1
  rw [List.length_map] at h
  have:=HS.out.2.1.1.len
  have:=HS.out.2.2.1
  omega
 have QY:w7.ownsRow B 45 4 (.slice (some ⟨g9,0,none⟩) ls.length oc) ls.length (lrs ls):=hS7.tail.head
 have hr7:∀ x,x∈ls→Zj w7 x.A x.n x.c x.r.es:=fun x hx=>hS7.part (p:=lrP x) (List.mem_append_left _ (.tail _ (.tail _ (List.mem_append_left _ (List.mem_map.2 ⟨x,hx,rfl⟩)))))
 have hg7:w7.heap[g4]?=some (.cells #[.int .i64 cl,.int .i64 next,.int .i64 k,.slice (some ⟨g9,0,none⟩) ls.length oc,.slice QA items.length qc] 33 (0,0)):=hS7.head
 have hk7:w7.heap[g+1]?=some (.cells #[.int .i64 k] 3 (0,0)):=hS7.part (p:=Zb (g+1) (.cells #[.int .i64 k] 3 (0,0))) (by simp)
 have hg9:g+1≠g9:=by
  have h:=H3.out.2.base (rowP B 45 4 ls.length (.slice (some ⟨g9,0,none⟩) ls.length oc) (lrs ls)) (by simp) g9 (by simp [rowP,Value.ownBlock])
  have:=lt_of_block HS2.out.2.1
  omega
 have F5:=Zpt k (g+1) B g9 oc ls w7 QY hlen hr7 (Za hk7 0 _ rfl) hg9
 have t3:w7.cell? ⟨g4,3,none⟩=some (.slice (some ⟨g9,0,none⟩) ls.length oc):=Za hg7 3 _ rfl
 have H6:=Qh (Qi hS7 hfo)
 clear hS6 hS7 hg6 hk6 hf hne hfo em QY hr7 hg7 hk7 hg9 hlen
 go_upto_region 10 with fail
 rw [←e7]
 clear e7 k0 q2 y2
 go_upto_region 11 with (go_at_call 64;refine F5.mono ?_;rintro e w8 ⟨m,rfl,hm,ZiF,ZiG⟩;have hS8:=(Ses.rowApp (v':=.slice (some ⟨g9,0,none⟩) m oc) (Ses.front2 H6.out.1) ZiF ZiG (.inl rfl)).front2;have hg8:w8.heap[g4]?=some (.cells #[.int .i64 cl,.int .i64 next,.int .i64 k,.slice (some ⟨g9,0,none⟩) ls.length oc,.slice QA items.length qc] 33 (0,0)):=hS8.head;have u3:w8.cell? ⟨g4,3,none⟩=some (.slice (some ⟨g9,0,none⟩) ls.length oc):=Za hg8 3 _ rfl;have y3:=Zd hg8 3;have H8:=Qh (Qi hm hS8);clear hm ZiF ZiG hS8 hg8)
 obtain ⟨w9,e9,hS9⟩:∃ V,V=w8.setCell ⟨g4,3,none⟩ (.slice (some ⟨g9,0,none⟩) m oc)∧Ses w V _:=⟨_,rfl,Ses.objSet (i:=3) (.slice (some ⟨g9,0,none⟩) m oc) H8.out.2⟩
 rw [←e9]
 clear e9 t3 u3 y3
 have hg9:w9.heap[g4]?=some (.cells #[.int .i64 cl,.int .i64 next,.int .i64 k,.slice (some ⟨g9,0,none⟩) m oc,.slice QA items.length qc] 33 (0,0)):=hS9.head
 have hz9:w9.heap[g+2]?=some ZR:=hS9.part (p:=Zb (g+2) ZR) (by simp)
 have hfz:=fun i=>Zd hz9 i
 obtain ⟨z0,z1,z2,z3,z4⟩:=ce5 hz9
 obtain ⟨q0,q1,q2,q3,q4⟩:=ce5 hg9
 have H9:=Qh (Qi hS9 hz9)
 clear hS9 hz9 hg9
 go_wp2_with fail
 refine bodyPost_ret (Za5 rfl _ _ (g+2) _ rfl rfl (Yk (.int .i64 cl) (.int .i64 next) (.int .i64 k) (.slice (some ⟨g9,0,none⟩) m oc) (.slice QA items.length qc) H9.out.2)) rfl ?_
 have hm:=H8.out.1
 subst hm
 refine ⟨_,rfl,.inr (.inr (.inr ⟨HS.out.2.2.2.2.2.symm,(by have h:=H4.out.2;show acked<k;omega),H6.out.2,_,rfl,B,B2,some ⟨g9,0,none⟩,QA,oc,qc,ls.filter (fun x=>!decide (x.r.num<k)),?_,?_,?_⟩))⟩
 ·rfl
 ·show _=log.filter _
  rw [←H3.out.1,List.filter_map];rfl
 ·have h:=(Ses.put5R (m:=Zb g4 (.cells #[.int .i64 cl,.int .i64 next,.int .i64 k,.slice (some ⟨g9,0,none⟩) (ls.filter fun x=>!decide (x.r.num<k)).length oc,.slice QA items.length qc] 33 (0,0)) :: (rowP B 45 4 (ls.filter fun x=>!decide (x.r.num<k)).length (.slice (some ⟨g9,0,none⟩) (ls.filter fun x=>!decide (x.r.num<k)).length oc) (lrs (ls.filter fun x=>!decide (x.r.num<k))) :: (ls.map lrP++[rowP B2 134 3 items.length (.slice QA items.length qc) (ZM items)]))) (.int .i64 cl) (.int .i64 next) (.int .i64 k) (.slice (some ⟨g9,0,none⟩) (ls.filter fun x=>!decide (x.r.num<k)).length oc) (.slice QA items.length qc) H9.out.1).tail
  refine (h.sub ?_)
  exact .cons_cons _ (List.Sublist.append (List.Sublist.map _ List.filter_sublist) (List.Sublist.refl _))
end
end Go.Proofs.YtlgcfimhfmgkmaaGreatDoor
namespace Go.Proofs.YtlgcfimhfmgkmaaGreatDoor
open Go.RowKit
section
theorem ZiH {W:World} {q i b:Nat} {u:Value} (hq:W.heap[q]?=some ZR) (h:W.cell? ⟨b,i,none⟩=some u) (h0:u≠.int .i64 0) (h1:u≠.slice none 0 0):b≠q:=by
 rintro rfl
 rw [cell_of_block hq i] at h
 rcases i with _ | _ | _ | _ | _ | i
 ·injection h with h;exact h0 h.symm
 ·injection h with h;exact h0 h.symm
 ·injection h with h;exact h0 h.symm
 ·injection h with h;exact h1 h.symm
 ·injection h with h;exact h1 h.symm
 ·simp at h
theorem Zj.keepS {W W':World} {A:Option Addr} {n c q:Nat} {l:List Ent} (h:Zj W A n c l) (hid:∀ e,e∈l→1≤e.id) (hq:W.heap[q]?=some ZR) (hk:∀ b,b<W.heap.size→b≠q→W'.heap[b]?=W.heap[b]?):Zj W' A n c l:=by
 refine ⟨h.len,fun j e hj=>?_,h.nil,h.lim,h.le⟩
 obtain ⟨b,o,CA,cn,cc,ea,⟨h0,h1⟩,hc⟩:=h.at_ j e hj
 have hb:b≠q:=ZiH hq h0 (fun e'=>by injection e' with _ e';have:=hid e (List.mem_of_getElem? hj);omega) (by simp)
 have hs:=hk b (Zc h0) hb
 refine ⟨b,o,CA,cn,cc,ea,⟨(Zm hs _).trans h0,(Zm hs _).trans h1⟩,hc.len,fun i x hx=>?_,hc.nil,hc.lim,hc.kind⟩
 obtain ⟨b',o',ea',hcc⟩:=hc.at_ i x hx
 have hb':b'≠q:=ZiH hq hcc.c0 (by simp) (by simp)
 exact ⟨b',o',ea',hcc.step (hk b' (Zc hcc.c0) hb')⟩
def ZA (w:World) (s:Snd) (v:Value):Prop:=∃ (LA IA:Option Addr) (ln lc iN ic:Nat),v=.agg #[.int .i64 s.cl,.int .i64 s.next,.int .i64 s.acked,.slice LA ln lc,.slice IA iN ic]∧Zy w LA ln lc s.log∧ZG 3 It.ints w IA iN s.items∧(IA=none→iN=0∧ic=0)
theorem ZiI {w:World} {B g c:Nat} {l:List LR} (h:w.ownsRow B 45 4 (.slice (some ⟨g,0,none⟩) l.length c) l.length (lrs l)) (hl:l.length≤1000000) (hr:∀ x,x∈l→Zj w x.A x.n x.c x.r.es):Zy w (some ⟨g,0,none⟩) l.length c (l.map LR.r):=by
 obtain ⟨A',c',e',hL⟩:=Zch h hl hr
 injection e' with e1 _ e2
 subst e1 e2
 exact hL
def Zaw (B:Nat) (w:World) (s:Snd) (LA IA:Option Addr) (ln lc iN ic:Nat):Prop:=
 ∃ (g:Nat) (LS:List LR),LA=some ⟨g,0,none⟩∧w.ownsRow B 45 4 (.slice (some ⟨g,0,none⟩) ln lc) ln (lrs LS)∧(ln=LS.length∧ln≤1000000∧LS≠[])∧LS.map LR.r=s.log∧(IA=none→iN=0∧ic=0) ∧
  ∀ W':World,w.heap.size≤W'.heap.size→(∀ b,b<w.heap.size→b≠g→W'.heap[b]?=w.heap[b]?)→(∀ x,x∈LS→Zj W' x.A x.n x.c x.r.es)∧ZG 3 It.ints W' IA iN s.items
def Xy (B:Nat) (w:World) (s:Snd) (v:Value):Prop:=∃ (LA IA:Option Addr) (ln lc iN ic:Nat),v=.agg #[.int .i64 s.cl,.int .i64 s.next,.int .i64 s.acked,.slice LA ln lc,.slice IA iN ic]∧Zaw B w s LA IA ln lc iN ic
theorem Zaw.toL {B:Nat} {w:World} {s:Snd} {LA IA:Option Addr} {ln lc iN ic:Nat} (h:Zaw B w s LA IA ln lc iN ic):Zy w LA ln lc s.log∧ZG 3 It.ints w IA iN s.items∧(IA=none→iN=0∧ic=0):=by
 obtain ⟨g,LS,rfl,hO,⟨hn,hl,_⟩,hm,hi,hc⟩:=h
 obtain ⟨h1,h2⟩:=hc w (Nat.le_refl _) (fun _ _ _=>rfl)
 subst hn
 rw [←hm]
 exact ⟨ZiI hO hl h1,h2,hi⟩
theorem Xy.toV {B:Nat} {w:World} {s:Snd} {v:Value} (h:Xy B w s v):ZA w s v:=by
 obtain ⟨LA,IA,ln,lc,iN,ic,e,h⟩:=h
 exact ⟨LA,IA,ln,lc,iN,ic,e,h.toL⟩
theorem Xy.below {B:Nat} {w w':World} {s:Snd} {v:Value} (h:Xy B w s v) (hb:Below w.heap.size w w'):Xy B w' s v:=by
 obtain ⟨LA,IA,ln,lc,iN,ic,e,g,LS,e2,hO,hn,hm,hi,hc⟩:=h
 refine ⟨LA,IA,ln,lc,iN,ic,e,g,LS,e2,Y3 hO hb,hn,hm,hi,fun W' hz hk=>hc W' (Nat.le_trans hb.size hz) (fun b hlt hne=>(hk b (Nat.lt_of_lt_of_le hlt hb.size) hne).trans (hb.block b hlt))⟩
theorem ZiJ {w:World} {B B' e s n m g c:Nat} {xs:List Value} (h:w.ownsRow B e s (.slice (some ⟨g,0,none⟩) m c) n xs) (hB:B'≤g):w.ownsRow B' e s (.slice (some ⟨g,0,none⟩) m c) n xs:=by
 refine ⟨h.1,?_⟩
 rcases h.2 with ⟨h',_⟩|⟨g',cap,cur,e',hb,r⟩
 ·cases h'
 ·have e2:=e'
  injection e' with e'
  injection e' with e'
  injection e' with e'
  exact .inr ⟨g',cap,cur,e2,by omega,r⟩
theorem ZpC {w:World} {B e s n m g c:Nat} {xs:List Value} (h:w.ownsRow B e s (.slice (some ⟨g,0,none⟩) m c) n xs):B≤g:=(Yg h rfl).2
theorem Xy.base {B B':Nat} {w:World} {s:Snd} {v:Value} (h:Xy B w s v) (hB:B'≤B):Xy B' w s v:=by
 obtain ⟨LA,IA,ln,lc,iN,ic,e,g,LS,e2,hO,hr⟩:=h
 exact ⟨LA,IA,ln,lc,iN,ic,e,g,LS,e2,ZiJ hO (Nat.le_trans hB (ZpC hO)),hr⟩
end
end Go.Proofs.YtlgcfimhfmgkmaaGreatDoor
namespace Go.Proofs.YtlgcfimhfmgkmaaGreatDoor
open Go.RowKit
section
theorem ZdE (n:Nat) (hn:n≤1073741825) (w:World):Calls Tryz.prog 56 #[.int .i64 (n:Nat)] w fun e w'=>e=.returned (.slice (some ⟨w.heap.size,0,none⟩) 4 4)∧w'=w.alloc (.cells #[.int .u8 ((n / 16777216:Nat):Int),.int .u8 ((n / 65536 % 256:Nat):Int),.int .u8 ((n / 256 % 256:Nat):Int),.int .u8 ((n % 256:Nat):Int)] 5 (0,0)):=by
 go_enter Tryz.func56,Tryz.ntmps56
 go_wp2_with fail
 go_ret
 have h1:((n / 16777216:Nat):Int)=(n:Int) / 16777216:=by omega
 have h2:((n / 65536 % 256:Nat):Int)=(n:Int) / 65536 % 256:=by omega
 have h3:((n / 256 % 256:Nat):Int)=(n:Int) / 256 % 256:=by omega
 have h4:((n % 256:Nat):Int)=(n:Int) % 256:=by omega
 exact ⟨rfl,by rw [h1,h2,h3,h4]⟩
theorem Zfn (a b:Nat) (ha:a<4294967296) (hb:b<4294967296):bits .or .i64 (a:Int) (b:Int)=((a ||| b:Nat):Int):=by
 have hx:a ||| b<2 ^ 32:=Nat.or_lt_two_pow (by omega) (by omega)
 show IntKind.i64.wrap ((BitVec.ofInt 64 (a:Int) ||| BitVec.ofInt 64 (b:Int)).toNat:Int)=_
 rw [BitVec.toNat_or,ofInt_u64 a (by omega),ofInt_u64 b (by omega),Go.IntWalk.i64_in _ (by omega)]
theorem or4 (x y z u:Nat) (hx:x<256) (hy:y<256) (hz:z<256) (hu:u<256) :
  bits .or .i64 (bits .or .i64 (bits .or .i64 ((x:Int)*16777216) ((y:Int)*65536)) ((z:Int)*256)) (u:Int)=((x*16777216+y*65536+z*256+u:Nat):Int):=by
 have h1:=Nat.two_pow_add_eq_or_of_lt (i:=24) (b:=y*65536) (by omega) x
 have h2:=Nat.two_pow_add_eq_or_of_lt (i:=16) (b:=z*256) (by omega) (x*256+y)
 have h3:=Nat.two_pow_add_eq_or_of_lt (i:=8) (b:=u) (by omega) (x*65536+y*256+z)
 have e1:(x*16777216 ||| y*65536)=x*16777216+y*65536:=by rw [show x*16777216=2 ^ 24*x from by omega,←h1]
 have e2:(x*16777216+y*65536 ||| z*256)=x*16777216+y*65536+z*256:=by rw [show x*16777216+y*65536=2 ^ 16*(x*256+y) from by omega,←h2]
 have e3:(x*16777216+y*65536+z*256 ||| u)=x*16777216+y*65536+z*256+u:=by rw [show x*16777216+y*65536+z*256=2 ^ 8*(x*65536+y*256+z) from by omega,←h3]
 rw [show ((x:Int)*16777216)=((x*16777216:Nat):Int) from by omega,show ((y:Int)*65536)=((y*65536:Nat):Int) from by omega,show ((z:Int)*256)=((z*256:Nat):Int) from by omega]
 rw [Zfn _ _ (by omega) (by omega),e1,Zfn _ _ (by omega) (by omega),e2,Zfn _ _ (by omega) (by omega),e3]
theorem ZiK (b o n c:Nat) (x y z u:Nat) (hx:x<256) (hy:y<256) (hz:z<256) (hu:u<256) (hn:4≤n) (w:World)
  (c0:w.cell? ⟨b,o,none⟩=some (.int .u8 (x:Nat))) (c1:w.cell? ⟨b,o+1,none⟩=some (.int .u8 (y:Nat))) (c2:w.cell? ⟨b,o+2,none⟩=some (.int .u8 (z:Nat))) (c3:w.cell? ⟨b,o+3,none⟩=some (.int .u8 (u:Nat))) :
  Calls Tryz.prog 57 #[.slice (some ⟨b,o,none⟩) n c] w fun e w'=>e=.returned (.int .i64 ((x*16777216+y*65536+z*256+u:Nat):Int))∧Below w.heap.size w w':=by
 have n0:(0:Int)<(n:Int):=by omega
 have n1:(1:Int)<(n:Int):=by omega
 have n2:(2:Int)<(n:Int):=by omega
 have n3:(3:Int)<(n:Int):=by omega
 go_enter Tryz.func57,Tryz.ntmps57
 go_upto_region 1 with fail
 have h4:=or4 x y z u hx hy hz hu
 have HR:=Qh h4
 clear h4
 go_quiet (fail)
 go_wp2_with fail
 go_ret
 exact ⟨by rw [←HR.out];rfl,rfl,rfl,rfl,Nat.le_refl _,fun _ _=>rfl⟩
end
end Go.Proofs.YtlgcfimhfmgkmaaGreatDoor
