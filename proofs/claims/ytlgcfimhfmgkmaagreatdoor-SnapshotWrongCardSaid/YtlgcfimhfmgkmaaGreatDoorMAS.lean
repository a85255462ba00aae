/- Lemmas for the statement. -/
import Derived.RangeFuncBox
import Derived.Test.YtlgcfimhfmgkmaaGreatDoorMAR
set_option linter.unusedVariables false
set_option linter.unusedSimpArgs false
set_option maxRecDepth 100000
set_option maxHeartbeats 4000000
namespace Go.Proofs.YtlgcfimhfmgkmaaGreatDoor
open Go.RowKit
section
theorem Zdb (i j:Int) (A B:Option Addr) (n c m d:Nat) (w:World) :
    Calls Tryz.prog 67 #[.agg #[.int .i64 i,.slice A n c,.int .i64 j,.slice B m d]] w fun r w'=>r=.returned (.int .i64 (max i j))∧Below w.heap.size w w':=by
  obtain ⟨w1,e1⟩:∃ W,W=w.alloc (.cells #[.int .i64 i,.slice A n c,.int .i64 j,.slice B m d] 129 (0,0)):=⟨_,rfl⟩
  obtain ⟨g,eg⟩:∃ g,g=w.heap.size:=⟨_,rfl⟩
  have hb:Below w.heap.size w w1:=by rw [e1];exact Zg w _
  have hg0:w1.heap[g]?=some (.cells #[.int .i64 i,.slice A n c,.int .i64 j,.slice B m d] 129 (0,0)):=by rw [e1,eg];exact heap_alloc_new w _
  have f0:w1.cell? ⟨g,0,none⟩=some (.int .i64 i):=Za hg0 0 _ rfl
  have f2:w1.cell? ⟨g,2,none⟩=some (.int .i64 j):=Za hg0 2 _ rfl
  have H:=Qh hb
  clear hb hg0
  go_enter Tryz.func67,Tryz.ntmps67
  go_upto_region 1 with fail
  rw [←e1,←eg]
  clear e1 eg
  go_wp2_with fail
  all_goals first
    | (have hv:max i j=i:=by omega
       rw [hv]
       go_ret
       exact ⟨rfl,H.out⟩)
    | (have hv:max i j=j:=by omega
       rw [hv]
       go_ret
       exact ⟨rfl,H.out⟩)
    | (go_ret;exact ⟨rfl,H.out⟩)
end
end Go.Proofs.YtlgcfimhfmgkmaaGreatDoor
namespace Go.Proofs.YtlgcfimhfmgkmaaGreatDoor
open Go.RowKit
section
open Go.RowKit Go.Shelf
attribute [local go_sem] Oper.semAt_some
theorem ZaX:(Tryz.prog.info? 3).map (fun i=>(i.zero,i.size,i.bytes))=some (some (.int .i64 0),1,8):=by kernel_rfl
def Zu (l:List Int):List Value:=l.map (Value.int .i64)
def ZaY (p:Ent × Ent):Option Int:=if p.2.id=0 then some p.1.id else none
def YL (l:List (Ent × Ent)):List Int:=l.filterMap ZaY
theorem Y0 {t:Int} {es:List Ent} (h:Zl t es=true):∀ e,e∈es→Yv e=true:=by
 intro e he
 unfold Zl at h
 rw [Bool.and_eq_true] at h
 have h2:=h.2
 rw [Bool.not_eq_true',List.any_eq_false] at h2
 have:=h2 e he
 simpa using this
theorem Jb {e:Ent} (h:Yv e=true):1≤e.id∧e.id≤65536:=by
 unfold Yv at h
 simp only [Bool.and_eq_true,decide_eq_true_eq] at h
 exact h.1.1
theorem Zdc {t:Int} {es:List Ent} (h:Zl t es=true):es.length≤64:=by
 unfold Zl at h
 simp only [Bool.and_eq_true,decide_eq_true_eq] at h
 exact h.1.1.2
theorem ZeN {s t:Int} {es fs:List Ent} {la lb:List ER} (ha:Zl s es=true) (hb:Zl t fs=true) (ea:la.map ER.e=es) (eb:lb.map ER.e=fs):∀ r,r∈la∨r∈lb→1≤r.e.id∧r.e.id≤65536:=by
 rintro r (hr | hr)
 ·exact Jb (Y0 ha r.e (by rw [←ea];exact List.mem_map.2 ⟨r,hr,rfl⟩))
 ·exact Jb (Y0 hb r.e (by rw [←eb];exact List.mem_map.2 ⟨r,hr,rfl⟩))
theorem ZeO (W:World) (p:PR):(W.alloc (.cells #[.int .i64 p.was.e.id,.slice p.was.A p.was.n p.was.c,.int .i64 p.now.e.id,.slice p.now.A p.now.n p.now.c] 129 (0,0))).heap[W.heap.size]?=some (.cells #[.int .i64 p.was.e.id,.slice p.was.A p.was.n p.was.c,.int .i64 p.now.e.id,.slice p.now.A p.now.n p.now.c] 129 (0,0)):=heap_alloc_new W _
theorem ZhC (w:World) (s t:Int) (A B:Option Addr) (n c m d:Nat):∃ W g,W=(w.alloc (.cells #[.int .i64 s,.slice A n c] 24 (0,0))).alloc (.cells #[.int .i64 t,.slice B m d] 24 (0,0))∧g=w.heap.size ∧
  W.heap[g]?=some (.cells #[.int .i64 s,.slice A n c] 24 (0,0))∧W.heap[g+1]?=some (.cells #[.int .i64 t,.slice B m d] 24 (0,0))∧Below w.heap.size w W:=
 ⟨_,_,rfl,rfl,ZZ w _ _,Z0 w _ _,ZQ w _ _⟩
theorem ZeP {g:Nat} {cs:Array Value} {T:TypeId} {β:Type}:Own (fun (_:β) W=>W.heap[g]?=some (.cells cs T (0,0))):=fun s X Y row hs hg hr=>
 (hg.block g (Zh hs) (fun e=>by obtain ⟨o,h1,h2⟩:=hr g e.symm;rw [hs] at h1;injection h1 with h1;rw [←h1] at h2;cases h2)).trans hs
theorem Tq46 {p:Prop} (h:p:=by
 rintro l pre x W K ⟨⟨v,hv,hr,-⟩,hbW⟩ hK
 have hsz:=hbW.size
 have HK:=Qh hK
 clear hK
 simp only [PR.agg]
 gi_wp2
 exact HK.out _ _ ((KeepsOthers.alloc _ _).from _) ((Below.refl _ W).alloc hsz _) ⟨⟨v,hv.alloc _,hr.alloc _,trivial⟩,hbW.alloc hsz _⟩ ⟨W.heap.size,ZeO W x.1,rfl⟩):p:=h
theorem Tq45 {p:Prop} (h:p:=by
 have:=H.out.2.2.2.2.2.1.len
 have:=H.out.2.2.2.2.2.1.lim
 have:=H.out.2.2.2.2.2.2.1.len
 have:=H.out.2.2.2.2.2.2.1.lim
 have h5:=Zdc H.out.2.2.2.1
 have h6:=Zdc H.out.2.2.2.2.1
 rw [←H.out.2.2.2.2.2.2.2.1,List.length_map] at h5
 rw [←H.out.2.2.2.2.2.2.2.2.1,List.length_map] at h6
 omega):p:=h
theorem Tq27 {p:Prop} (h:p:=by
 rw [show (ys.map fun x=>x.1.e)=(ys.map Subtype.val).map PR.e from by rw [List.map_map];rfl,hys,ZeF,H.out.2.2.2.2.2.2.2.1,H.out.2.2.2.2.2.2.2.2.1]
 unfold Zw
 rw [←H.out.2.2.2.2.2.2.2.1,←H.out.2.2.2.2.2.2.2.2.1,List.length_map,List.length_map]):p:=h
theorem ZnF (s t:Int) (A B:Option Addr) (n c m d:Nat) (es fs:List Ent) (w:World) (hT:Tabs w) (ha:Zj w A n c es) (hb:Zj w B m d fs) (va:Zl s es=true) (vb:Zl t fs=true) :
    Calls Tryz.prog 46 #[.agg #[.int .i64 s,.slice A n c],.agg #[.int .i64 t,.slice B m d]] w fun e w'=>∃ v,e=.returned (.tuple #[v,.int .i64 0])∧w'.ownsRow w.heap.size 3 1 v (YL (Zw es fs)).length (Zu (YL (Zw es fs)))∧Below w.heap.size w w':=by
  obtain ⟨la,ea,xa⟩:=ha.x
  obtain ⟨lb,eb,xb⟩:=hb.x
  obtain ⟨i9,hi9,hz0,hz1,hz2⟩:=info_parts ZaX
  obtain ⟨w1,g,e1,eg,hg0,hg1,hb1⟩:=ZhC w s t A B n c m d
  obtain ⟨f0,f1⟩:=cs2 hg0
  obtain ⟨f2,f3⟩:=cs2 hg1
  have FA:=Qd s A n c es w1 (hT.below hb1) (ha.below hb1)
  rw [va] at FA
  have H:=Qh (Qi hT (Qi ha (Qi hb (Qi va (Qi vb (Qi xa (Qi xb (Qi ea (Qi eb (Qi hb1 (Qi hg0 (Qi hg1 eg))))))))))))
  have HI:=Qh (Qi hi9 (Qi hz0 (Qi hz1 hz2)))
  clear hT ha hb va vb xa xb ea eb hb1 hg0 hg1 hi9 hz0 hz1 hz2
  refine (callsIn_wide (n:=5)).1 ?_
  refine callsIn_of_wp_marks Tryz.func46 rfl trivial ?_ rfl
  simp only [Tryz.ntmps46,List.size_toArray,List.length_cons,List.length_nil,Nat.reduceAdd,Nat.reduceSub,Array.replicate_succ,Array.replicate_zero,List.push_toArray,List.append_toArray,List.nil_append,List.cons_append]
  gi_upto_region 1 with fail
  rw [←e1,←eg]
  clear e1 eg
  gi_upto_region 4 with (first
    | (have t1:=FA
       refine ⟨trivial,?_⟩
       gi_at_call 9
       refine (callsIn_wide.2 t1).mono ?_
       rintro e w2 ⟨rfl,hb2⟩
       have k0:=(hb2.cell (Zc f2)).trans f2
       have k1:=(hb2.cell (Zc f3)).trans f3
       have k2:=(hb2.cell (Zc f0)).trans f0
       have k3:=(hb2.cell (Zc f1)).trans f1
       have Zt:Below w.heap.size w w2:=H.out.2.2.2.2.2.2.2.2.2.1.trans (hb2.mono H.out.2.2.2.2.2.2.2.2.2.1.size)
       have FB:=Qd t B m d fs w2 (H.out.1.below Zt) (H.out.2.2.1.below Zt)
       rw [H.out.2.2.2.2.1] at FB
       have H2:=Qh Zt
       clear hb2 Zt t1 FA f0 f1 f2 f3)
    | (have t2:=FB
       refine ⟨trivial,?_⟩
       gi_at_call 9
       refine (callsIn_wide.2 t2).mono ?_
       rintro e w3 ⟨rfl,hb3⟩
       have k4:=(hb3.cell (Zc k0)).trans k0
       have k5:=(hb3.cell (Zc k1)).trans k1
       have k6:=(hb3.cell (Zc k2)).trans k2
       have k7:=(hb3.cell (Zc k3)).trans k3
       have H3:=Qh (H2.out.trans (hb3.mono H2.out.size))
       clear hb3 t2 FB k0 k1 k2 k3))
  obtain ⟨w4,o,e4,eo,ho,hb4⟩:∃ w4 o,w4=w3.alloc (.cells #[.slice none 0 0] 48 (0,0))∧o=w3.heap.size∧w4.heap[o]?=some (.cells #[.slice none 0 0] 48 (0,0))∧Below w3.heap.size w3 w4:=⟨_,_,rfl,rfl,heap_alloc_new w3 _,Zg w3 _⟩
  rw [←e4,←eo]
  have k0:=(hb4.cell (Zc k4)).trans k4
  have k1:=(hb4.cell (Zc k5)).trans k5
  have k2:=(hb4.cell (Zc k6)).trans k6
  have k3:=(hb4.cell (Zc k7)).trans k7
  have HO:=Qh (Qi eo (Qi ho hb4))
  clear e4 eo ho hb4 k4 k5 k6 k7
  gi_wp2_with (refine ⟨trivial,?_⟩;gi_at_call 66;refine (callsIn_wide.2 (ZeI s t A B n c m d _)).mono ?_;rintro e w5 ⟨g5,eg5,rfl,hg5,hg6,hb5⟩;have H5:=Qh (Qi eg5 (Qi hg5 (Qi hg6 hb5)));clear eg5 hg5 hg6 hb5)
  have YZ:=H5.out.2.2.2
  have h34:=HO.out.2.2
  have hw3:=H3.out
  have hw4:Below w.heap.size w w4:=hw3.trans (h34.mono hw3.size)
  have hw5:Below w.heap.size w w5:=hw4.trans (YZ.mono hw4.size)
  have hbo:Boxed w5 o 48 (.slice none 0 0):=(YZ.block o (Zh HO.out.2.1)).trans HO.out.2.1
  have hoo:w.heap.size≤o:=by rw [HO.out.1];exact hw3.size
  have hs5:=hw5.size
  have hol:o<w5.heap.size:=Zh hbo
  refine wpIn_rangeFunc_ownH rfl (by decide) (gf:=134) (lb:=#[.pointer (some ⟨g5,0,none⟩),.pointer (some ⟨g5+1,0,none⟩)]) rfl trivial (enters_of Tryz.func134 (by kernel_rfl) rfl)
    (ZeM 4 (by decide) g5 (g5+1) s t A B n c m d la lb w H.out.2.2.2.2.2.1 H.out.2.2.2.2.2.2.1 (ZeN H.out.2.2.2.1 H.out.2.2.2.2.1 H.out.2.2.2.2.2.2.2.1 H.out.2.2.2.2.2.2.2.2.1) w5 hw5 H5.out.2.1 H5.out.2.2.1)
    belowK_t (belowK_b hs5) (Below.refl _ _) (fun _=>rfl)
    (fun pre W=>(∃ v,Boxed W o 48 v∧W.ownsRow w.heap.size 3 1 v (YL (pre.map fun x=>x.1.e)).length (Zu (YL (pre.map fun x=>x.1.e)))∧True)∧Below w.heap.size w W)
    (fun _ _ _=>False)
    (OwnFrom.and (Own.from (holdsRow_own w.heap.size o 48 3 1 (fun pre:List (PF la lb)=>(YL (pre.map fun x=>x.1.e)).length) (fun pre=>Zu (YL (pre.map fun x=>x.1.e))) (fun _ _=>True)) _) (ownFrom_below (Nat.le_refl _) hs5))
    (fun _ _ _ _ _ hs _ _=>hs)
    ⟨⟨_,hbo,World.ownsRow_nil _ _ _ _,trivial⟩,hw5⟩
    (fun x a' W=>∃ Bx,W.heap[Bx]?=some (.cells #[.int .i64 x.1.was.e.id,.slice x.1.was.A x.1.was.n x.1.was.c,.int .i64 x.1.now.e.id,.slice x.1.now.A x.1.now.n x.1.now.c] 129 (0,0))∧a'={ tmps:=#[.agg #[.int .i64 s,.slice A n c],.agg #[.int .i64 t,.slice B m d],.pointer (some ⟨g,0,none⟩),.pointer (some ⟨g+1,0,none⟩),.slice none 0 0,.int .i64 0,.pointer (some ⟨o,0,none⟩),.pointer (some ⟨Bx,0,none⟩),.agg #[.int .i64 s,.slice A n c],.bool true,.bool false,.bool false,.agg #[.int .i64 t,.slice B m d],.bool true,.bool false,.bool false,.agg #[.int .i64 s,.slice A n c],.agg #[.int .i64 t,.slice B m d],.func (.func 134) #[] #[.pointer (some ⟨g5,0,none⟩),.pointer (some ⟨g5+1,0,none⟩)],x.1.agg,undef,undef,undef,undef,undef,undef,undef,undef,undef,undef,undef],defers:=[] })
    (fun x a' s X Y row hs hg hr=>by obtain ⟨Bx,h2,h3⟩:=hs;exact ⟨Bx,ZeP (β:=Unit) () X Y row h2 hg (fun r e=>(hr r e).2),h3⟩)
    ?assign ?body ?done ?stop
  case assign=>
    exact Tq46
  case stop=>
    rintro D c pre W _ _ h _
    exact h.elim
  case body=>
    rintro l pre x a' W hl hrec ⟨⟨v,hv,hr,-⟩,hbW⟩ ⟨Bx,hBx,rfl⟩ hlt
    have q0:W.cell? ⟨Bx,0,none⟩=some (.int .i64 x.1.was.e.id):=Za hBx 0 _ rfl
    have q2:W.cell? ⟨Bx,2,none⟩=some (.int .i64 x.1.now.e.id):=Za hBx 2 _ rfl
    have hc:=hv.cell
    have hlen:(YL (pre.map fun x=>x.1.e)).length≤1000000:=by
      have h1:(YL (pre.map fun x=>x.1.e)).length≤pre.length:=by unfold YL;exact Nat.le_trans (List.length_filterMap_le _ _) (by simp)
      exact Tq45
    have hsz:=hbW.size
    have htk:YL ((pre++[x]).map fun x=>x.1.e)=YL (pre.map fun x=>x.1.e)++(ZaY x.1.e).toList:=by
      unfold YL
      rw [List.map_append,List.filterMap_append]
      rcases hg:ZaY x.1.e with _ | u<;>simp [hg]
    obtain ⟨L,eL⟩:∃ L,L=YL (pre.map fun x=>x.1.e):=⟨_,rfl⟩
    rw [←eL] at hr hlen htk
    have HB:=Qh (Qi hv (Qi hr (Qi hbW (Qi htk (Qi hlen hsz)))))
    clear hv hr hbW htk hlen hsz hlt hrec hl eL hBx
    by_cases hz:x.1.now.e.id=0
    · have z1:(x.1.now.e.id==0)=true:=by rw [beq_iff_eq];exact hz
      have z2:decide (x.1.now.e.id=0)=true:=decide_eq_true hz
      have hgp:ZaY x.1.e=some x.1.was.e.id:=if_pos hz
      have HG:=Qh hgp
      clear hz hgp
      gi_wp2_with (gi_at_builtin;refine wpListIn_append_own _ rfl _ _ 48 rfl w.heap.size 3 i9 (.int .i64 0) 1 8 Tryz.underlying48 HI.out.1 HI.out.2.1 HI.out.2.2.1 HI.out.2.2.2 rfl (by decide) v L.length (Zu L) rfl (HB.out.2.1.alloc _) ⟨W.heap.size,0,none⟩ 1 1 [.int .i64 x.1.was.e.id] rfl rfl (cell_one_new _ _ _) (by simp [Value.oneCell']) (by have:=HB.out.2.2.2.2.1;unfold maxLen;omega) (by have:=HB.out.2.2.2.2.1;omega) (by have:=HB.out.2.2.2.2.2;simp only [World.size_alloc];omega) ?_;intro v' w1 hown' hgrow _;obtain ⟨g',cap',rfl⟩:=ownsRow_succ hown';obtain ⟨hv1,hv2,hr2,hk2,hb2⟩:=HB.out.1.appended (by decide) HB.out.2.1 HB.out.2.2.2.2.2 hoo hown' hgrow;have hc1:=hv1.cell;have hf1:=hv1.frozen;have HX:=Qh (Qi hv2 (Qi hr2 (Qi hk2 hb2)));clear hown' hgrow hv1 hv2 hr2 hk2 hb2)
      obtain ⟨hv2,hr2,hk2,hb2⟩:=HX.out
      refine ⟨hk2.from _,hb2,⟨_,hv2,?_,trivial⟩,HB.out.2.2.1.trans hb2⟩
      rw [HB.out.2.2.2.1,HG.out]
      simpa [Zu] using hr2
    · have z1:(x.1.now.e.id==0)=false:=by rw [beq_eq_false_iff_ne];exact hz
      have z2:decide (x.1.now.e.id=0)=false:=decide_eq_false hz
      have hgp:ZaY x.1.e=none:=if_neg hz
      have HG:=Qh hgp
      clear hgp
      gi_wp2
      refine ⟨KeepsFrom.refl _ _,Below.refl _ _,⟨v,HB.out.1,?_,trivial⟩,HB.out.2.2.1⟩
      rw [HB.out.2.2.2.1,HG.out]
      simpa using HB.out.2.1
  case done=>
    rintro D ys W hD hys ⟨⟨v,hv,hr,-⟩,hbW⟩ hK
    have c0:=hv.cell
    have e0:(YL (ys.map fun x=>x.1.e))=YL (Zw es fs):=by
      exact Tq27
    rw [e0] at hr
    have HZ:=Qh (Qi hr (Qi hbW (Qi hK hD)))
    clear hr hbW hK e0 hv hD hys
    gi_wp2
    obtain ⟨hr,hbW,hK,hD⟩:=HZ.out
    refine ⟨by simp,.inl ⟨_,_,rfl,run_takeDeferred hK,?_⟩⟩
    refine ⟨.tuple #[v,.int .i64 0],by simp [results,Tryz.results46,go_sem],v,rfl,ownsRow_putObj hr _ hK rfl,hbW.trans (belowK_b (w:=w) (Nat.le_refl _) W D _ _ (by omega) hK rfl rfl)⟩
end
end Go.Proofs.YtlgcfimhfmgkmaaGreatDoor
namespace Go.Proofs.YtlgcfimhfmgkmaaGreatDoor
open Go.RowKit
section
open Go.RowKit Go.Shelf
attribute [local go_sem] Oper.semAt_some
def Zr (p:Ent × Ent):Int:=max p.1.id p.2.id
def ZO (l:List (Ent × Ent)):List Int:=l.map Zr
theorem Zb9 {W W':World} (h:Below W.heap.size W W'):KeepsOthers W W':=⟨h.size,fun k o hk _=>(h.block k (Zh hk)).trans hk⟩
theorem Zdd {F:Fence} {n:Nat} {P:Program} {w:World} {ops:Array Oper} {o:Oper} {a:Act} {K:Act→World→Prop} {Q:Exit→Act→World→Prop} {E:Prop}
  (hg:o.guard=none) (s x:Operand) (t:TypeId) (hop:o.op=Op.call { callee:=Callee.builtin Builtin.append,args:=#[s,x],argTypes:=#[t,t] })
  (base:Nat) (e:TypeId) (i:TypeInfo) (z:Value) (size bytes:Nat) (h1:P.underlying t=some (.slice e)) (h2:P.info? e=some i) (h3:i.zero=some z) (h4:i.size=size) (h5:i.bytes=bytes) (h6:z.cells.size=size) (h7:0<size)
  (v:Value) (k:Nat) (xs:List Value) (hs:a.eval s=v) (hown:w.ownsRow base e size v k xs) (ad:Addr) (m c:Nat) (news:List Value) (hx:a.eval x=.slice (some ad) m c) (hn:news.length=m*size)
  (hc:∀ j u,news[j]?=some u→w.cell? (ad.add j)=some u) (h1c:∀ u∈news,u.oneCell'=true) (b1:k+m≤maxLen) (b2:(k+m)*bytes≤140737488355328) (b3:base≤w.heap.size)
  (hK:∀ v' w',w'.ownsRow base e size v' (k+m) (xs++news)→w.grownBy w' v.ownBlock→(v'=.slice none 0 0↔v=.slice none 0 0∧m=0)→K (a.put o.dst v') w') :
  if Region.wanted o (yielded ops a.tmps)=true then Oper.wpIn F n P o a w K Q else E:=by
 have hw:Region.wanted o (yielded ops a.tmps)=true:=by simp [Region.wanted,hg]
 rw [if_pos hw]
 obtain ⟨v',w',hrun,r1,r2,r3⟩:=run_append_own (P:=P) w base t o.type e i z size bytes h1 h2 h3 h4 h5 h6 h7 v k xs hown ad m c news hn hc h1c b1 b2 b3
 unfold Oper.wpIn
 refine ⟨?_,?_⟩
 ·simp [Oper.about,hop,resolve,Target.leads,Sem.run_pure]
 ·rw [Oper.semAt_plain F _ _ (by rw [hop];intro c hc';cases hc')]
  simp [execOp,hop,resolve,invoke,builtin,hs,hx,hrun,Result.andThen]
  exact hK v' w' r1 r2 r3
theorem Tq1 {p:Prop} (h:p:=by
 refine AllReadyIn.cons rfl (fun K hK=>?_) ?_
 ·go_simp
  refine hK _ _ ?_
  clear hK K
  refine wpAnyIn_ready (rs:=[4]) (by kernel_rfl) (by simp) ?_
  refine AllReadyIn.cons rfl (fun K hK=>?_) ?_
  ·refine Zdd rfl _ _ 48 rfl w.heap.size 3 i9 (.int .i64 0) 1 8 Tryz.underlying48 HI.out.1 HI.out.2.1 HI.out.2.2.1 HI.out.2.2.2 rfl (by decide) v L.length (Zu L) rfl (HX2.out.2.1.alloc _) ⟨w2.heap.size,0,none⟩ 1 1 [.int .i64 (max x.1.was.e.id x.1.now.e.id)] rfl rfl (cell_one_new _ _ _) (by simp [Value.oneCell']) (by have:=HB.out.2.2.2.2.1;unfold maxLen;omega) (by have:=HB.out.2.2.2.2.1;omega) (by have:=HX2.out.2.2.1;simp only [World.size_alloc];omega) ?_
   intro v' w3 hown' hgrow _
   obtain ⟨g',cap',rfl⟩:=ownsRow_succ hown'
   obtain ⟨hv1,hv3,hr3,hk3,hb3⟩:=HX2.out.1.appended (by decide) HX2.out.2.1 HX2.out.2.2.1 hoo hown' hgrow
   have hc1:=hv1.cell
   have hf1:=hv1.frozen
   have HX3:=Qh (Qi hv3 (Qi hr3 (Qi hk3 hb3)))
   clear hown' hgrow hv1 hv3 hr3 hk3 hb3
   refine hK _ _ ?_
   clear hK K
   refine wpAnyIn_ready (rs:=[5]) (by kernel_rfl) (by simp) ?_
   refine AllReadyIn.cons rfl (fun K hK=>?_) ?_
   ·go_simp
    refine hK _ _ ?_
    clear hK K
    refine wpAnyIn_done (by kernel_rfl) ?_ _
    gi_wp2
    obtain ⟨hv3,hr3,hk3,hb3⟩:=HX3.out
    refine ⟨(Zb9 HX2.out.2.2.2).from _ |>.trans (hk3.from _),(HX2.out.2.2.2.mono HB.out.2.2.2.2.2).trans hb3,⟨_,hv3,?_,trivial⟩,HB.out.2.2.1.trans ((HX2.out.2.2.2.mono HB.out.2.2.2.2.2).trans hb3)⟩
    rw [HB.out.2.2.2.1]
    simpa [Zu,Zr,PR.e] using hr3
   exact AllReadyIn.nil
  exact AllReadyIn.nil
 exact AllReadyIn.nil):p:=h
theorem Tq94 {p:Prop} (h:p:=by
 go_simp
 refine hK _ _ ?_
 clear hK K
 refine wpAnyIn_ready (rs:=[2]) (by kernel_rfl) (by simp) ?_
 refine AllReadyIn.cons rfl (fun K hK=>?_) ?_
 ·go_simp
  refine ⟨trivial,?_⟩
  refine (CallsIn.inRound l (callsIn_wide.2 (Zdb x.1.was.e.id x.1.now.e.id x.1.was.A x.1.now.A x.1.was.n x.1.was.c x.1.now.n x.1.now.c _))).mono ?_
  rintro e w2 ⟨rfl,hb2⟩
  have hb2':Below W.heap.size W w2:=((Below.refl _ W).drew).trans hb2
  have hv2:Boxed w2 o 48 v:=(hb2'.block o HB.out.1.lt).trans HB.out.1
  have hr2:w2.ownsRow w.heap.size 3 1 v L.length (Zu L):=ZaO HB.out.2.1 (fun q hq=>hb2'.block q hq)
  have hs2:w.heap.size≤w2.heap.size:=Nat.le_trans HB.out.2.2.2.2.2 hb2'.size
  have hc2:=hv2.cell
  have hc4:=(hv2.alloc (.cells #[.int .i64 (max x.1.was.e.id x.1.now.e.id)] 3 (0,0))).cell
  have HX2:=Qh (Qi hv2 (Qi hr2 (Qi hs2 hb2')))
  clear hb2 hb2' hv2 hr2 hs2
  refine hK _ _ ?_
  clear hK K
  refine wpAnyIn_ready (rs:=[3]) (by kernel_rfl) (by simp) ?_
  exact Tq1
 exact AllReadyIn.nil):p:=h
theorem ZnG (s t:Int) (A B:Option Addr) (n c m d:Nat) (es fs:List Ent) (w:World) (hT:Tabs w) (ha:Zj w A n c es) (hb:Zj w B m d fs) (va:Zl s es=true) (vb:Zl t fs=true) :
    Calls Tryz.prog 15 #[.agg #[.int .i64 s,.slice A n c],.agg #[.int .i64 t,.slice B m d]] w fun e w'=>∃ v,e=.returned (.tuple #[v,.int .i64 0])∧w'.ownsRow w.heap.size 3 1 v (ZO (Zw es fs)).length (Zu (ZO (Zw es fs)))∧Below w.heap.size w w':=by
  obtain ⟨la,ea,xa⟩:=ha.x
  obtain ⟨lb,eb,xb⟩:=hb.x
  obtain ⟨i9,hi9,hz0,hz1,hz2⟩:=info_parts ZaX
  obtain ⟨w1,g,e1,eg,hg0,hg1,hb1⟩:=ZhC w s t A B n c m d
  obtain ⟨f0,f1⟩:=cs2 hg0
  obtain ⟨f2,f3⟩:=cs2 hg1
  have FA:=Qd s A n c es w1 (hT.below hb1) (ha.below hb1)
  rw [va] at FA
  have H:=Qh (Qi hT (Qi ha (Qi hb (Qi va (Qi vb (Qi xa (Qi xb (Qi ea (Qi eb (Qi hb1 (Qi hg0 (Qi hg1 eg))))))))))))
  have HI:=Qh (Qi hi9 (Qi hz0 (Qi hz1 hz2)))
  clear hT ha hb va vb xa xb ea eb hb1 hg0 hg1 hi9 hz0 hz1 hz2
  refine (callsIn_wide (n:=5)).1 ?_
  refine callsIn_of_wp_marks Tryz.func15 rfl trivial ?_ rfl
  simp only [Tryz.ntmps15,List.size_toArray,List.length_cons,List.length_nil,Nat.reduceAdd,Nat.reduceSub,Array.replicate_succ,Array.replicate_zero,List.push_toArray,List.append_toArray,List.nil_append,List.cons_append]
  gi_upto_region 1 with fail
  rw [←e1,←eg]
  clear e1 eg
  gi_upto_region 4 with (first
    | (have t1:=FA
       refine ⟨trivial,?_⟩
       gi_at_call 9
       refine (callsIn_wide.2 t1).mono ?_
       rintro e w2 ⟨rfl,hb2⟩
       have k0:=(hb2.cell (Zc f2)).trans f2
       have k1:=(hb2.cell (Zc f3)).trans f3
       have k2:=(hb2.cell (Zc f0)).trans f0
       have k3:=(hb2.cell (Zc f1)).trans f1
       have Zt:Below w.heap.size w w2:=H.out.2.2.2.2.2.2.2.2.2.1.trans (hb2.mono H.out.2.2.2.2.2.2.2.2.2.1.size)
       have FB:=Qd t B m d fs w2 (H.out.1.below Zt) (H.out.2.2.1.below Zt)
       rw [H.out.2.2.2.2.1] at FB
       have H2:=Qh Zt
       clear hb2 Zt t1 FA f0 f1 f2 f3)
    | (have t2:=FB
       refine ⟨trivial,?_⟩
       gi_at_call 9
       refine (callsIn_wide.2 t2).mono ?_
       rintro e w3 ⟨rfl,hb3⟩
       have k4:=(hb3.cell (Zc k0)).trans k0
       have k5:=(hb3.cell (Zc k1)).trans k1
       have k6:=(hb3.cell (Zc k2)).trans k2
       have k7:=(hb3.cell (Zc k3)).trans k3
       have H3:=Qh (H2.out.trans (hb3.mono H2.out.size))
       clear hb3 t2 FB k0 k1 k2 k3))
  obtain ⟨w4,o,e4,eo,ho,hb4⟩:∃ w4 o,w4=w3.alloc (.cells #[.slice none 0 0] 48 (0,0))∧o=w3.heap.size∧w4.heap[o]?=some (.cells #[.slice none 0 0] 48 (0,0))∧Below w3.heap.size w3 w4:=⟨_,_,rfl,rfl,heap_alloc_new w3 _,Zg w3 _⟩
  rw [←e4,←eo]
  have k0:=(hb4.cell (Zc k4)).trans k4
  have k1:=(hb4.cell (Zc k5)).trans k5
  have k2:=(hb4.cell (Zc k6)).trans k6
  have k3:=(hb4.cell (Zc k7)).trans k7
  have HO:=Qh (Qi eo (Qi ho hb4))
  clear e4 eo ho hb4 k4 k5 k6 k7
  gi_wp2_with (refine ⟨trivial,?_⟩;gi_at_call 66;refine (callsIn_wide.2 (ZeI s t A B n c m d _)).mono ?_;rintro e w5 ⟨g5,eg5,rfl,hg5,hg6,hb5⟩;have H5:=Qh (Qi eg5 (Qi hg5 (Qi hg6 hb5)));clear eg5 hg5 hg6 hb5)
  have YZ:=H5.out.2.2.2
  have h34:=HO.out.2.2
  have hw3:=H3.out
  have hw4:Below w.heap.size w w4:=hw3.trans (h34.mono hw3.size)
  have hw5:Below w.heap.size w w5:=hw4.trans (YZ.mono hw4.size)
  have hbo:Boxed w5 o 48 (.slice none 0 0):=(YZ.block o (Zh HO.out.2.1)).trans HO.out.2.1
  have hoo:w.heap.size≤o:=by rw [HO.out.1];exact hw3.size
  have hs5:=hw5.size
  have hol:o<w5.heap.size:=Zh hbo
  refine wpIn_rangeFunc_ownH rfl (by decide) (gf:=134) (lb:=#[.pointer (some ⟨g5,0,none⟩),.pointer (some ⟨g5+1,0,none⟩)]) rfl trivial (enters_of Tryz.func134 (by kernel_rfl) rfl)
    (ZeM 4 (by decide) g5 (g5+1) s t A B n c m d la lb w H.out.2.2.2.2.2.1 H.out.2.2.2.2.2.2.1 (ZeN H.out.2.2.2.1 H.out.2.2.2.2.1 H.out.2.2.2.2.2.2.2.1 H.out.2.2.2.2.2.2.2.2.1) w5 hw5 H5.out.2.1 H5.out.2.2.1)
    belowK_t (belowK_b hs5) (Below.refl _ _) (fun _=>rfl)
    (fun pre W=>(∃ v,Boxed W o 48 v∧W.ownsRow w.heap.size 3 1 v (ZO (pre.map fun x=>x.1.e)).length (Zu (ZO (pre.map fun x=>x.1.e)))∧True)∧Below w.heap.size w W)
    (fun _ _ _=>False)
    (OwnFrom.and (Own.from (holdsRow_own w.heap.size o 48 3 1 (fun pre:List (PF la lb)=>(ZO (pre.map fun x=>x.1.e)).length) (fun pre=>Zu (ZO (pre.map fun x=>x.1.e))) (fun _ _=>True)) _) (ownFrom_below (Nat.le_refl _) hs5))
    (fun _ _ _ _ _ hs _ _=>hs)
    ⟨⟨_,hbo,World.ownsRow_nil _ _ _ _,trivial⟩,hw5⟩
    (fun x a' W=>∃ Bx,W.heap[Bx]?=some (.cells #[.int .i64 x.1.was.e.id,.slice x.1.was.A x.1.was.n x.1.was.c,.int .i64 x.1.now.e.id,.slice x.1.now.A x.1.now.n x.1.now.c] 129 (0,0))∧a'={ tmps:=#[.agg #[.int .i64 s,.slice A n c],.agg #[.int .i64 t,.slice B m d],.pointer (some ⟨g,0,none⟩),.pointer (some ⟨g+1,0,none⟩),.slice none 0 0,.int .i64 0,.pointer (some ⟨o,0,none⟩),.pointer (some ⟨Bx,0,none⟩),.agg #[.int .i64 s,.slice A n c],.bool true,.bool false,.bool false,.agg #[.int .i64 t,.slice B m d],.bool true,.bool false,.bool false,.agg #[.int .i64 s,.slice A n c],.agg #[.int .i64 t,.slice B m d],.func (.func 134) #[] #[.pointer (some ⟨g5,0,none⟩),.pointer (some ⟨g5+1,0,none⟩)],x.1.agg,undef,undef,undef,undef,undef,undef],defers:=[] })
    (fun x a' s X Y row hs hg hr=>by obtain ⟨Bx,h2,h3⟩:=hs;exact ⟨Bx,ZeP (β:=Unit) () X Y row h2 hg (fun r e=>(hr r e).2),h3⟩)
    ?assign ?body ?done ?stop
  case assign=>
    exact Tq46
  case stop=>
    rintro D c pre W _ _ h _
    exact h.elim
  case body=>
    rintro l pre x a' W hl hrec ⟨⟨v,hv,hr,-⟩,hbW⟩ ⟨Bx,hBx,rfl⟩ hlt
    have q1:W.cell? ⟨Bx,1,none⟩=some (.slice x.1.was.A x.1.was.n x.1.was.c):=Za hBx 1 _ rfl
    have q3:W.cell? ⟨Bx,3,none⟩=some (.slice x.1.now.A x.1.now.n x.1.now.c):=Za hBx 3 _ rfl
    have q0:W.cell? ⟨Bx,0,none⟩=some (.int .i64 x.1.was.e.id):=Za hBx 0 _ rfl
    have q2:W.cell? ⟨Bx,2,none⟩=some (.int .i64 x.1.now.e.id):=Za hBx 2 _ rfl
    have hc:=hv.cell
    have hlen:(ZO (pre.map fun x=>x.1.e)).length≤1000000:=by
      have h1:(ZO (pre.map fun x=>x.1.e)).length≤pre.length:=by unfold ZO;simp
      exact Tq45
    have hsz:=hbW.size
    have htk:ZO ((pre++[x]).map fun x=>x.1.e)=ZO (pre.map fun x=>x.1.e)++[Zr x.1.e]:=by
      unfold ZO
      rw [List.map_append,List.map_append];rfl
    obtain ⟨L,eL⟩:∃ L,L=ZO (pre.map fun x=>x.1.e):=⟨_,rfl⟩
    rw [←eL] at hr hlen htk
    have HB:=Qh (Qi hv (Qi hr (Qi hbW (Qi htk (Qi hlen hsz)))))
    clear hv hr hbW htk hlen hsz hlt hrec hl eL hBx
    have hmx:Tryz.prog.follows .mixedOrders=true:=by kernel_rfl
    gi_upto_region 6 with fail
    refine wpIn_region_any (by assumption) ?_
    change wpAnyIn _ _ _ _ _ _ _ _ _ (World.drew _)
    refine wpAnyIn_ready (rs:=[0,1]) (by kernel_rfl) (by simp) ?_
    refine AllReadyIn.cons rfl (fun K hK=>?_) ?_
    · go_simp
      refine hK _ _ ?_
      clear hK K
      refine wpAnyIn_ready (rs:=[1]) (by kernel_rfl) (by simp) ?_
      refine AllReadyIn.cons rfl (fun K hK=>?_) ?_
      · exact Tq94
      exact AllReadyIn.nil
    refine AllReadyIn.cons rfl (fun K hK=>?_) ?_
    · go_simp
      refine hK _ _ ?_
      clear hK K
      refine wpAnyIn_ready (rs:=[0,2]) (by kernel_rfl) (by simp) ?_
      refine AllReadyIn.cons rfl (fun K hK=>?_) ?_
      · exact Tq94
      refine AllReadyIn.cons rfl (fun K hK=>?_) ?_
      · go_simp
        refine ⟨trivial,?_⟩
        refine (CallsIn.inRound l (callsIn_wide.2 (Zdb x.1.was.e.id x.1.now.e.id x.1.was.A x.1.now.A x.1.was.n x.1.was.c x.1.now.n x.1.now.c _))).mono ?_
        rintro e w2 ⟨rfl,hb2⟩
        have hb2':Below W.heap.size W w2:=((Below.refl _ W).drew).trans hb2
        have hv2:Boxed w2 o 48 v:=(hb2'.block o HB.out.1.lt).trans HB.out.1
        have hr2:w2.ownsRow w.heap.size 3 1 v L.length (Zu L):=ZaO HB.out.2.1 (fun q hq=>hb2'.block q hq)
        have hs2:w.heap.size≤w2.heap.size:=Nat.le_trans HB.out.2.2.2.2.2 hb2'.size
        have hc2:=hv2.cell
        have hc4:=(hv2.alloc (.cells #[.int .i64 (max x.1.was.e.id x.1.now.e.id)] 3 (0,0))).cell
        have HX2:=Qh (Qi hv2 (Qi hr2 (Qi hs2 hb2')))
        clear hb2 hb2' hv2 hr2 hs2
        refine hK _ _ ?_
        clear hK K
        refine wpAnyIn_ready (rs:=[0,3]) (by kernel_rfl) (by simp) ?_
        refine AllReadyIn.cons rfl (fun K hK=>?_) ?_
        · go_simp
          refine hK _ _ ?_
          clear hK K
          refine wpAnyIn_ready (rs:=[3]) (by kernel_rfl) (by simp) ?_
          exact Tq1
        refine AllReadyIn.cons rfl (fun K hK=>?_) ?_
        · go_simp
          refine hK _ _ ?_
          clear hK K
          refine wpAnyIn_ready (rs:=[0]) (by kernel_rfl) (by simp) ?_
          exact Tq1
        exact AllReadyIn.nil
      exact AllReadyIn.nil
    exact AllReadyIn.nil
  case done=>
    rintro D ys W hD hys ⟨⟨v,hv,hr,-⟩,hbW⟩ hK
    have c0:=hv.cell
    have e0:(ZO (ys.map fun x=>x.1.e))=ZO (Zw es fs):=by
      exact Tq27
    rw [e0] at hr
    have HZ:=Qh (Qi hr (Qi hbW (Qi hK hD)))
    clear hr hbW hK e0 hv hD hys
    gi_wp2
    obtain ⟨hr,hbW,hK,hD⟩:=HZ.out
    refine ⟨by simp,.inl ⟨_,_,rfl,run_takeDeferred hK,?_⟩⟩
    refine ⟨.tuple #[v,.int .i64 0],by simp [results,Tryz.results15,go_sem],v,rfl,ownsRow_putObj hr _ hK rfl,hbW.trans (belowK_b (w:=w) (Nat.le_refl _) W D _ _ (by omega) hK rfl rfl)⟩
end
end Go.Proofs.YtlgcfimhfmgkmaaGreatDoor
