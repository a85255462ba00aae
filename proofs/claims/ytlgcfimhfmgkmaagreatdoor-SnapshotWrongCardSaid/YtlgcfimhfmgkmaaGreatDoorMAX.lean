/- Lemmas for the statement. -/
import Derived.Laws.EntriesVeiled
import Derived.Test.YtlgcfimhfmgkmaaGreatDoorMAV
set_option linter.unusedVariables false
set_option linter.unusedSimpArgs false
namespace Go.Proofs.YtlgcfimhfmgkmaaGreatDoor
section
open Go.RowKit Go.Shelf
attribute [local go_sem] Oper.semAt_some
theorem Zoc (w:World) (s t:Int) (A B:Option Addr) (n c m d:Nat):∃ W g,W=(w.alloc (.cells #[.int .i64 s,.slice A n c] 24 (0,0))).alloc (.cells #[.int .i64 t,.slice B m d] 24 (0,0))∧g=w.heap.size ∧
  (W.heap[g]?=some (.cells #[.int .i64 s,.slice A n c] 24 (0,0))∧W.heap[g+1]?=some (.cells #[.int .i64 t,.slice B m d] 24 (0,0)))∧Below w.heap.size w W∧Ses w W [Zb (g+1) (.cells #[.int .i64 t,.slice B m d] 24 (0,0)),Zb g (.cells #[.int .i64 s,.slice A n c] 24 (0,0))]:=by
 refine ⟨_,_,rfl,rfl,⟨ZZ w _ _,Z0 w _ _⟩,ZQ w _ _,?_⟩
 have h:=((Ses.start w).allocObj (.cells #[.int .i64 s,.slice A n c] 24 (0,0))).allocObj (.cells #[.int .i64 t,.slice B m d] 24 (0,0))
 rw [World.size_alloc] at h
 exact h
theorem Zod {w W:World} {l:List Part} (hs:Ses w W l):∃ W1 eb bb,W1=(W.alloc (.cells #[.int .u64 0,.int .u64 0,.int .i64 0,.int .i64 0,.slice none 0 0,.int .i64 0,.int .u64 0,.slice none 0 0,.int .i64 0] 188 (0,0))).alloc (.cells #[.int .i64 0] 34 (0,0))∧eb=W.heap.size∧bb=eb+1 ∧
  Ses w W1 (Zb bb ZI :: YI w.heap.size eb [eb] st0 :: l):=by
 refine ⟨_,_,_,rfl,rfl,rfl,?_⟩
 have h:=(hs.enc).allocObj ZI
 rw [World.size_alloc] at h
 exact h
theorem Zoe {w W:World} {m1 m2 eb bb p q:Nat} {o o':Obj} (hne:m1≠m2) (h:Ses w W (Yr k0D ZT :: ZU m1 m2 k0D :: [Zb bb ZI,YI w.heap.size eb [eb] st0,Zb p o,Zb q o'])) :
  ∃ W' mb,W'=W.alloc (.cells #[.map (some m1),.map (some m2)] 192 (0,0))∧mb=W.heap.size∧∃ F,EB w W' ⟨eb,mb,bb,m1,m2⟩ (st0,ZT) F [(p,o),(q,o')]:=by
 have h1:=h.allocObj (ZJ m1 m2)
 refine ⟨_,_,rfl,rfl,?_⟩
 have h2:Ses w (W.alloc (ZJ m1 m2)) [YI w.heap.size eb [eb] st0,Zb W.heap.size (ZJ m1 m2),Yr k0D ZT,ZU m1 m2 k0D,Zb bb ZI,Zb p o,Zb q o']:=h1.fifth
 have h3:Ses w (W.alloc (ZJ m1 m2)) (Xm w ⟨eb,W.heap.size,bb,m1,m2⟩ [eb] k0D (st0,ZT)++[Zb p o,Zb q o']):=h2.perm (List.Perm.cons _ ((List.perm_middle (l₁:=[Yr k0D ZT,ZU m1 m2 k0D]) (l₂:=[Zb bb ZI,Zb p o,Zb q o'])).symm))
 have h4:Ses w (W.alloc (ZJ m1 m2)) ([Zb p o,Zb q o']++Xm w ⟨eb,W.heap.size,bb,m1,m2⟩ [eb] k0D (st0,ZT)):=h3.perm List.perm_append_comm
 have hp:(W.alloc (ZJ m1 m2)).heap[p]?=some o:=h4.sep.head
 have hq:(W.alloc (ZJ m1 m2)).heap[q]?=some o':=h4.sep.tail.head
 have a1:=(List.pairwise_cons.1 h4.sep.2).1
 have a2:=(List.pairwise_cons.1 (List.pairwise_cons.1 h4.sep.2).2).1
 refine ⟨_,⟨⟨[eb],k0D,rfl,h4.tail.tail,Zg2,Nat.le_refl _,Nat.le_refl _⟩,hne,Zb3⟩,fun x hx=>?_⟩
 simp only [List.mem_cons,List.not_mem_nil,or_false] at hx
 rcases hx with rfl|rfl
 ·refine ⟨hp,fun e=>?_⟩
  obtain ⟨r,hr,e⟩:=Qf.1 e
  exact a1 r (List.mem_append_right [Zb q o'] hr) p (by simp [Zb]) e
 ·refine ⟨hq,fun e=>?_⟩
  obtain ⟨r,hr,e⟩:=Qf.1 e
  exact a2 r hr q (by simp [Zb]) e
abbrev clO (f:Nat) (eb mb bb:Nat):Obj:=.cells #[.func (.func f) #[] #[.pointer (some ⟨bb,0,none⟩),.pointer (some ⟨eb,0,none⟩),.pointer (some ⟨mb,0,none⟩)]] 197 (0,0)
abbrev Z5 (t:Int) (A:Option Addr) (n c:Nat):Obj:=.cells #[.int .i64 t,.slice A n c] 24 (0,0)
abbrev XH (v:Int):Obj:=.cells #[.int .i64 v] 3 (0,0)
theorem Zof {w w6:World} {X:EX} {c:St × Bun} {F:List Nat} {cs:List (Nat × Obj)} (h:EB w w6 X c F cs) (o o':Obj):∃ w8 q9 q10,w8=(w6.alloc o).alloc o'∧q9=w6.heap.size∧q10=q9+1∧EB w w8 X c F ((q10,o') :: (q9,o) :: cs):=by
 refine ⟨_,_,_,rfl,rfl,rfl,?_⟩
 have h1:=(h.alloc o).alloc o'
 rw [World.size_alloc] at h1
 exact h1
theorem Zog {w w6:World} {X:EX} {c:St × Bun} {F:List Nat} {cs:List (Nat × Obj)} (h:EB w w6 X c F cs) (o:Obj):∃ w8 q,w8=w6.alloc o∧q=w6.heap.size∧EB w w8 X c F ((q,o) :: cs):=⟨_,_,rfl,rfl,h.alloc o⟩
theorem Zdp {t:Int} {es:List Ent} (h:Zl t es=true):0≤t∧t≤1073741824:=by
 unfold Zl at h
 simp only [Bool.and_eq_true,decide_eq_true_eq] at h
 exact h.1.1.1
theorem Z8.put {W:World} {A:Option Addr} {n D:Nat} {f:Nat→Nat} {o:Obj} (h:Z8 W A n f) (hD:W.heap[D]?=some o) (ho:o.isCells=false) {o':Obj}:Z8 (W.putObj D o') A n f:=by
 intro i hi
 obtain ⟨ad,e,hc⟩:=h i hi
 exact ⟨ad,e,cell_kept hc (grownBy_putObj' W D o') (fun r e=>by cases e;exact ⟨_,hD,ho⟩)⟩
theorem ES.bytes {w0 W:World} {X:EX} {c:St × Bun} {F:List Nat} (h:ES w0 W X c F) (hc:c.1.cnt≤32768) {B:Nat} (h1:X.m1<B) (h2:X.m2<B) :
  Calls Tryz.prog 120 #[.pointer (some ⟨X.eb,0,none⟩)] W fun e w'=>∃ A cap,e=.returned (.slice A (Zk (YA c.1)) cap)∧Z8 w' A (Zk (YA c.1)) (M.byteOf (YA c.1))∧(A=none→Zk (YA c.1)=0∧cap=0)∧Below w0.heap.size w0 w'∧KeepsFrom B W w':=by
 obtain ⟨⟨Fe,k,eF,hS,hR,hn1,hn2⟩,hne,hsh⟩:=id h
 have hp:Ses w0 W (YI w0.heap.size X.eb Fe c.1 :: XD w0 W (blocks (Xm w0 X Fe k c)) :: [Yr k c.2,ZU X.m1 X.m2 k,Zb X.mb (ZJ X.m1 X.m2),Zb X.bb ZI]):=hS.rest.perm (List.Perm.swap _ _ _)
 refine (hp.bytes _ hc rfl).mono ?_
 rintro e w' ⟨A,cap,rfl,hrow,hnil,hs⟩
 have hs':Ses w0 w' (XD w0 W (blocks (Xm w0 X Fe k c)) :: Xm w0 X Fe k c):=hs.perm (List.Perm.swap _ _ _)
 have hf:=hS.frame hs'
 exact ⟨A,cap,rfl,hrow,hnil,hf.1.bel,h.froms (F':=blocks (Xm w0 X Fe k c)) (by rw [eF];exact hf.2) h1 h2⟩
theorem Tq30 {p:Prop} (h:p:=by
 have HKO:=Qh hko
 clear hko
 gi_wp2_with (refine ⟨trivial,?_⟩;gi_at_call 112;refine (CallsIn.inRound l (callsIn_wide.2 FS)).mono ?_;rintro e v6 ⟨rfl,F6',hR8⟩;have HR8:=Qh hR8;clear hR8 FS fx0 fx1 fx2 fx3 fx4 fy0 fy1 fy2 fy3 fy4 f9)
 go_roundw
 case rel=>exact ⟨k+1,F6',by simp,by have:=HN.out.2;omega,fun h=>absurd h HN.out.1,HD.out _ _ _ HKO.out HR8.out⟩
 case measure=>simp only [u8V];have:=HN.out.2;omega):p:=h
theorem Tq24 {p:Prop} (h:p:=by
 have HC:=Qh hch
 clear hch
 gi_wp2_with (refine ⟨trivial,?_⟩;gi_at_call 112;refine (CallsIn.inRound l (callsIn_wide.2 FS)).mono ?_;rintro e w2 ⟨rfl,F2,hR2⟩;have HR2:=Qh hR2;clear hR2 FS)
 gi_meet
 exact ⟨F2,by rw [HC.out];exact HR2.out⟩):p:=h
set_option maxRecDepth 100000 in
set_option maxHeartbeats 8000000 in
theorem Zh5 (s t:Int) (A B:Option Addr) (n c m d:Nat) (es fs:List Ent) (w:World) (hT:Tabs w) (ha:Zj w A n c es) (hb:Zj w B m d fs) (va:Zl s es=true) (vb:Zl t fs=true) (hl:es.length≤12∧fs.length≤12) :
    Calls Tryz.prog 52 #[.agg #[.int .i64 s,.slice A n c],.agg #[.int .i64 t,.slice B m d]] w fun e w'=>∃ A' n' cap,e=.returned (.tuple #[.slice A' n' cap,.int .i64 0]) ∧
      (n'=Zk (YA (steps Zv (st0,ZT) (X3 s t (Zw es fs))).1)∧Z8 w' A' n' (M.byteOf (YA (steps Zv (st0,ZT) (X3 s t (Zw es fs))).1))∧(A'=none→n'=0∧cap=0))∧Below w.heap.size w w':=by
  obtain ⟨la,ea,xa⟩:=ha.x
  obtain ⟨lb,eb,xb⟩:=hb.x
  obtain ⟨w1,g,e1,eg,⟨hg0,hg1⟩,hb1,hS1⟩:=Zoc w s t A B n c m d
  obtain ⟨f0,f1⟩:=cs2 hg0
  obtain ⟨f2,f3⟩:=cs2 hg1
  have FA:=Qd s A n c es w1 (hT.below hb1) (ha.below hb1)
  rw [va] at FA
  have H:=Qh (Qi hT (Qi ha (Qi hb (Qi va (Qi vb (Qi xa (Qi xb (Qi ea (Qi eb (Qi hb1 (Qi hg0 (Qi hg1 (Qi eg (Qi hl hS1))))))))))))))
  clear hT ha hb va vb xa xb ea eb hb1 hg0 hg1 hl hS1
  refine (callsIn_wide (n:=5)).1 ?_
  refine callsIn_of_wp_marks Tryz.func52 rfl trivial ?_ rfl
  simp only [Tryz.ntmps52,List.size_toArray,List.length_cons,List.length_nil,Nat.reduceAdd,Nat.reduceSub,Array.replicate_succ,Array.replicate_zero,List.push_toArray,List.append_toArray,List.nil_append,List.cons_append]
  gi_upto_region 1 with fail
  rw [←e1,←eg]
  clear e1 eg
  gi_upto_region 3 with (first
    | (have t1:=FA
       refine ⟨trivial,?_⟩
       gi_at_call 9
       refine (callsIn_wide.2 t1).mono ?_
       rintro e w2 ⟨rfl,hb2⟩
       have k0:=(hb2.cell (Zc f2)).trans f2
       have k1:=(hb2.cell (Zc f3)).trans f3
       have Zt:Below w.heap.size w w2:=H.out.2.2.2.2.2.2.2.2.2.1.trans (hb2.mono H.out.2.2.2.2.2.2.2.2.2.1.size)
       have FB:=Qd t B m d fs w2 (H.out.1.below Zt) (H.out.2.2.1.below Zt)
       rw [H.out.2.2.2.2.1] at FB
       have H2:=Qh (Qi Zt hb2)
       clear hb2 Zt t1 FA f0 f1 f2 f3)
    | (have t2:=FB
       refine ⟨trivial,?_⟩
       gi_at_call 9
       refine (callsIn_wide.2 t2).mono ?_
       rintro e w3 ⟨rfl,hb3⟩
       have H3:=Qh (Qi (H2.out.1.trans (hb3.mono H2.out.1.size)) (H2.out.2.trans (hb3.mono H2.out.2.size)))
       clear hb3 t2 FB k0 k1))
  obtain ⟨w4,eb,bb,e4,eeb,ebb,hS4⟩:=Zod (H.out.2.2.2.2.2.2.2.2.2.2.2.2.2.2.below H3.out.2)
  gi_upto_region 5 with fail
  rw [←e4,←eeb,←ebb]
  have HS4:=Qh hS4
  clear e4 eeb ebb hS4
  gi_upto_region 6 with (refine ⟨trivial,?_⟩;gi_at_call 111;refine (callsIn_wide.2 (Zg3 w w4 _ HS4.out)).mono ?_;rintro e w5 ⟨m1,m2,rfl,hne,hs5⟩;have H5:=Qh (Qi hne hs5);clear hne hs5)
  obtain ⟨w6,mb,e6,emb,F6,hE6⟩:=Zoe H5.out.1 H5.out.2
  rw [←e6,←emb]
  clear e6 emb
  gi_upto_region 8 with fail
  obtain ⟨w8,q9,q10,e8,eq9,Zh6,hE8⟩:=Zof hE6 (clO 112 eb mb bb) (clO 115 eb mb bb)
  rw [←e8,←eq9,←Zh6]
  have k9:w8.cell? ⟨q10,0,none⟩=some (.func (.func 115) #[] #[.pointer (some ⟨bb,0,none⟩),.pointer (some ⟨eb,0,none⟩),.pointer (some ⟨mb,0,none⟩)]):=Za (hE8.at (q:=q10) (o:=clO 115 eb mb bb) (.head _)) 0 _ rfl
  have k0:w8.cell? ⟨g+1,0,none⟩=some (.int .i64 t):=Za (hE8.at (q:=g+1) (o:=Z5 t B m d) (.tail _ (.tail _ (.head _)))) 0 _ rfl
  have k1:w8.cell? ⟨g,0,none⟩=some (.int .i64 s):=Za (hE8.at (q:=g) (o:=Z5 s A n c) (.tail _ (.tail _ (.tail _ (.head _))))) 0 _ rfl
  have rs:=Zdp H.out.2.2.2.1
  have rt:=Zdp H.out.2.2.2.2.1
  have FN:=Zg1 ⟨eb,mb,bb,m1,m2⟩ _ F6 (-2) (t-s) (by decide) (by decide) (by omega) (by omega) w w8 hE8.es (by decide)
  have u0:wrap64 (t-s)=t-s:=Zn _ (by omega) (by omega)
  have H8:=Qh hE8
  clear e8 eq9 Zh6 hE6 hE8 rs rt
  gi_upto_region 9 with (refine ⟨trivial,?_⟩;gi_at_call 115;refine (callsIn_wide.2 FN).mono ?_;rintro e w9 ⟨rfl,F9,Zh7,Zh8⟩;have H9:=Qh (H8.out.call Zh7 Zh8);clear Zh7 Zh8 FN)
  gi_upto_region 10 with fail
  obtain ⟨w10,ql,e10,eql,Jv⟩:=Zog H9.out (XH 0)
  rw [←e10,←eql]
  have k2:w10.cell? ⟨g+1,0,none⟩=some (.int .i64 t):=Za (Jv.at (q:=g+1) (o:=Z5 t B m d) (by simp [Z5])) 0 _ rfl
  have k3:w10.cell? ⟨g,0,none⟩=some (.int .i64 s):=Za (Jv.at (q:=g) (o:=Z5 s A n c) (by simp [Z5])) 0 _ rfl
  have k4:w10.cell? ⟨g+1,1,none⟩=some (.slice B m d):=Za (Jv.at (q:=g+1) (o:=Z5 t B m d) (by simp [Z5])) 1 _ rfl
  have k5:w10.cell? ⟨g,1,none⟩=some (.slice A n c):=Za (Jv.at (q:=g) (o:=Z5 s A n c) (by simp [Z5])) 1 _ rfl
  have H10:=Qh Jv
  have Zoh:w.heap.size≤ql:=by rw [eql];exact H9.out.es.bel.size
  clear e10 eql Jv k9 k0 k1 u0
  gi_wp2_with (refine ⟨trivial,?_⟩;gi_at_call 66;refine (callsIn_wide.2 (ZeI s t A B n c m d _)).mono ?_;rintro e w5 ⟨g5,eg5,rfl,hg5,hg6,hb5⟩;have H5':=Qh (Qi eg5 (Qi hg5 (Qi hg6 hb5)));clear eg5 hg5 hg6 hb5)
  have Jw:=H10.out.below H5'.out.2.2.2
  have Zar:=Jw.es.bel
  have hml:=Jw.es.maps_lt
  have Ze3:=Zar.size
  have hc9:(steps Zv (st0,ZT) (Yh (-2) (t-s))).1.cnt≤65:=by
    have h1:=(QN (-2) (t-s)).1
    have h2:=(QN (-2) (t-s)).2.1
    have:=(Ok.steps (bit:=Zv) (c:=(st0,ZT)) ⟨ZbZ,Zb3⟩ h1).2
    rw [this]
    show 0+_≤65
    omega
  obtain ⟨c9,e9⟩:∃ c9,c9=steps Zv (st0,ZT) (Yh (-2) (t-s)):=⟨_,rfl⟩
  rw [←e9] at Jw hc9
  have H9':=Qh e9
  clear e9
  refine wpIn_rangeFunc_ownH rfl (by decide) (gf:=134) (lb:=#[.pointer (some ⟨g5,0,none⟩),.pointer (some ⟨g5+1,0,none⟩)]) rfl trivial (enters_of Tryz.func134 (by kernel_rfl) rfl)
    (ZeM 4 (by decide) g5 (g5+1) s t A B n c m d la lb w H.out.2.2.2.2.2.1 H.out.2.2.2.2.2.2.1 (ZeN H.out.2.2.2.1 H.out.2.2.2.2.1 H.out.2.2.2.2.2.2.2.1 H.out.2.2.2.2.2.2.2.2.1) w5 Zar H5'.out.2.1 H5'.out.2.2.1)
    belowK_t (belowK_b Ze3) (Below.refl _ _) (fun _=>rfl)
    (fun pre W=>∃ F,EB w W ⟨eb,mb,bb,m1,m2⟩ (steps Zv c9 (Ye 0 (pre.map fun x=>x.1.e))) F [(ql,XH (Qn (pre.map fun x=>x.1.e))),(q10,clO 115 eb mb bb),(q9,clO 112 eb mb bb),(g+1,Z5 t B m d),(g,Z5 s A n c)]∧(steps Zv c9 (Ye 0 (pre.map fun x=>x.1.e))).1.cnt=c9.1.cnt+(Ye 0 (pre.map fun x=>x.1.e)).length)
    (fun _ _ _=>False)
    (fun s' X' Y row hs hg hr=>by obtain ⟨F,h1,h2⟩:=hs;exact ⟨F,h1.own hg hr hml.1 hml.2 Ze3 (fun p hp=>by simp only [List.mem_cons,List.not_mem_nil,or_false] at hp;rcases hp with rfl|rfl|rfl|rfl|rfl<;>rfl),h2⟩)
    (fun _ _ _ _ _ hs _ _=>hs)
    ⟨F9,Jw,rfl⟩
    (fun x a' W=>∃ Bx,W.heap[Bx]?=some (.cells #[.int .i64 x.1.was.e.id,.slice x.1.was.A x.1.was.n x.1.was.c,.int .i64 x.1.now.e.id,.slice x.1.now.A x.1.now.n x.1.now.c] 129 (0,0))∧a'={ tmps:=#[.agg #[.int .i64 s,.slice A n c],.agg #[.int .i64 t,.slice B m d],.pointer (some ⟨g,0,none⟩),.pointer (some ⟨g+1,0,none⟩),.slice none 0 0,.int .i64 0,.pointer (some ⟨eb,0,none⟩),.pointer (some ⟨bb,0,none⟩),.pointer (some ⟨mb,0,none⟩),.pointer (some ⟨q9,0,none⟩),.pointer (some ⟨q10,0,none⟩),.pointer (some ⟨ql,0,none⟩),.pointer (some ⟨Bx,0,none⟩),undef,undef,undef,undef,undef,undef,.agg #[.int .i64 s,.slice A n c],.bool true,.bool false,.bool false,.agg #[.int .i64 t,.slice B m d],.bool true,.bool false,.bool false,.agg #[.map (some m1),.map (some m2)],.func (.func 112) #[] #[.pointer (some ⟨bb,0,none⟩),.pointer (some ⟨eb,0,none⟩),.pointer (some ⟨mb,0,none⟩)],.func (.func 115) #[] #[.pointer (some ⟨bb,0,none⟩),.pointer (some ⟨eb,0,none⟩),.pointer (some ⟨mb,0,none⟩)],.func (.func 115) #[] #[.pointer (some ⟨bb,0,none⟩),.pointer (some ⟨eb,0,none⟩),.pointer (some ⟨mb,0,none⟩)],.pointer (some ⟨g+1,0,none⟩),.int .i64 t,.pointer (some ⟨g,0,none⟩),.int .i64 s,.int .i64 (t-s),.tuple #[],.agg #[.int .i64 s,.slice A n c],.agg #[.int .i64 t,.slice B m d],.func (.func 134) #[] #[.pointer (some ⟨g5,0,none⟩),.pointer (some ⟨g5+1,0,none⟩)],x.1.agg,undef,undef,undef,undef,undef,undef,undef,undef,undef,undef,undef,undef,undef,undef,undef,undef,undef,undef,undef,undef,undef,undef,undef,undef,undef,undef,undef,undef,undef,undef,undef,undef,undef,undef,undef,undef,undef,undef,undef,undef,undef,undef,undef,undef,undef,undef,undef,undef,undef,undef,undef,undef,undef,undef,undef,undef,undef,undef,undef,undef,undef,undef,undef,undef,undef,undef,undef,undef,undef,undef,undef,undef,undef,undef,undef,undef,undef,undef,undef,undef,undef,undef,undef,undef,undef,undef,undef,undef,undef,undef,undef,undef,undef,undef,undef,undef,undef,undef,undef],defers:=[] })
    (fun x a' s X Y row hs hg hr=>by obtain ⟨Bx,h2,h3⟩:=hs;exact ⟨Bx,ZeP (β:=Unit) () X Y row h2 hg (fun r e=>(hr r e).2),h3⟩)
    ?assign ?body ?done ?stop
  case assign=>
    rintro l pre x W K ⟨F,hE,hcn⟩ hK
    have hsz:=hE.es.bel.size
    simp only [PR.agg]
    gi_wp2
    exact hK _ _ ((KeepsOthers.alloc _ _).from _) ((Below.refl _ W).alloc hsz _) ⟨F,hE.below (Zg W _),hcn⟩ ⟨W.heap.size,ZeO W x.1,rfl⟩
  case stop=>
    rintro D c' pre W _ _ h _
    exact h.elim
  case body=>
    rintro l pre x a' W hl hrec ⟨F,hE,hcn⟩ ⟨Bx,hBx,rfl⟩ hlt
    have hP:=pok H.out.2.2.2.2.2.1 H.out.2.2.2.2.2.2.1 H.out.2.2.2.1 H.out.2.2.2.2.1 H.out.2.2.2.2.2.2.2.1 H.out.2.2.2.2.2.2.2.2.1 x
    have hpre:∀ q,q∈pre.map (fun x=>x.1.e)→0≤Zr q∧Zr q≤65536:=fun q hq=>by
      obtain ⟨y,_,rfl⟩:=List.mem_map.1 hq
      exact (pok H.out.2.2.2.2.2.1 H.out.2.2.2.2.2.2.1 H.out.2.2.2.1 H.out.2.2.2.2.1 H.out.2.2.2.2.2.2.2.1 H.out.2.2.2.2.2.2.2.2.1 y).pid
    have hlr:=ZhW _ hpre
    have hol:(Ye 0 (pre.map fun x=>x.1.e)).length≤976*23:=by
      have h1:=ZeR (pre.map fun x=>x.1.e) (fun q hq=>by
        obtain ⟨y,_,rfl⟩:=List.mem_map.1 hq
        have hy:=pok H.out.2.2.2.2.2.1 H.out.2.2.2.2.2.2.1 H.out.2.2.2.1 H.out.2.2.2.2.1 H.out.2.2.2.2.2.2.2.1 H.out.2.2.2.2.2.2.2.2.1 y
        exact ⟨hy.inw,hy.inn⟩) 0
      rw [List.length_map] at h1
      have h2:=H.out.2.2.2.2.2.2.2.2.2.2.2.2.2.1
      rw [←H.out.2.2.2.2.2.2.2.1,←H.out.2.2.2.2.2.2.2.2.1,List.length_map,List.length_map] at h2
      omega
    have hen:=ZhJ (p:=x.1.e) hP.inw hP.inn (Qn (pre.map fun x=>x.1.e))
    have hnb:=hE.es.notin hBx (by decide)
    have hE2:=hE.cons hBx hnb
    have hmore:Ye 0 ((pre++[x]).map fun x=>x.1.e)=Ye 0 (pre.map fun x=>x.1.e)++Xu x.1.e (Qn (pre.map fun x=>x.1.e)):=by
      rw [List.map_append];exact ZnM _ _
    have hlast:Qn ((pre++[x]).map fun x=>x.1.e)=Zr x.1.e:=by
      rw [List.map_append];exact ZhE _ _
    obtain ⟨O,eO⟩:∃ O,O=Ye 0 (pre.map fun x=>x.1.e):=⟨_,rfl⟩
    obtain ⟨L,eL⟩:∃ L,L=Qn (pre.map fun x=>x.1.e):=⟨_,rfl⟩
    rw [←eO] at hE hE2 hcn hol hmore
    rw [←eL] at hE hE2 hlr hen hmore
    obtain ⟨p,epx⟩:∃ p,p=x.1:=⟨_,rfl⟩
    rw [←epx] at hP hen hE2 hmore hlast hBx ⊢
    have hR:=RD.start (B:=w5.heap.size) hE2 hcn ⟨hml.1,hml.2,Ze3⟩
    have hBW:=hE.es.bel
    have HP:=Qh (Qi hP (Qi hol (Qi hen (Qi hmore (Qi hlast (Qi hBW (Qi hc9 hlr)))))))
    have HR0:=Qh hR
    clear hP hpre hlr hol hen hnb hE2 hmore hlast hE hcn hlt hrec hl hBx eO eL epx hR hBW hc9
    dsimp only
    gi_step
    gi_step
    gi_step
    gi_cut [] from 140 (fun wx=>∃ F',RD w W wx w5.heap.size ⟨eb,mb,bb,m1,m2⟩ c9 (O++[(Zp (-1),Xf p.e)]) F' [(Bx,Xw p),(ql,XH L),(q10,clO 115 eb mb bb),(q9,clO 112 eb mb bb),(g+1,Z5 t B m d),(g,Z5 s A n c)])
    case first=>
      have z0:W.cell? ⟨Bx,0,none⟩=some (.int .i64 p.was.e.id):=Za (HR0.out.at (q:=Bx) (o:=Xw p) (.head _)) 0 _ rfl
      have z2:W.cell? ⟨Bx,2,none⟩=some (.int .i64 p.now.e.id):=Za (HR0.out.at (q:=Bx) (o:=Xw p) (.head _)) 2 _ rfl
      have z9:W.cell? ⟨q9,0,none⟩=some (.func (.func 112) #[] #[.pointer (some ⟨bb,0,none⟩),.pointer (some ⟨eb,0,none⟩),.pointer (some ⟨mb,0,none⟩)]):=Za (HR0.out.at (q:=q9) (o:=clO 112 eb mb bb) (.tail _ (.tail _ (.tail _ (.head _))))) 0 _ rfl
      by_cases hn:p.now.e.id=0
      · have hch:Xf p.e=1:=if_pos hn
        have b1:(p.now.e.id==0)=true:=by rw [beq_iff_eq];exact hn
        have FS:=HR0.out.symbol (-1) 1 (by decide) (by decide) (by decide) (by have:=HP.out.2.1;have:=HP.out.2.2.2.2.2.2.1;omega)
        exact Tq24
      · have b1:(p.now.e.id==0)=false:=by rw [beq_eq_false_iff_ne];exact hn
        by_cases hw:p.was.e.id=0
        · have hch:Xf p.e=2:=(if_neg hn).trans (if_pos hw)
          have b2:(p.was.e.id==0)=true:=by rw [beq_iff_eq];exact hw
          have FS:=HR0.out.symbol (-1) 2 (by decide) (by decide) (by decide) (by have:=HP.out.2.1;have:=HP.out.2.2.2.2.2.2.1;omega)
          exact Tq24
        · have hch:Xf p.e=3:=(if_neg hn).trans (if_neg hw)
          have b2:(p.was.e.id==0)=false:=by rw [beq_eq_false_iff_ne];exact hw
          have FS:=HR0.out.symbol (-1) 3 (by decide) (by decide) (by decide) (by have:=HP.out.2.1;have:=HP.out.2.2.2.2.2.2.1;omega)
          exact Tq24
    case rest=>
      obtain ⟨F1,hR1⟩:=hcut
      have hmx:Tryz.prog.follows .mixedOrders=true:=by kernel_rfl
      obtain ⟨P,eP⟩:∃ P,P=Zr p.e:=⟨_,rfl⟩
      have FI:∀ W,Calls Tryz.prog 67 #[.agg #[.int .i64 p.was.e.id,.slice p.was.A p.was.n p.was.c,.int .i64 p.now.e.id,.slice p.now.A p.now.n p.now.c]] W fun r w'=>r=.returned (.int .i64 P)∧Below W.heap.size W w':=fun W=>by
        rw [eP];exact Zdb p.was.e.id p.now.e.id p.was.A p.now.A p.was.n p.was.c p.now.n p.now.c W
      have hPr:0≤P∧P≤65536:=by rw [eP];exact HP.out.1.pid
      have hLr:=HP.out.2.2.2.2.2.2.2
      have u1:IntKind.i64.wrap (P-L)=P-L:=Go.IntWalk.i64_in _ (by omega)
      have HF:=Qh (Qi FI (Qi eP hPr))
      have HR1:=Qh hR1
      clear FI eP hPr hLr hR1
      gi_step
      gi_step
      gi_cut [] from 140 (fun wx=>∃ F',RD w W wx w5.heap.size ⟨eb,mb,bb,m1,m2⟩ c9 ((O++[(Zp (-1),Xf p.e)])++Yh (-3) (P-L)) F' [(Bx,Xw p),(ql,XH L),(q10,clO 115 eb mb bb),(q9,clO 112 eb mb bb),(g+1,Z5 t B m d),(g,Z5 s A n c)])
      case first=>
        obtain ⟨x0,x1,x2,x3⟩:=cs4 (HR1.out.at (q:=Bx) (o:=Xw p) (.head _))
        have xl:wc.cell? ⟨ql,0,none⟩=some (.int .i64 L):=Za (HR1.out.at (q:=ql) (o:=XH L) (.tail _ (.head _))) 0 _ rfl
        have xq:wc.cell? ⟨q10,0,none⟩=some (.func (.func 115) #[] #[.pointer (some ⟨bb,0,none⟩),.pointer (some ⟨eb,0,none⟩),.pointer (some ⟨mb,0,none⟩)]):=Za (HR1.out.at (q:=q10) (o:=clO 115 eb mb bb) (.tail _ (.tail _ (.head _)))) 0 _ rfl
        gi_region_with_o (first
          | (refine ⟨trivial,?_⟩;gi_at_call 67;refine (CallsIn.inRound l (callsIn_wide.2 (HF.out.1 _))).mono ?_;rintro e w3 ⟨rfl,hb3⟩;have hR3:=(HR1.out.drew).below hb3;have yl:w3.cell? ⟨ql,0,none⟩=some (.int .i64 L):=Za (hR3.at (q:=ql) (o:=XH L) (.tail _ (.head _))) 0 _ rfl;have yq:w3.cell? ⟨q10,0,none⟩=some (.func (.func 115) #[] #[.pointer (some ⟨bb,0,none⟩),.pointer (some ⟨eb,0,none⟩),.pointer (some ⟨mb,0,none⟩)]):=Za (hR3.at (q:=q10) (o:=clO 115 eb mb bb) (.tail _ (.tail _ (.head _)))) 0 _ rfl;have FN:=hR3.number (-3) (P-L) (by decide) (by decide) (by have:=HF.out.2.2;have:=HP.out.2.2.2.2.2.2.2;omega) (by have:=HF.out.2.2;have:=HP.out.2.2.2.2.2.2.2;omega) (by have:=HP.out.2.1;have:=HP.out.2.2.2.2.2.2.1;simp only [List.length_append,List.length_cons,List.length_nil];omega);clear hb3 hR3)
          | (refine ⟨trivial,?_⟩;gi_at_call 115;refine (CallsIn.inRound l (callsIn_wide.2 FN)).mono ?_;rintro e w4 ⟨rfl,F4,hR4⟩;have HR4:=Qh hR4;clear hR4 FN))
        all_goals gi_wp2
        all_goals gi_meet
        all_goals exact ⟨F4,HR4.out⟩
      case rest=>
        obtain ⟨F2,hR2⟩:=hcut
        obtain ⟨x0,x1,x2,x3⟩:=cs4 (hR2.at (q:=Bx) (o:=Xw p) (.head _))
        have HR2:=Qh hR2
        clear hR2 HR1 HR0 u1
        gi_upto_region 19 with (refine ⟨trivial,?_⟩;gi_at_call 67;refine (CallsIn.inRound l (callsIn_wide.2 (HF.out.1 _))).mono ?_;rintro e w6 ⟨rfl,hb6⟩;have hR6:=HR2.out.below hb6;have hl6:=hR6.at (q:=ql) (o:=XH L) (.tail _ (.head _));have xl:w6.cell? ⟨ql,0,none⟩=some (.int .i64 L):=Za hl6 0 _ rfl;have xf:=Zd hl6 0;have HR6:=Qh hR6;clear hb6 hR6 hl6 x0 x1 x2 x3)
        obtain ⟨w7,e7⟩:∃ w7,w7=w6.setCell ⟨ql,0,none⟩ (.int .i64 P):=⟨_,rfl⟩
        rw [←e7]
        have hR7:RD w W w7 w5.heap.size ⟨eb,mb,bb,m1,m2⟩ c9 ((O++[(Zp (-1),Xf p.e)])++Yh (-3) (P-L)) F2 [(ql,XH P),(Bx,Xw p),(q10,clO 115 eb mb bb),(q9,clO 112 eb mb bb),(g+1,Z5 t B m d),(g,Z5 s A n c)]:=by
          rw [e7]
          refine (HR6.out.sub (ds:=[(ql,XH L),(Bx,Xw p),(q10,clO 115 eb mb bb),(q9,clO 112 eb mb bb),(g+1,Z5 t B m d),(g,Z5 s A n c)]) (fun z hz=>?_)).store (.int .i64 P) Zoh (fun z hz e=>?_)
          · simp only [List.mem_cons,List.not_mem_nil,or_false] at hz ⊢
            rcases hz with rfl|rfl|rfl|rfl|rfl|rfl<;>simp
          · simp only [List.mem_cons,List.not_mem_nil,or_false] at hz
            rcases hz with rfl|rfl|rfl|rfl|rfl<;>(injection e with _ e;exact absurd e (by decide))
        have HR7:=Qh hR7
        clear hR7 HR6 HR2 e7 xl xf
        gi_wp2
        obtain ⟨O1,eO1⟩:∃ O1,O1=(O++[(Zp (-1),Xf p.e)])++Yh (-3) (P-L):=⟨_,rfl⟩
        rw [←eO1] at HR7
        have hfin:∀ V F',RD w W V w5.heap.size ⟨eb,mb,bb,m1,m2⟩ c9 (O++Xu p.e L) F' [(ql,XH P),(Bx,Xw p),(q10,clO 115 eb mb bb),(q9,clO 112 eb mb bb),(g+1,Z5 t B m d),(g,Z5 s A n c)] →
            KeepsFrom w5.heap.size W V∧Below w.heap.size W V∧∃ F,EB w V ⟨eb,mb,bb,m1,m2⟩ (steps Zv c9 (Ye 0 ((pre++[x]).map fun x=>x.1.e))) F [(ql,XH (Qn ((pre++[x]).map fun x=>x.1.e))),(q10,clO 115 eb mb bb),(q9,clO 112 eb mb bb),(g+1,Z5 t B m d),(g,Z5 s A n c)]∧(steps Zv c9 (Ye 0 ((pre++[x]).map fun x=>x.1.e))).1.cnt=c9.1.cnt+(Ye 0 ((pre++[x]).map fun x=>x.1.e)).length:=fun V F' hV=>by
          obtain ⟨hP,hol,hen,hmore,hlast,hBW,hc9,hlr⟩:=HP.out
          refine ⟨hV.kf,hV.kp hBW,F',?_,by rw [hmore];exact hV.cnt⟩
          rw [hmore,hlast,←HF.out.2.1]
          refine hV.eb.sub (fun z hz=>?_)
          simp only [List.mem_cons,List.not_mem_nil,or_false] at hz ⊢
          rcases hz with rfl|rfl|rfl|rfl|rfl<;>simp
        have Zh9:=Qh hfin
        have HO1:=Qh eO1
        clear hfin eO1
        gi_loopw [13] (fun kv wr=>∃ (k:Nat) (F':List Nat),kv=.int .u8 (k:Nat)∧(1≤k∧k≤11)∧(p.now.e.id=0→k=1)∧RD w W wr w5.heap.size ⟨eb,mb,bb,m1,m2⟩ c9 (O1++YC p.was.e.cs p.now.e.cs (k-1)) F' [(ql,XH P),(Bx,Xw p),(q10,clO 115 eb mb bb),(q9,clO 112 eb mb bb),(g+1,Z5 t B m d),(g,Z5 s A n c)]) (fun kv _=>11-u8V kv)
        case atStart=>exact ⟨1,F2,rfl,⟨Nat.le_refl _,by decide⟩,fun _=>rfl,by simpa [YC] using HR7.out⟩
        case round=>
          obtain ⟨k,F3,rfl,hk,hk1,hR3⟩:=hrel
          obtain ⟨V,eV⟩:∃ V,V=wr:=⟨_,rfl⟩
          rw [←eV] at hR3 ⊢
          clear eV
          obtain ⟨x0,x1,x2,x3⟩:=cs4 (hR3.at (q:=Bx) (o:=Xw p) (.tail _ (.head _)))
          by_cases hn:p.now.e.id=0
          · have hk2:=hk1 hn
            subst hk2
            have b1:(p.now.e.id != 0)=false:=by simp [hn]
            have HR3:=Qh hR3
            have HN:=Qh hn
            clear hR3 hn hk1
            gi_wp2
            refine Zh9.out V F3 ?_
            have:=HR3.out
            rw [HO1.out,Zn1 HF.out.2.1 HN.out] at this
            exact this
          · have b1:(p.now.e.id != 0)=true:=by simp [hn]
            by_cases hk10:k≤10
            · have b2:decide ((k:Int)≤10)=true:=decide_eq_true (by omega)
              have b3:decide (k≤10)=true:=decide_eq_true hk10
              obtain ⟨cx,ecx⟩:∃ c,c=ZL k p.was.e.cs:=⟨_,rfl⟩
              obtain ⟨cy,ecy⟩:∃ c,c=ZL k p.now.e.cs:=⟨_,rfl⟩
              obtain ⟨hx,ehx⟩:∃ c,c=YM k p.was.e.cs:=⟨_,rfl⟩
              obtain ⟨hy,ehy⟩:∃ c,c=YM k p.now.e.cs:=⟨_,rfl⟩
              have FC1:∀ W',Below w.heap.size w W'→Calls Tryz.prog 118 #[.agg #[.int .i64 p.was.e.id,.slice p.was.A p.was.n p.was.c],.int .u8 (k:Nat)] W' fun r w'=>r=.returned (.tuple #[.agg #[.int .u8 (cx.kind:Nat),.int .i64 cx.v0,.int .i64 cx.v1,.int .i64 cx.v2,.int .i64 cx.v3],.bool hx])∧Below W'.heap.size W' w':=fun W' hb=>by
                rw [ecx,ehx];exact ZeZ _ _ _ _ _ k W' (HP.out.1.was.below hb)
              have FC2:∀ W',Below w.heap.size w W'→Calls Tryz.prog 118 #[.agg #[.int .i64 p.now.e.id,.slice p.now.A p.now.n p.now.c],.int .u8 (k:Nat)] W' fun r w'=>r=.returned (.tuple #[.agg #[.int .u8 (cy.kind:Nat),.int .i64 cy.v0,.int .i64 cy.v1,.int .i64 cy.v2,.int .i64 cy.v3],.bool hy])∧Below W'.heap.size W' w':=fun W' hb=>by
                rw [ecy,ehy];exact ZeZ _ _ _ _ _ k W' (HP.out.1.now.below hb)
              have HC:=Qh (Qi FC1 (Qi FC2 (Qi ecx (Qi ecy (Qi ehx ehy)))))
              have HN:=Qh (Qi hn hk10)
              have HR3:=Qh hR3
              clear FC1 FC2 ecx ecy ehx ehy hR3 hn hk10 hk1
              gi_upto_region 23 with (refine ⟨trivial,?_⟩;gi_at_call 118;refine (CallsIn.inRound l (callsIn_wide.2 (HC.out.1 _ HR3.out.bel))).mono ?_;rintro e v2 ⟨rfl,hb2⟩;have HR4:=Qh (HR3.out.below hb2);clear hb2 x0 x1 x2 x3)
              obtain ⟨v3,bx,e3,ebx,hR5⟩:=HR4.out.box (ZF cx)
              rw [←e3,←ebx]
              have x2:v3.cell? ⟨Bx,2,none⟩=some (.int .i64 p.now.e.id):=Za (hR5.at (q:=Bx) (o:=Xw p) (.tail _ (.tail _ (.head _)))) 2 _ rfl
              have x3:v3.cell? ⟨Bx,3,none⟩=some (.slice p.now.A p.now.n p.now.c):=Za (hR5.at (q:=Bx) (o:=Xw p) (.tail _ (.tail _ (.head _)))) 3 _ rfl
              have HR5:=Qh hR5
              clear e3 ebx hR5 HR4
              gi_cut [16,17] from 140 (fun bv hv wx=>∃ (by_:Nat) (F':List Nat),bv=.pointer (some ⟨by_,0,none⟩)∧hv=.bool hy∧RD w W wx w5.heap.size ⟨eb,mb,bb,m1,m2⟩ c9 (O1++YC p.was.e.cs p.now.e.cs (k-1)) F' [(by_,ZF cy),(bx,ZF cx),(ql,XH P),(Bx,Xw p),(q10,clO 115 eb mb bb),(q9,clO 112 eb mb bb),(g+1,Z5 t B m d),(g,Z5 s A n c)])
              case first=>
                gi_wp2_with (refine ⟨trivial,?_⟩;gi_at_call 118;refine (CallsIn.inRound l (callsIn_wide.2 (HC.out.2.1 _ HR5.out.bel))).mono ?_;rintro e v4 ⟨rfl,hb4⟩;have HR6:=Qh (HR5.out.below hb4);clear hb4 x2 x3)
                gi_meet
                exact ⟨_,F3,rfl,rfl,HR6.out.alloc (ZF cy)⟩
              case rest=>
                obtain ⟨by_,F5,rfl,rfl,hR7⟩:=hcut
                obtain ⟨v5,e5⟩:∃ v5,v5=wc:=⟨_,rfl⟩
                rw [←e5] at hR7 ⊢
                clear e5 x2 x3
                have hxk:cx.kind=k:=by rw [HC.out.2.2.1];exact Zdm _ _
                have hyk:cy.kind=k:=by rw [HC.out.2.2.2.1];exact Zdm _ _
                obtain ⟨fx0,fx1,fx2,fx3,fx4⟩:=Za1 (hR7.at (q:=bx) (o:=ZF cx) (.tail _ (.head _)))
                obtain ⟨fy0,fy1,fy2,fy3,fy4⟩:=Za1 (hR7.at (q:=by_) (o:=ZF cy) (.head _))
                rw [hxk] at fx0
                rw [hyk] at fy0
                have f9:v5.cell? ⟨q9,0,none⟩=some (.func (.func 112) #[] #[.pointer (some ⟨bb,0,none⟩),.pointer (some ⟨eb,0,none⟩),.pointer (some ⟨mb,0,none⟩)]):=Za (hR7.at (q:=q9) (o:=clO 112 eb mb bb) (.tail _ (.tail _ (.tail _ (.tail _ (.tail _ (.head _))))))) 0 _ rfl
                have uk:IntKind.i64.wrap (k:Int)=(k:Int):=Go.IntWalk.i64_in _ (by have:=HN.out.2;omega)
                have uk2:IntKind.u8.wrap ((k:Int)+1)=((k+1:Nat):Int):=by rw [IntKind.wrap_u8];have:=HN.out.2;omega
                have hOk:(O1++YC p.was.e.cs p.now.e.cs (k-1)).length≤976*23+66+910:=by
                  have h1:=(QN (-3) (P-L)).2.1
                  have h2:=HP.out.2.1
                  have h3:=Zn4 HP.out.1.inw HP.out.1.inn (m:=k-1) (by have:=HN.out.2;omega)
                  rw [HO1.out]
                  simp only [List.length_append,List.length_cons,List.length_nil]
                  omega
                have HR7:=Qh hR7
                have HK:=Qh (Qi hxk (Qi hyk hOk))
                clear hR7 hxk hyk hOk
                have done:∀ (v:World) (F':List Nat) (os:List Op),XQ p.was.e.cs p.now.e.cs k=os→RD w W v w5.heap.size ⟨eb,mb,bb,m1,m2⟩ c9 ((O1++YC p.was.e.cs p.now.e.cs (k-1))++os) F' [(by_,ZF cy),(bx,ZF cx),(ql,XH P),(Bx,Xw p),(q10,clO 115 eb mb bb),(q9,clO 112 eb mb bb),(g+1,Z5 t B m d),(g,Z5 s A n c)]→RD w W v w5.heap.size ⟨eb,mb,bb,m1,m2⟩ c9 (O1++YC p.was.e.cs p.now.e.cs (k+1-1)) F' [(ql,XH P),(Bx,Xw p),(q10,clO 115 eb mb bb),(q9,clO 112 eb mb bb),(g+1,Z5 t B m d),(g,Z5 s A n c)]:=fun v F' os hos hv=>by
                  rw [show k+1-1=k by omega,Zn0 hk.1,hos,←List.append_assoc]
                  exact hv.sub (fun z hz=>List.mem_cons_of_mem _ (List.mem_cons_of_mem _ hz))
                have HD:=Qh done
                clear done
                by_cases hsame:hx=hy∧cx=cy
                · obtain ⟨hs1,hs2⟩:=hsame
                  subst hs1 hs2
                  have hE:∀ W,(Op.equalIn 9999 73 (.agg #[.int .i64 cx.v0,.int .i64 cx.v1,.int .i64 cx.v2,.int .i64 cx.v3]) (.agg #[.int .i64 cx.v0,.int .i64 cx.v1,.int .i64 cx.v2,.int .i64 cx.v3])).run Tryz.prog W=.ok true W:=fun W=>by rw [ZaW];simp
                  have FS:=HR7.out.symbol (k:Int) 0 (by omega) (by have:=HN.out.2;omega) (.inl (by decide)) (by have:=HK.out.2.2;have:=HP.out.2.2.2.2.2.2.1;omega)
                  have hko:XQ p.was.e.cs p.now.e.cs k=[(Zp (k:Int),0)]:=by
                    unfold XQ
                    rw [if_pos ⟨by rw [←HC.out.2.2.2.2.1,←HC.out.2.2.2.2.2],by rw [←HC.out.2.2.1,←HC.out.2.2.2.1]⟩]
                  exact Tq30
                · have HS:=Qh hsame
                  clear hsame
                  rcases hy with _ | _
                  · have hxt:hx=true:=by
                      rcases hx with _ | _
                      · exfalso
                        apply HS.out
                        refine ⟨rfl,?_⟩
                        have h1:=HC.out.2.2.2.2.1
                        have h2:=HC.out.2.2.2.2.2
                        rw [HC.out.2.2.1,HC.out.2.2.2.1]
                        exact Zn5 h1.symm h2.symm
                      · rfl
                    subst hxt
                    have FS:=HR7.out.symbol (k:Int) 1 (by omega) (by have:=HN.out.2;omega) (.inl (by decide)) (by have:=HK.out.2.2;have:=HP.out.2.2.2.2.2.2.1;omega)
                    have hko:XQ p.was.e.cs p.now.e.cs k=[(Zp (k:Int),1)]:=by
                      unfold XQ
                      rw [if_neg (by rw [←HC.out.2.2.2.2.1,←HC.out.2.2.2.2.2];simp),if_pos HC.out.2.2.2.2.2.symm]
                    exact Tq30
                  · have hko:XQ p.was.e.cs p.now.e.cs k=(Zp (k:Int),2) :: Qm k cx cy (szK k):=by
                      unfold XQ
                      rw [if_neg (by
                        rintro ⟨h1,h2⟩
                        apply HS.out
                        rw [HC.out.2.2.2.2.1,HC.out.2.2.1,HC.out.2.2.2.1]
                        exact ⟨h1.trans HC.out.2.2.2.2.2.symm,h2⟩),if_neg (by rw [←HC.out.2.2.2.2.2];simp),HC.out.2.2.1,HC.out.2.2.2.1]
                    have HKO:=Qh hko
                    clear hko
                    gi_step
                    gi_step
                    gi_cut [] from 140 (fun wx=>wx=v5)
                    case first=>
                      rcases hx with _ | _
                      · gi_wp2
                        gi_meet
                        rfl
                      · have hne:¬ (cx.v0=cy.v0∧cx.v1=cy.v1∧cx.v2=cy.v2∧cx.v3=cy.v3):=by
                          rintro ⟨h1,h2,h3,h4⟩
                          apply HS.out
                          refine ⟨rfl,?_⟩
                          have h0:=HK.out.1.trans HK.out.2.1.symm
                          rcases cx with ⟨_,_,_,_,_⟩
                          rcases cy with ⟨_,_,_,_,_⟩
                          simp only at h0 h1 h2 h3 h4
                          subst h0 h1 h2 h3 h4
                          rfl
                        have hE:∀ W,(Op.equalIn 9999 73 (.agg #[.int .i64 cx.v0,.int .i64 cx.v1,.int .i64 cx.v2,.int .i64 cx.v3]) (.agg #[.int .i64 cy.v0,.int .i64 cy.v1,.int .i64 cy.v2,.int .i64 cy.v3])).run Tryz.prog W=.ok false W:=fun W=>by rw [ZaW,decide_eq_false hne]
                        clear hne
                        gi_wp2
                        gi_meet
                        rfl
                    case rest=>
                      obtain rfl:wc=v5:=hcut
                      have FS:=HR7.out.symbol (k:Int) 2 (by omega) (by have:=HN.out.2;omega) (.inl (by decide)) (by have:=HK.out.2.2;have:=HP.out.2.2.2.2.2.2.1;omega)
                      gi_upto_region 29 with (refine ⟨trivial,?_⟩;gi_at_call 112;refine (CallsIn.inRound l (callsIn_wide.2 FS)).mono ?_;rintro e v6 ⟨rfl,F6',hR8⟩;have HR8:=Qh hR8;clear hR8 FS fx0 fx1 fx2 fx3 fx4 fy0 fy1 fy2 fy3 fy4 f9)
                      have hT6:v6.cell? ⟨0,k,none⟩=some (.int .i64 ((szK k:Nat):Int)):=by
                        have h1:=(H.out.1.below (HR8.out.bel)).s k HN.out.2
                        rw [ZhX HN.out.2] at h1
                        exact h1
                      have t0:(0:Int)≤(k:Int):=by omega
                      have t1:(k:Int)<11:=by have:=HN.out.2;omega
                      gi_wp2
                      gi_loopw [116] (fun iv wr=>∃ (i:Nat) (F':List Nat),iv=.int .i64 (i:Nat)∧i≤szK k∧RD w W wr w5.heap.size ⟨eb,mb,bb,m1,m2⟩ c9 (((O1++YC p.was.e.cs p.now.e.cs (k-1))++[(Zp (k:Int),2)])++Qm k cx cy i) F' [(by_,ZF cy),(bx,ZF cx),(ql,XH P),(Bx,Xw p),(q10,clO 115 eb mb bb),(q9,clO 112 eb mb bb),(g+1,Z5 t B m d),(g,Z5 s A n c)]) (fun iv _=>szK k-u8V iv)
                      case atStart=>exact ⟨0,F6',rfl,Nat.zero_le _,by simpa [Qm] using HR8.out⟩
                      case round=>
                        obtain ⟨i,F7,rfl,hi,hR9⟩:=hrel
                        obtain ⟨v7,e7⟩:∃ v7,v7=wr:=⟨_,rfl⟩
                        rw [←e7] at hR9 ⊢
                        clear e7 hT6
                        by_cases hlt:i<szK k
                        · have hi4:i<4:=by have:=ZhH k;omega
                          have i2:decide (i<szK k)=true:=decide_eq_true hlt
                          have i3:decide ((i:Int)<((szK k:Nat):Int))=true:=decide_eq_true (by omega)
                          have hvl:(Qm k cx cy i).length≤144:=by
                            have:=ZhG (k:=k) (x:=cx) (y:=cy) (by rw [HC.out.2.2.1];exact JL HP.out.1.inw) (by rw [HC.out.2.2.2.1];exact JL HP.out.1.inn) i
                            omega
                          have hin:=ZhY (i:=i) (show InV cx by rw [HC.out.2.2.1];exact JL HP.out.1.inw) (show InV cy by rw [HC.out.2.2.2.1];exact JL HP.out.1.inn)
                          have HI:=Qh (Qi hlt (Qi hi4 (Qi hvl hin)))
                          have HR9:=Qh hR9
                          clear hR9 hlt hi4 hvl hin hi
                          gi_upto_if 117 with fail
                          gi_step
                          gi_step
                          gi_step
                          gi_step
                          gi_step
                          gi_cut [] from 140 (fun wx=>∃ F',RD w W wx w5.heap.size ⟨eb,mb,bb,m1,m2⟩ c9 (((O1++YC p.was.e.cs p.now.e.cs (k-1))++[(Zp (k:Int),2)])++Qm k cx cy (i+1)) F' [(by_,ZF cy),(bx,ZF cx),(ql,XH P),(Bx,Xw p),(q10,clO 115 eb mb bb),(q9,clO 112 eb mb bb),(g+1,Z5 t B m d),(g,Z5 s A n c)])
                          case first=>
                            have yq:v7.cell? ⟨q10,0,none⟩=some (.func (.func 115) #[] #[.pointer (some ⟨bb,0,none⟩),.pointer (some ⟨eb,0,none⟩),.pointer (some ⟨mb,0,none⟩)]):=Za (HR9.out.at (q:=q10) (o:=clO 115 eb mb bb) (.tail _ (.tail _ (.tail _ (.tail _ (.head _)))))) 0 _ rfl
                            have yy:=Ze0 (i:=i) (HR9.out.at (q:=by_) (o:=ZF cy) (.head _)) HI.out.2.1
                            have yx:=Ze0 (i:=i) (HR9.out.at (q:=bx) (o:=ZF cx) (.tail _ (.head _))) HI.out.2.1
                            have i0:(0:Int)≤(i:Int):=by omega
                            have i1:(i:Int)<4:=by have:=HI.out.2.1;omega
                            have u6:IntKind.i64.wrap (cy.v i-cx.v i)=cy.v i-cx.v i:=Go.IntWalk.i64_in _ (by have:=HI.out.2.2.2;omega)
                            have FT:∀ W,Calls Tryz.prog 119 #[.int .u8 (k:Nat),.int .i64 (i:Nat)] W fun r w'=>r=.returned (.int .i64 (4*(k:Int)+(i:Int)))∧w'=W:=fun W=>ZhD k (i:Int) (by have:=HN.out.2;omega) (by have:=HI.out.2.1;omega) W
                            have FN:=HR9.out.drew.number (4*(k:Int)+(i:Int)) (cy.v i-cx.v i) (by omega) (by have:=HN.out.2;have:=HI.out.2.1;omega) (by have:=HI.out.2.2.2;omega) (by have:=HI.out.2.2.2;omega) (by have h1:=HK.out.2.2;have h2:=HP.out.2.2.2.2.2.2.1;have h3:=HI.out.2.2.1;rw [List.length_append,List.length_append];simp only [List.length_cons,List.length_nil];omega)
                            have HT:=Qh FT
                            clear FT
                            obtain ⟨VY,eVY⟩:∃ z,z=cy.v i:=⟨_,rfl⟩
                            obtain ⟨VX,eVX⟩:∃ z,z=cx.v i:=⟨_,rfl⟩
                            rw [←eVY] at yy u6 FN
                            rw [←eVX] at yx u6 FN
                            have HV:=Qh (Qi eVY eVX)
                            clear eVY eVX
                            gi_upto_region 32 with fail
                            have QC:v7.drew.cell? ⟨q10,0,none⟩=some (.func (.func 115) #[] #[.pointer (some ⟨bb,0,none⟩),.pointer (some ⟨eb,0,none⟩),.pointer (some ⟨mb,0,none⟩)])∧v7.drew.cell? ⟨by_,1+i,none⟩=some (.int .i64 VY)∧v7.drew.cell? ⟨bx,1+i,none⟩=some (.int .i64 VX):=⟨yq,yy,yx⟩
                            refine ZmY (fun W=>W.cell? ⟨q10,0,none⟩=some (.func (.func 115) #[] #[.pointer (some ⟨bb,0,none⟩),.pointer (some ⟨eb,0,none⟩),.pointer (some ⟨mb,0,none⟩)])∧W.cell? ⟨by_,1+i,none⟩=some (.int .i64 VY)∧W.cell? ⟨bx,1+i,none⟩=some (.int .i64 VX)) 13 hmx ?_
                            change XY _ _ _ _ _ _ _ _ _ _ _ (World.drew _)
                            refine JH (i:=1) (v:=?_) rfl (by kernel_rfl) (by kernel_rfl) (by kernel_rfl) (by kernel_rfl) (by decide) (fun _ _ _ h=>h) (Or.inl ⟨by kernel_rfl,?_⟩) (fun _=>rfl) (Or.inr QC) ?_;rotate_left;focus (intro W hW;clear hW;go_simp;try with_reducible rfl)
                            refine JH (i:=2) (v:=?_) rfl (by kernel_rfl) (by kernel_rfl) (by kernel_rfl) (by kernel_rfl) (by decide) (fun _ _ _ h=>h) (Or.inl ⟨by kernel_rfl,?_⟩) (fun _=>rfl) (Or.inr QC) ?_;rotate_left;focus (intro W hW;clear hW;go_simp;try with_reducible rfl)
                            refine JH (i:=4) (v:=?_) rfl (by kernel_rfl) (by kernel_rfl) (by kernel_rfl) (by kernel_rfl) (by decide) (fun _ _ _ h=>h) (Or.inl ⟨by kernel_rfl,?_⟩) (fun _=>rfl) (Or.inr QC) ?_;rotate_left;focus (intro W hW;clear hW;go_simp;try with_reducible rfl)
                            refine JH (i:=5) (v:=?_) rfl (by kernel_rfl) (by kernel_rfl) (by kernel_rfl) (by kernel_rfl) (by decide) (fun _ _ _ h=>h) (Or.inl ⟨by kernel_rfl,?_⟩) (fun _=>rfl) (Or.inr QC) ?_;rotate_left;focus (intro W hW;clear hW;go_simp;try with_reducible rfl)
                            refine JH (i:=6) (v:=?_) rfl (by kernel_rfl) (by kernel_rfl) (by kernel_rfl) (by kernel_rfl) (by decide) (fun _ _ _ h=>h) (Or.inl ⟨by kernel_rfl,?_⟩) (fun _=>rfl) (Or.inr QC) ?_;rotate_left;focus (intro W hW;clear hW;go_simp;try with_reducible rfl)
                            refine JH (i:=8) (v:=?_) rfl (by kernel_rfl) (by kernel_rfl) (by kernel_rfl) (by kernel_rfl) (by decide) (fun _ _ _ h=>h) (Or.inl ⟨by kernel_rfl,?_⟩) (fun _=>rfl) (Or.inr QC) ?_;rotate_left;focus (intro W hW;clear hW;go_simp;try with_reducible rfl)
                            refine JH (i:=9) (v:=?_) rfl (by kernel_rfl) (by kernel_rfl) (by kernel_rfl) (by kernel_rfl) (by decide) (fun _ _ _ h=>h) (Or.inl ⟨by kernel_rfl,?_⟩) (fun _=>rfl) (Or.inr QC) ?_;rotate_left;focus (intro W hW;clear hW;go_simp;try with_reducible rfl)
                            refine JH (i:=10) (v:=?_) rfl (by kernel_rfl) (by kernel_rfl) (by kernel_rfl) (by kernel_rfl) (by decide) (fun _ _ _ h=>h) (Or.inl ⟨by kernel_rfl,?_⟩) (fun _=>rfl) (Or.inr QC) ?_;rotate_left;focus (intro W hW;clear hW;go_simp;try with_reducible rfl)
                            refine Zew (i:=0) (v:=?_) 6 rfl (by kernel_rfl) (by kernel_rfl) (by kernel_rfl) (by kernel_rfl) (by kernel_rfl) (by kernel_rfl) (by decide) (fun _ _ _ h=>h) (Or.inl ⟨by kernel_rfl,?_⟩) (fun _=>rfl) QC ?_;rotate_left;focus (intro W hW;obtain ⟨hC0,hC1,hC2⟩:=hW;go_simp;try with_reducible rfl)
                            refine Zew (i:=7) (v:=?_) 6 rfl (by kernel_rfl) (by kernel_rfl) (by kernel_rfl) (by kernel_rfl) (by kernel_rfl) (by kernel_rfl) (by decide) (fun _ _ _ h=>h) (Or.inl ⟨by kernel_rfl,?_⟩) (fun _=>rfl) QC ?_;rotate_left;focus (intro W hW;obtain ⟨hC0,hC1,hC2⟩:=hW;go_simp;try with_reducible rfl)
                            refine Zew (i:=11) (v:=?_) 6 rfl (by kernel_rfl) (by kernel_rfl) (by kernel_rfl) (by kernel_rfl) (by kernel_rfl) (by kernel_rfl) (by decide) (fun _ _ _ h=>h) (Or.inl ⟨by kernel_rfl,?_⟩) (fun _=>rfl) QC ?_;rotate_left;focus (intro W hW;obtain ⟨hC0,hC1,hC2⟩:=hW;go_simp;try with_reducible rfl)
                            refine JH (i:=12) (v:=?_) rfl (by kernel_rfl) (by kernel_rfl) (by kernel_rfl) (by kernel_rfl) (by decide) (fun _ _ _ h=>h) (Or.inl ⟨by kernel_rfl,?_⟩) (fun _=>rfl) (Or.inr QC) ?_;rotate_left;focus (intro W hW;clear hW;go_simp;try with_reducible rfl)
                            refine Zha (j:=3) (by kernel_rfl) ?_
                            refine wpOpIn_step rfl (fun K hK=>?_)
                            go_simp
                            refine ⟨trivial,?_⟩
                            refine (CallsIn.inRound l (callsIn_wide.2 (HT.out _))).mono ?_
                            rintro e v8 ⟨rfl,rfl⟩
                            refine hK _ _ ?_;clear hK K
                            refine ⟨Or.inr QC,?_⟩
                            refine Zha (j:=13) (by kernel_rfl) ?_
                            refine wpOpIn_step rfl (fun K hK=>?_)
                            go_simp
                            refine ⟨trivial,?_⟩
                            refine (CallsIn.inRound l (callsIn_wide.2 FN)).mono ?_
                            rintro e v9 ⟨rfl,F8,hRb⟩
                            have HRb:=Qh hRb
                            clear hRb FN
                            refine hK _ _ ?_;clear hK K
                            refine ⟨Or.inl (by kernel_rfl),?_⟩
                            refine ZmX (by kernel_rfl) ?_ _
                            gi_wp2
                            gi_meet
                            exact ⟨F8,by rw [ZhF,←List.append_assoc];unfold Zak;rw [←HV.out.1,←HV.out.2];exact HRb.out⟩
                          case rest=>
                            obtain ⟨F8,hRa⟩:=hcut
                            have HRa:=Qh hRa
                            have u5:IntKind.i64.wrap ((i:Int)+1)=((i+1:Nat):Int):=by rw [Go.IntWalk.i64_in _ (by have:=HI.out.2.1;omega)];omega
                            clear hRa
                            gi_wp2
                            go_roundw
                            case rel=>exact ⟨i+1,F8,by simp,by have:=HI.out.1;omega,HRa.out⟩
                            case measure=>simp only [u8V];have:=HI.out.1;omega
                        · have hie:i=szK k:=by omega
                          subst hie
                          have i2:decide (szK k<szK k)=false:=decide_eq_false hlt
                          have HR9:=Qh hR9
                          clear hR9 hlt hi
                          gi_wp2
                          go_roundw
                          case rel=>exact ⟨k+1,F7,by simp,by have:=HN.out.2;omega,fun h=>absurd h HN.out.1,HD.out _ _ _ HKO.out (by simpa using HR9.out)⟩
                          case measure=>simp only [u8V];have:=HN.out.2;omega
            · have Zoi:k=11:=by omega
              subst Zoi
              have HR3:=Qh hR3
              have HN:=Qh hn
              clear hR3 hn hk1
              gi_wp2
              refine Zh9.out V F3 ?_
              have:=HR3.out
              rw [HO1.out,Zn2 HF.out.2.1 HN.out] at this
              exact this
  case done=>
    rintro D ys W hD hys ⟨F,hE,hcn⟩ hK
    have eL:(ys.map fun x=>x.1.e)=Zw es fs:=by
      exact Tq27
    have hLn:ys.length≤24:=by
      have h1:ys.length=(YS (la.length+lb.length) la lb).length:=by rw [←List.length_map (f:=Subtype.val),hys]
      have h2:=Zhy (la.length+lb.length) la lb
      have h3:=H.out.2.2.2.2.2.2.2.2.2.2.2.2.2.1
      have h4:la.length=es.length:=by rw [←H.out.2.2.2.2.2.2.2.1,List.length_map]
      have h5:lb.length=fs.length:=by rw [←H.out.2.2.2.2.2.2.2.2.1,List.length_map]
      omega
    have hol:(Ye 0 (ys.map fun x=>x.1.e)).length≤976*24:=by
      have h1:=ZeR (ys.map fun x=>x.1.e) (fun q hq=>by
        obtain ⟨y,_,rfl⟩:=List.mem_map.1 hq
        have hy:=pok H.out.2.2.2.2.2.1 H.out.2.2.2.2.2.2.1 H.out.2.2.2.1 H.out.2.2.2.2.1 H.out.2.2.2.2.2.2.2.1 H.out.2.2.2.2.2.2.2.2.1 y
        exact ⟨hy.inw,hy.inn⟩) 0
      rw [List.length_map] at h1
      omega
    rw [eL] at hE hcn hol
    have k9:W.cell? ⟨q9,0,none⟩=some (.func (.func 112) #[] #[.pointer (some ⟨bb,0,none⟩),.pointer (some ⟨eb,0,none⟩),.pointer (some ⟨mb,0,none⟩)]):=Za (hE.at (q:=q9) (o:=clO 112 eb mb bb) (.tail _ (.tail _ (.head _)))) 0 _ rfl
    have hcc:(steps Zv c9 (Ye 0 (Zw es fs))).1.cnt<32768:=by omega
    have FS:=ZgZ ⟨eb,mb,bb,m1,m2⟩ _ F (-1) 0 (by decide) (by decide) (by decide) w W hE.es hcc
    have hc1:(step Zv (steps Zv c9 (Ye 0 (Zw es fs))) (Zp (-1),0)).1.cnt≤32768:=by
      have:=(Ok.steps (bit:=Zv) (c:=steps Zv c9 (Ye 0 (Zw es fs))) hE.es.ok (l:=[(Zp (-1),0)]) (by intro o ho;simp only [List.mem_cons,List.not_mem_nil,or_false] at ho;subst ho;exact (by decide:0<dsz (Zp (-1))))).2
      have e:steps Zv (steps Zv c9 (Ye 0 (Zw es fs))) [(Zp (-1),0)]=step Zv (steps Zv c9 (Ye 0 (Zw es fs))) (Zp (-1),0):=rfl
      rw [e] at this
      rw [this]
      simp only [List.length_cons,List.length_nil]
      omega
    obtain ⟨cE,ecE⟩:∃ cE,cE=step Zv (steps Zv c9 (Ye 0 (Zw es fs))) (Zp (-1),0):=⟨_,rfl⟩
    have Zia:cE=steps Zv (st0,ZT) (X3 s t (Zw es fs)):=by
      rw [ecE,H9'.out]
      unfold X3
      rw [ZcM,ZcM]
      rfl
    rw [←ecE] at FS hc1
    have HD:=Qh (Qi hE (Qi hK (Qi hD hc1)))
    have HEC:=Qh Zia
    clear hE hK hD hys hcn hol hLn eL hcc ecE Zia hc1
    gi_wp2_with (first
      | (have t1:=FS
         refine ⟨trivial,?_⟩
         gi_at_call 112
         refine (callsIn_wide.2 t1).mono ?_
         rintro e w21 ⟨rfl,F21,Ze4,Zib⟩
         have Zic:w21.heap[bb]?=some ZI:=by
           obtain ⟨⟨Fe,k,eF,hS,hR,hn1,hn2⟩,hne,hsh⟩:=Ze4
           exact hS.sep.tail.tail.tail.tail.head
         have kb:w21.cell? ⟨bb,0,none⟩=some (.int .i64 0):=Za Zic 0 _ rfl
         have FY:=Ze4.bytes HD.out.2.2.2 (B:=w5.heap.size) hml.1 hml.2
         have hkf:=(HD.out.1.es.froms Zib hml.1 hml.2).same D _ HD.out.2.2.1 HD.out.2.1 rfl
         have H21:=Qh hkf
         clear hkf Ze4 Zib Zic FS t1 k9)
      | (have t2:=FY
         refine ⟨trivial,?_⟩
         gi_at_call 120
         refine (callsIn_wide.2 t2).mono ?_
         rintro e w22 ⟨A',cap',rfl,hrow,hnil,hbw,hkf⟩
         have H22:=Qh (Qi hrow (Qi hnil (Qi hbw (hkf.same D _ HD.out.2.2.1 H21.out rfl))))
         clear hrow hnil hbw hkf FY t2))
    obtain ⟨hrow,hnil,hbw,hK⟩:=H22.out
    refine ⟨by simp,.inl ⟨_,_,rfl,run_takeDeferred hK,?_⟩⟩
    refine ⟨.tuple #[.slice A' _ cap',.int .i64 0],by simp [results,Tryz.results52,go_sem],A',_,cap',rfl,⟨by rw [←HEC.out],?_,hnil⟩,hbw.trans (belowK_b (w:=w) (Nat.le_refl _) _ D _ _ (by have:=HD.out.2.2.1;omega) hK rfl rfl)⟩
    rw [←HEC.out]
    exact hrow.put hK rfl
end
end Go.Proofs.YtlgcfimhfmgkmaaGreatDoor
