/- Lemmas for the statement. -/
import Derived.Test.YtlgcfimhfmgkmaaGreatDoorMAT
import Derived.Laws.IdiomCopy
set_option linter.unusedVariables false
set_option linter.unusedSimpArgs false
set_option maxRecDepth 100000
set_option maxHeartbeats 4000000
namespace Go.Proofs.YtlgcfimhfmgkmaaGreatDoor
open Go.RowKit
section
theorem ZfJ {fn:Func} {p:Tmp} (h:fn.results=#[.cell p 75]) (tmps:Array Value) (w:World) (g:Nat) (cs:Array Value) (hn:cs.size=5)
  (hp:tmps.getD p undef=.pointer (some ⟨g,0,none⟩)) (hg:w.heap[g]?=some (.cells cs 75 (0,0))) :
  (results fn tmps).run Tryz.prog w=.ok (.agg cs) w:=by
 have hp':tmps[p]?.getD undef=.pointer (some ⟨g,0,none⟩):=by simpa using hp
 have hi:(Tryz.prog.info? 75).map (·.size)=some cs.size:=by rw [hn];kernel_rfl
 have hl:=run_loadVar_row (P:=Tryz.prog) w g 75 75 cs (0,0) _ hg Tryz.underlying75 rfl hi
 simp [results,h,hp',asAddr,hl]
theorem Zq1 (k:Int)  (w:World) :
  Calls Tryz.prog 26 #[.int .u8 k,.slice none 0 0] w fun e w'=>e=.returned (.agg #[.int .u8 k,.int .i64 0,.int .i64 0,.int .i64 0,.int .i64 0])∧Below w.heap.size w w':=by
 obtain ⟨w1,g,e1,eg,hg,hb⟩:∃ W q,W=w.alloc (.cells #[.int .u8 0,.int .i64 0,.int .i64 0,.int .i64 0,.int .i64 0] 75 (0,0))∧q=w.heap.size∧W.heap[q]?=some (.cells #[.int .u8 0,.int .i64 0,.int .i64 0,.int .i64 0,.int .i64 0] 75 (0,0))∧Below w.heap.size w W:=⟨_,_,rfl,rfl,heap_alloc_new w _,Zg w _⟩
 obtain ⟨w2,h,e2,eh,hh,hb2⟩:∃ W q,W=w1.alloc (.cells #[.int .u8 k,.int .i64 0,.int .i64 0,.int .i64 0,.int .i64 0] 75 (0,0))∧q=w1.heap.size∧W.heap[q]?=some (.cells #[.int .u8 k,.int .i64 0,.int .i64 0,.int .i64 0,.int .i64 0] 75 (0,0))∧Below w1.heap.size w1 W:=⟨_,_,rfl,rfl,heap_alloc_new w1 _,Zg w1 _⟩
 have R:=run_copy_nil (P:=Tryz.prog) w2 48 48 3 3 ⟨h,1,none⟩ 4 4 Tryz.underlying48 (by kernel_rfl)
 obtain ⟨w3,e3,hh3,hb3,hn3⟩:∃ W,W=w2∧W.heap[h]?=some (.cells #[.int .u8 k,.int .i64 0,.int .i64 0,.int .i64 0,.int .i64 0] 75 (0,0))∧Below w.heap.size w W∧W.heap[g]?=w2.heap[g]?:=⟨_,rfl,hh,Ze hb hb2,rfl⟩
 have hg3:=hn3.trans ((hb2.block _ (lt_of_block hg)).trans hg)
 have H:=Qh (Qi hg3 (Qi hb3 (Qi (show w.heap.size≤g from Nat.le_of_eq eg.symm) hh3)))
 have E1:=Qh (Qi e1 eg)
 have E2:=Qh (Qi e2 eh)
 have E3:=Qh e3
 have ER:=Qh R
 clear hg hb hh hb2 e1 eg e2 eh hg3 hh3 hb3 hn3 e3 R
 go_enter Tryz.func26,Tryz.ntmps26
 go_upto_region 1 with fail
 rw [←E1.out.1,←E1.out.2]
 go_upto_region 2 with fail
 rw [←E2.out.1,←E2.out.2]
 have R:=ER.out
 clear E1 E2 ER
 go_upto_region 3 with fail
 rw [←E3.out]
 clear R E3
 obtain ⟨f0,f1,f2,f3,f4⟩:=ce5 H.out.2.2.2
 have y0:w3.cell? ⟨g,0,none⟩=some (.int .u8 0):=Za H.out.1 0 _ rfl
 have z0:=Zd H.out.1 0
 have y1:w3.cell? ⟨g,1,none⟩=some (.int .i64 0):=Za H.out.1 1 _ rfl
 have z1:=Zd H.out.1 1
 have y2:w3.cell? ⟨g,2,none⟩=some (.int .i64 0):=Za H.out.1 2 _ rfl
 have z2:=Zd H.out.1 2
 have y3:w3.cell? ⟨g,3,none⟩=some (.int .i64 0):=Za H.out.1 3 _ rfl
 have z3:=Zd H.out.1 3
 have y4:w3.cell? ⟨g,4,none⟩=some (.int .i64 0):=Za H.out.1 4 _ rfl
 have z4:=Zd H.out.1 4
 go_wp2_with fail
 refine bodyPost_ret (ZfJ rfl _ _ g _ rfl rfl (Yk (.int .u8 k) (.int .i64 0) (.int .i64 0) (.int .i64 0) (.int .i64 0) H.out.1)) rfl ?_
 exact ⟨rfl,Yl _ _ _ _ _ H.out.2.1 H.out.2.2.1⟩
theorem ZfK (k:Int) (u:Int) (w:World) (sb:Nat) (hs:w.heap[sb]?=some (.cells #[.int .i64 u] 3 (0,0))) :
  Calls Tryz.prog 26 #[.int .u8 k,.slice (some ⟨sb,0,none⟩) 1 1] w fun e w'=>e=.returned (.agg #[.int .u8 k,.int .i64 u,.int .i64 0,.int .i64 0,.int .i64 0])∧Below w.heap.size w w':=by
 obtain ⟨w1,g,e1,eg,hg,hb⟩:∃ W q,W=w.alloc (.cells #[.int .u8 0,.int .i64 0,.int .i64 0,.int .i64 0,.int .i64 0] 75 (0,0))∧q=w.heap.size∧W.heap[q]?=some (.cells #[.int .u8 0,.int .i64 0,.int .i64 0,.int .i64 0,.int .i64 0] 75 (0,0))∧Below w.heap.size w W:=⟨_,_,rfl,rfl,heap_alloc_new w _,Zg w _⟩
 obtain ⟨w2,h,e2,eh,hh,hb2⟩:∃ W q,W=w1.alloc (.cells #[.int .u8 k,.int .i64 0,.int .i64 0,.int .i64 0,.int .i64 0] 75 (0,0))∧q=w1.heap.size∧W.heap[q]?=some (.cells #[.int .u8 k,.int .i64 0,.int .i64 0,.int .i64 0,.int .i64 0] 75 (0,0))∧Below w1.heap.size w1 W:=⟨_,_,rfl,rfl,heap_alloc_new w1 _,Zg w1 _⟩
 have hs2:=((Ze hb hb2).block _ (lt_of_block hs)).trans hs
 have hwh:w.heap.size≤h:=by rw [eh];exact hb.size
 have hgh:g≠h:=by rw [eh];exact Nat.ne_of_lt (lt_of_block hg)
 have hbh:=Ze hb hb2
 have hsrc:∀ (j:Nat) (z:Value),[.int .i64 u][j]?=some z→w2.cell? ((⟨sb,0,none⟩:Addr).add j)=some z:=fun j z hj=>by
  rcases j with _ | j
  ·injection hj with hj;subst hj;exact Za hs2 0 _ rfl
  ·simp at hj
 have R:=run_copy_cells (P:=Tryz.prog) w2 48 48 3 3 h 1 4 4 ⟨sb,0,none⟩ 1 1 [.int .i64 u] Tryz.underlying48 (by kernel_rfl) rfl hsrc (fun j hj=>by rw [cell_of_block hh];rcases j with _ | _ | j<;>first | rfl | (simp only [List.length_cons,List.length_nil] at hj;omega)) (fun j hj=>Zd hh _) (fun x hx=>by simp only [List.mem_cons,List.not_mem_nil,or_false] at hx;subst hx;rfl)
 obtain ⟨w3,e3,hh3,hb3,hn3⟩:∃ W,W=(w2.setCells h 1 [.int .i64 u])∧W.heap[h]?=some (.cells #[.int .u8 k,.int .i64 u,.int .i64 0,.int .i64 0,.int .i64 0] 75 (0,0))∧Below w.heap.size w W∧W.heap[g]?=w2.heap[g]?:=⟨_,rfl,block_setCell hh 1 _,(hbh.setCell (p:=⟨h,1,none⟩) hwh _),Below.heap_setCell _ _ _ _ hgh⟩
 clear hsrc hs2 hwh hgh hbh hs
 have hg3:=hn3.trans ((hb2.block _ (lt_of_block hg)).trans hg)
 have H:=Qh (Qi hg3 (Qi hb3 (Qi (show w.heap.size≤g from Nat.le_of_eq eg.symm) hh3)))
 have E1:=Qh (Qi e1 eg)
 have E2:=Qh (Qi e2 eh)
 have E3:=Qh e3
 have ER:=Qh R
 clear hg hb hh hb2 e1 eg e2 eh hg3 hh3 hb3 hn3 e3 R
 go_enter Tryz.func26,Tryz.ntmps26
 go_upto_region 1 with fail
 rw [←E1.out.1,←E1.out.2]
 go_upto_region 2 with fail
 rw [←E2.out.1,←E2.out.2]
 have R:=ER.out
 clear E1 E2 ER
 go_upto_region 3 with fail
 rw [←E3.out]
 clear R E3
 obtain ⟨f0,f1,f2,f3,f4⟩:=ce5 H.out.2.2.2
 have y0:w3.cell? ⟨g,0,none⟩=some (.int .u8 0):=Za H.out.1 0 _ rfl
 have z0:=Zd H.out.1 0
 have y1:w3.cell? ⟨g,1,none⟩=some (.int .i64 0):=Za H.out.1 1 _ rfl
 have z1:=Zd H.out.1 1
 have y2:w3.cell? ⟨g,2,none⟩=some (.int .i64 0):=Za H.out.1 2 _ rfl
 have z2:=Zd H.out.1 2
 have y3:w3.cell? ⟨g,3,none⟩=some (.int .i64 0):=Za H.out.1 3 _ rfl
 have z3:=Zd H.out.1 3
 have y4:w3.cell? ⟨g,4,none⟩=some (.int .i64 0):=Za H.out.1 4 _ rfl
 have z4:=Zd H.out.1 4
 go_wp2_with fail
 refine bodyPost_ret (ZfJ rfl _ _ g _ rfl rfl (Yk (.int .u8 k) (.int .i64 u) (.int .i64 0) (.int .i64 0) (.int .i64 0) H.out.1)) rfl ?_
 exact ⟨rfl,Yl _ _ _ _ _ H.out.2.1 H.out.2.2.1⟩
theorem ZjG (k:Int) (u:Int) (v:Int) (w:World) (sb:Nat) (hs:w.heap[sb]?=some (.cells #[.int .i64 u,.int .i64 v] 3 (0,0))) :
  Calls Tryz.prog 26 #[.int .u8 k,.slice (some ⟨sb,0,none⟩) 2 2] w fun e w'=>e=.returned (.agg #[.int .u8 k,.int .i64 u,.int .i64 v,.int .i64 0,.int .i64 0])∧Below w.heap.size w w':=by
 obtain ⟨w1,g,e1,eg,hg,hb⟩:∃ W q,W=w.alloc (.cells #[.int .u8 0,.int .i64 0,.int .i64 0,.int .i64 0,.int .i64 0] 75 (0,0))∧q=w.heap.size∧W.heap[q]?=some (.cells #[.int .u8 0,.int .i64 0,.int .i64 0,.int .i64 0,.int .i64 0] 75 (0,0))∧Below w.heap.size w W:=⟨_,_,rfl,rfl,heap_alloc_new w _,Zg w _⟩
 obtain ⟨w2,h,e2,eh,hh,hb2⟩:∃ W q,W=w1.alloc (.cells #[.int .u8 k,.int .i64 0,.int .i64 0,.int .i64 0,.int .i64 0] 75 (0,0))∧q=w1.heap.size∧W.heap[q]?=some (.cells #[.int .u8 k,.int .i64 0,.int .i64 0,.int .i64 0,.int .i64 0] 75 (0,0))∧Below w1.heap.size w1 W:=⟨_,_,rfl,rfl,heap_alloc_new w1 _,Zg w1 _⟩
 have hs2:=((Ze hb hb2).block _ (lt_of_block hs)).trans hs
 have hwh:w.heap.size≤h:=by rw [eh];exact hb.size
 have hgh:g≠h:=by rw [eh];exact Nat.ne_of_lt (lt_of_block hg)
 have hbh:=Ze hb hb2
 have hsrc:∀ (j:Nat) (z:Value),[.int .i64 u,.int .i64 v][j]?=some z→w2.cell? ((⟨sb,0,none⟩:Addr).add j)=some z:=fun j z hj=>by
  rcases j with _ | _ | j
  ·injection hj with hj;subst hj;exact Za hs2 0 _ rfl
  ·injection hj with hj;subst hj;exact Za hs2 1 _ rfl
  ·simp at hj
 have R:=run_copy_cells (P:=Tryz.prog) w2 48 48 3 3 h 1 4 4 ⟨sb,0,none⟩ 2 2 [.int .i64 u,.int .i64 v] Tryz.underlying48 (by kernel_rfl) rfl hsrc (fun j hj=>by rw [cell_of_block hh];rcases j with _ | _ | j<;>first | rfl | (simp only [List.length_cons,List.length_nil] at hj;omega)) (fun j hj=>Zd hh _) (fun x hx=>by simp only [List.mem_cons,List.not_mem_nil,or_false] at hx;rcases hx with rfl|rfl<;>rfl)
 obtain ⟨w3,e3,hh3,hb3,hn3⟩:∃ W,W=(w2.setCells h 1 [.int .i64 u,.int .i64 v])∧W.heap[h]?=some (.cells #[.int .u8 k,.int .i64 u,.int .i64 v,.int .i64 0,.int .i64 0] 75 (0,0))∧Below w.heap.size w W∧W.heap[g]?=w2.heap[g]?:=⟨_,rfl,block_setCell (block_setCell hh 1 _) 2 _,((hbh.setCell (p:=⟨h,1,none⟩) hwh _).setCell (p:=⟨h,2,none⟩) hwh _),(Below.heap_setCell _ _ _ _ hgh).trans (Below.heap_setCell _ _ _ _ hgh)⟩
 clear hsrc hs2 hwh hgh hbh hs
 have hg3:=hn3.trans ((hb2.block _ (lt_of_block hg)).trans hg)
 have H:=Qh (Qi hg3 (Qi hb3 (Qi (show w.heap.size≤g from Nat.le_of_eq eg.symm) hh3)))
 have E1:=Qh (Qi e1 eg)
 have E2:=Qh (Qi e2 eh)
 have E3:=Qh e3
 have ER:=Qh R
 clear hg hb hh hb2 e1 eg e2 eh hg3 hh3 hb3 hn3 e3 R
 go_enter Tryz.func26,Tryz.ntmps26
 go_upto_region 1 with fail
 rw [←E1.out.1,←E1.out.2]
 go_upto_region 2 with fail
 rw [←E2.out.1,←E2.out.2]
 have R:=ER.out
 clear E1 E2 ER
 go_upto_region 3 with fail
 rw [←E3.out]
 clear R E3
 obtain ⟨f0,f1,f2,f3,f4⟩:=ce5 H.out.2.2.2
 have y0:w3.cell? ⟨g,0,none⟩=some (.int .u8 0):=Za H.out.1 0 _ rfl
 have z0:=Zd H.out.1 0
 have y1:w3.cell? ⟨g,1,none⟩=some (.int .i64 0):=Za H.out.1 1 _ rfl
 have z1:=Zd H.out.1 1
 have y2:w3.cell? ⟨g,2,none⟩=some (.int .i64 0):=Za H.out.1 2 _ rfl
 have z2:=Zd H.out.1 2
 have y3:w3.cell? ⟨g,3,none⟩=some (.int .i64 0):=Za H.out.1 3 _ rfl
 have z3:=Zd H.out.1 3
 have y4:w3.cell? ⟨g,4,none⟩=some (.int .i64 0):=Za H.out.1 4 _ rfl
 have z4:=Zd H.out.1 4
 go_wp2_with fail
 refine bodyPost_ret (ZfJ rfl _ _ g _ rfl rfl (Yk (.int .u8 k) (.int .i64 u) (.int .i64 v) (.int .i64 0) (.int .i64 0) H.out.1)) rfl ?_
 exact ⟨rfl,Yl _ _ _ _ _ H.out.2.1 H.out.2.2.1⟩
end
end Go.Proofs.YtlgcfimhfmgkmaaGreatDoor
