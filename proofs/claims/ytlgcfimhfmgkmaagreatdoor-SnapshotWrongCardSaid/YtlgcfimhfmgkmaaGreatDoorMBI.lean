/- Lemmas for the statement. -/
import Derived.Test.YtlgcfimhfmgkmaaGreatDoorMAP
set_option linter.unusedVariables false
set_option linter.unusedSimpArgs false
namespace Go.Proofs.YtlgcfimhfmgkmaaGreatDoor
open Go.RowKit
section
def Jy (M:Nat):Nat:=16-(15*min M 16384+16383) / 16384
set_option maxRecDepth 100000 in
set_option maxHeartbeats 4000000 in
theorem ZpX (ax ay bx by_:Int) (hi:InP ax ay) (hq:InP bx by_) (w:World) :
    Calls Tryz.prog 101 #[.agg #[.int .i64 ax,.int .i64 ay],.agg #[.int .i64 bx,.int .i64 by_]] w fun r w'=>r=.returned (.int .i64 (Jy (max (bx-ax).natAbs (by_-ay).natAbs):Nat))∧Below w.heap.size w w':=by
  obtain ⟨w1,e1⟩:∃ W,W=(w.alloc (.cells #[.int .i64 ax,.int .i64 ay] 152 (0,0))).alloc (.cells #[.int .i64 bx,.int .i64 by_] 152 (0,0)):=⟨_,rfl⟩
  obtain ⟨g,eg⟩:∃ g,g=w.heap.size:=⟨_,rfl⟩
  have hb:Below w.heap.size w w1:=by rw [e1];exact ZQ w _ _
  have hg0:w1.heap[g]?=some (.cells #[.int .i64 ax,.int .i64 ay] 152 (0,0)):=by rw [e1,eg];exact ZZ w _ _
  have hg1:w1.heap[g+1]?=some (.cells #[.int .i64 bx,.int .i64 by_] 152 (0,0)):=by rw [e1,eg];exact Z0 w _ _
  obtain ⟨f0,f1⟩:=cs2 hg0
  obtain ⟨r0,r1⟩:=cs2 hg1
  have F:=Zhh ax ay bx by_ hi.1 hi.2 hq.1 hq.2 w1
  obtain ⟨M,eM⟩:∃ M,M=max (bx-ax).natAbs (by_-ay).natAbs:=⟨_,rfl⟩
  rw [←eM] at F ⊢
  have H:=Qh hb
  clear hb hg0 hg1 eM hi hq
  go_enter Tryz.func101,Tryz.ntmps101
  go_upto_region 1 with fail
  rw [←e1,←eg]
  clear e1 eg
  go_wp2_with (go_at_call 94;refine F.mono ?_;rintro e w2 ⟨rfl,hb2⟩;have H2:=Qh hb2;clear hb2 F)
  all_goals first
    | (have hv:((Jy M:Nat):Int)=16-(15*(M:Int)+16384-1) / 16384:=by unfold Jy;omega
       rw [hv]
       go_ret
       exact ⟨rfl,H.out.trans (H2.out.mono H.out.size)⟩)
    | (have hv:((Jy M:Nat):Int)=1:=by unfold Jy;omega
       rw [hv]
       go_ret
       exact ⟨rfl,H.out.trans (H2.out.mono H.out.size)⟩)
    | (have hv:((Jy M:Nat):Int)=16-(15*min (M:Int) 16384+16384-1) / 16384:=by unfold Jy;omega
       rw [hv]
       go_ret
       exact ⟨rfl,H.out.trans (H2.out.mono H.out.size)⟩)
end
end Go.Proofs.YtlgcfimhfmgkmaaGreatDoor
