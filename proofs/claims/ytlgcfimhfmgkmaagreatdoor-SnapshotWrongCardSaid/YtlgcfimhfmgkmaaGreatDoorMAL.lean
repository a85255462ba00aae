/- Lemmas for the statement. -/
import Derived.Test.YtlgcfimhfmgkmaaGreatDoorMAK
set_option linter.unusedVariables false
set_option linter.unusedSimpArgs false
set_option maxRecDepth 100000
set_option maxHeartbeats 4000000
namespace Go.Proofs.YtlgcfimhfmgkmaaGreatDoor
open Go.RowKit
section
def Zc1 (b0 b1 b2:Nat):Obj:=.cells #[.pointer (some ⟨b0,0,none⟩),.pointer (some ⟨b1,0,none⟩),.pointer (some ⟨b2,0,none⟩)] 261 (0,0)
theorem Tq66 {p:Prop} (h:p:=by
 simp only [Zb,List.mem_cons,List.not_mem_nil,or_false] at e;rcases hq with rfl|rfl<;>simp [e] at hd):p:=h
theorem Tq63 {p:Prop} (h:p:=by
 simp only [Yc,List.mem_cons,List.not_mem_nil,or_false] at hq;exact lo q (by rcases hq with rfl|rfl<;>simp)):p:=h
theorem Tq56 {p:Prop} (h:p:=by
 simp only [Yc,List.mem_cons,List.not_mem_nil,or_false] at e;rcases hq with rfl|rfl<;>rcases e with e | e<;>simp [e] at hd):p:=h
theorem Ses.number {w0 w:World} {l:List Part} (h:Ses w0 w l) :
  Calls Tryz.prog 171 #[] w fun e w'=>∃ nb b0 g0 b1 g1 b2 g2,e=.returned (.pointer (some ⟨nb,0,none⟩))∧Ses w0 w' (Yc b0 g0 (List.replicate 65 1) :: Yc b1 g1 (List.replicate 2 1) :: Yc b2 g2 (List.replicate 2 1) :: Zb nb (Zc1 b0 b1 b2) :: l):=by
 refine (ZlA w).mono ?_
 rintro e w' ⟨nb,b0,g0,b1,g1,b2,g2,rfl,hn,h0,h1,h2,hd,hlo,hb⟩
 refine ⟨nb,b0,g0,b1,g1,b2,g2,rfl,?_⟩
 have hl:=h.below hb
 have lo:∀ q,q∈[b0,g0,b1,g1,b2,g2,nb]→w0.heap.size≤q:=fun q hq=>Nat.le_trans h.bel.size (hlo q hq)
 have hp:∀ p,p∈l→∀ q,q∈p.F→q<w.heap.size:=fun p hp q hq=>(h.sep.1 p hp).lt q hq
 simp only [List.nodup_cons,List.mem_cons,List.not_mem_nil,or_false,not_or,List.nodup_nil,and_true,not_false_eq_true] at hd
 have far:∀ q,q∈[b0,g0,b1,g1,b2,g2,nb]→∀ p,p∈l→q∉p.F:=fun q hq p hpl e=>by have:=hp p hpl q e;have:=hlo q hq;omega
 refine ⟨⟨?_,?_⟩,?_,hl.bel⟩
 ·intro p hpm
  simp only [List.mem_cons] at hpm
  rcases hpm with rfl|rfl|rfl|rfl | hpm
  ·exact h0.part
  ·exact h1.part
  ·exact h2.part
  ·exact Zb4 hn
  ·exact hl.sep.1 p hpm
 ·refine List.pairwise_cons.2 ⟨fun p hpm q hq e=>?_,List.pairwise_cons.2 ⟨fun p hpm q hq e=>?_,List.pairwise_cons.2 ⟨fun p hpm q hq e=>?_,List.pairwise_cons.2 ⟨fun p hpm q hq e=>?_,hl.sep.2⟩⟩⟩⟩
  ·simp only [Yc,List.mem_cons,List.not_mem_nil,or_false] at hq
   simp only [List.mem_cons] at hpm
   rcases hpm with rfl|rfl|rfl | hpm
   ·exact Tq56
   ·exact Tq56
   ·exact Tq66
   ·exact far q (by rcases hq with rfl|rfl<;>simp) p hpm e
  ·simp only [Yc,List.mem_cons,List.not_mem_nil,or_false] at hq
   simp only [List.mem_cons] at hpm
   rcases hpm with rfl|rfl | hpm
   ·exact Tq56
   ·exact Tq66
   ·exact far q (by rcases hq with rfl|rfl<;>simp) p hpm e
  ·simp only [Yc,List.mem_cons,List.not_mem_nil,or_false] at hq
   simp only [List.mem_cons] at hpm
   rcases hpm with rfl | hpm
   ·exact Tq66
   ·exact far q (by rcases hq with rfl|rfl<;>simp) p hpm e
  ·simp only [Zb,List.mem_cons,List.not_mem_nil,or_false] at hq
   exact far q (by rw [hq];simp) p hpm e
 ·intro p hpm q hq
  simp only [List.mem_cons] at hpm
  rcases hpm with rfl|rfl|rfl|rfl | hpm
  ·exact Tq63
  ·exact Tq63
  ·exact Tq63
  ·simp only [Zb,List.mem_cons,List.not_mem_nil,or_false] at hq;exact lo q (by rw [hq];simp)
  ·exact h.base p hpm q hq
def Zad (f:Nat→Nat) (i a b c:Nat):Nat→Nat:=Q8 (Q8 (Q8 f (i+2) c) (i+1) b) i a
theorem Zmy (f:Nat→Nat) (i a b c:Nat):Zad f i a b c i=a:=Qe _ _ _
theorem Zmz (f:Nat→Nat) (i a b c:Nat):Zad f i a b c (i+1)=b:=(YY (by omega)).trans (Qe _ _ _)
theorem ZmA (f:Nat→Nat) (i a b c:Nat):Zad f i a b c (i+2)=c:=(YY (by omega)).trans ((YY (by omega)).trans (Qe _ _ _))
theorem ZmB {f:Nat→Nat} {i a b c j:Nat} (h0:j≠i) (h1:j≠i+1) (h2:j≠i+2):Zad f i a b c j=f j:=(YY h0).trans ((YY h1).trans (YY h2))
def ZE.int (k:ZE) (n:Int) (nb b0 g0 b1 g1 b2 g2:Nat):ZE:=⟨ZH n :: (ZH n+1) :: (ZH n+2) :: k.J,Zad k.bm (ZH n) b0 b1 b2,Zad k.g (ZH n) g0 g1 g2,(nb,ZH n) :: k.nums,k.n1,k.n2+1,k.t1,Jo k.t2 n (nb+1)⟩
theorem Yx.int {k:ZE} {fr:Bun} (h:Yx k fr) (n:Int) (nb b0 g0 b1 g1 b2 g2:Nat) (h0:-3≤n) (h1:n≤1000):Yx (k.int n nb b0 g0 b1 g1 b2 g2) fr:=by
 refine ⟨fun j hj=>h.frs j (fun e=>hj (by simp [ZE.int,e])),fun m m0 m1=>?_,fun m m0 m1=>?_⟩
 ·have a0:Zp m≠ZH n:=by unfold ZH Zp;omega
  have a1:Zp m≠ZH n+1:=by unfold ZH Zp;omega
  have a2:Zp m≠ZH n+2:=by unfold ZH Zp;omega
  rcases h.k1 m m0 m1 with ⟨e1,e2⟩|⟨e1,e2⟩
  ·exact .inl ⟨e1,by simp [ZE.int,a0,a1,a2,e2]⟩
  ·refine .inr ⟨?_,by simp [ZE.int,e2]⟩
   simp only [ZE.int,ZmB a0 a1 a2];exact e1
 ·by_cases e:m=n
  ·subst e
   exact .inr ⟨nb,if_pos rfl,by simp [ZE.int]⟩
  ·have f0:∀ a b:Nat,a<3→b<3→ZH m+a≠ZH n+b:=by intro a b ha hb;unfold ZH;omega
   simp only [ZE.int]
   rw [show Jo k.t2 n (nb+1) m=k.t2 m from if_neg e]
   rcases h.k2 m m0 m1 with ⟨e1,e2,e3,e4⟩|⟨nb',e1,e2⟩
   ·refine .inl ⟨e1,?_,?_,?_⟩
    ·have:=f0 0 0;have:=f0 0 1;have:=f0 0 2;simp only [List.mem_cons,not_or];refine ⟨?_,?_,?_,e2⟩<;>omega
    ·have:=f0 1 0;have:=f0 1 1;have:=f0 1 2;simp only [List.mem_cons,not_or];refine ⟨?_,?_,?_,e3⟩<;>omega
    ·have:=f0 2 0;have:=f0 2 1;have:=f0 2 2;simp only [List.mem_cons,not_or];refine ⟨?_,?_,?_,e4⟩<;>omega
   ·exact .inr ⟨nb',e1,List.mem_cons_of_mem _ e2⟩
section
variable {w0 w:World} {l:List Part} {a b c d e:Part}
theorem Ses.fifth (h:Ses w0 w (a :: b :: c :: d :: e :: l)):Ses w0 w (e :: a :: b :: c :: d :: l):=h.perm (List.perm_middle (l₁:=[a,b,c,d]))
theorem Ses.fourth (h:Ses w0 w (a :: b :: c :: d :: l)):Ses w0 w (d :: a :: b :: c :: l):=h.perm (List.perm_middle (l₁:=[a,b,c]))
end
theorem Ses.addNumber {w0 w:World} {l:List Part} {k:ZE} {fr:Bun} (n:Int) (nb b0 g0 b1 g1 b2 g2:Nat) (hr:Yx k fr) (hj:ZH n∉k.J∧ZH n+1∉k.J∧ZH n+2∉k.J)
  (h:Ses w0 w (Yc b0 g0 (List.replicate 65 1) :: Yc b1 g1 (List.replicate 2 1) :: Yc b2 g2 (List.replicate 2 1) :: Zb nb (Zc1 b0 b1 b2) :: Yr k fr :: l)) :
  Ses w0 w (Yr (k.int n nb b0 g0 b1 g1 b2 g2) fr :: l):=by
 obtain ⟨j0,j1,j2⟩:=hj
 have z:=Zc0 n
 rw [show List.replicate 65 1=fr (ZH n) from by rw [hr.frs _ j0];unfold ZT;rw [z.s0]] at h
 have e1:List.replicate 2 1=fr (ZH n+1):=by rw [hr.frs _ j1];unfold ZT;rw [z.s1]
 have e2:List.replicate 2 1=fr (ZH n+2):=by rw [hr.frs _ j2];unfold ZT;rw [z.s2]
 have h:=h.fifth.fourth
 rw [show Yc b2 g2 (List.replicate 2 1)=Yc b2 g2 (fr (ZH n+2)) from by rw [e2]] at h
 have h:=(h.addModel j2).third'
 rw [show Yc b1 g1 (List.replicate 2 1)=Yc b1 g1 (fr (ZH n+1)) from by rw [e1]] at h
 have h:=(h.addModel (by simp only [List.mem_cons,not_or];exact ⟨by omega,j1⟩)).front2
 have h:=(h.addModel (by simp only [List.mem_cons,not_or];exact ⟨by omega,by omega,j0⟩)).front2
 have ho:w.heap[nb]?=some (Zc1 b0 b1 b2):=h.sep.head
 have hk:KAt w (ZH n :: (ZH n+1) :: (ZH n+2) :: k.J) (Zad k.bm (ZH n) b0 b1 b2) (Zad k.g (ZH n) g0 g1 g2) k.nums fr:=h.sep.tail.head
 refine h.join.swap (fun q hq=>?_) (KAt.part (w:=w) (fr:=fr) ⟨hk.mod,hk.apart,fun p hp=>?_⟩)
 ·rcases YX.1 hq with hq|⟨p,hp,rfl⟩
  ·exact List.mem_append_right _ (YX.2 (.inl hq))
  ·rcases List.mem_cons.1 hp with rfl | hp
   ·exact List.mem_append_left _ (by simp [Zb])
   ·exact List.mem_append_right _ (YX.2 (.inr ⟨p,hp,rfl⟩))
 ·rcases List.mem_cons.1 hp with rfl | hp
  ·refine ⟨?_,by simp [ZE.int],by simp [ZE.int],by simp [ZE.int]⟩
   show w.heap[nb]?=_
   simp only [ZE.int,Zmy,Zmz,ZmA]
   exact ho
  ·exact hk.num p hp
theorem ZgX (w:World):(zeroValue 199).run Tryz.prog w=.ok (.pointer none) w:=Tryz.zeroValue199 w
theorem ZmC (n:Int) (h0:-3≤n) (h1:n≤1000) (m1 m2:Nat) (k:ZE) (fr:Bun) (w0 w2:World) (l:List Part) (nb b0 g0 b1 g1 b2 g2:Nat) (hm:m1≠m2) (hn:k.n2≤1000000) (hr:Yx k fr) (hj:ZH n∉k.J∧ZH n+1∉k.J∧ZH n+2∉k.J)
  (h:Ses w0 w2 (Yc b0 g0 (List.replicate 65 1) :: Yc b1 g1 (List.replicate 2 1) :: Yc b2 g2 (List.replicate 2 1) :: Zb nb (Zc1 b0 b1 b2) :: Yr k fr :: ZU m1 m2 k :: l)) :
  ∃ w3,(Instr.mapUpdate 190 (.map (some m2)) (.int .i64 n) (.pointer (some ⟨nb,0,none⟩))).run Tryz.prog w2=.ok () w3∧(Instr.lookup 190 (.map (some m2)) (.int .i64 n) false).run Tryz.prog w3=.ok (.pointer (some ⟨nb,0,none⟩)) w3∧Ses w0 w3 (Yr (k.int n nb b0 g0 b1 g1 b2 g2) fr :: ZU m1 m2 (k.int n nb b0 g0 b1 g1 b2 g2) :: l):=by
 have h2:=(h.addNumber n nb b0 g0 b1 g1 b2 g2 hr hj).front2
 have hM1:Yd w2 m1 k.n1 k.t1:=h2.sep.head.1
 have hM:Yd w2 m2 k.n2 k.t2:=h2.sep.head.2
 obtain ⟨w3,hrun,hM3,hg⟩:=hM.put (T:=190) Tryz.underlying190 (by unfold maxLen;omega) n (by omega) (by omega) (nb+1)
 have hl:=hM3.look (T:=190) Tryz.underlying190 (ZgX w3) n (by omega) (by omega)
 rw [show Jo k.t2 n (nb+1) n=nb+1 from if_pos rfl] at hl
 have hf:Fr [m1,m2] w2 [m1,m2] w3:=Fr.of_grown hg (by simp)
 obtain ⟨_,_,b1'⟩:=hM1.blk
 have hM4:Yd w3 m1 k.n1 k.t1:=hM1.keep (hg.block m1 (Zh b1') (fun e=>by injection e with e;exact hm e))
 exact ⟨w3,hrun,hl,(h2.turn1 (p':=ZU m1 m2 (k.int n nb b0 g0 b1 g1 b2 g2)) hf (Zer hM4 hM3)).front2⟩
theorem ZgY (n:Int) (h0:-3≤n) (h1:n≤1000) (m1 m2:Nat) (hm:m1≠m2) (k:ZE) (fr:Bun) (w0 w:World) (l:List Part) (h:Ses w0 w (Yr k fr :: ZU m1 m2 k :: l)) (hr:Yx k fr) (hn:k.n2≤1000000) :
  Calls Tryz.prog 117 #[.agg #[.map (some m1),.map (some m2)],.int .i64 n] w fun e w'=>∃ (k':ZE) (nb:Nat),e=.returned (.pointer (some ⟨nb,0,none⟩))∧((nb,ZH n)∈k'.nums∧Yx k' fr∧k'.n1=k.n1∧k'.n2≤k.n2+1)∧Ses w0 w' (Yr k' fr :: ZU m1 m2 k' :: l):=by
 obtain ⟨w1,g,e1,eg,⟨c0,c1⟩,h1'⟩:=ZgU m1 m2 h
 have hM:Yd w1 m2 k.n2 k.t2:=h1'.sep.tail.head.2
 have hl:=hM.look (T:=190) Tryz.underlying190 (ZgX w1) n (by omega) (by omega)
 have H:=Qh (Qi h1' (Qi hr (Qi hm hn)))
 rcases hr.k2 n h0 h1 with ⟨e0,hj⟩|⟨nb,e0,hj⟩
 ·rw [e0] at hl
  have HJ:=Qh hj
  unfold J9 at hl
  have F:=(h1'.drewN 1).number
  clear h h1' hM hr hm hn hj e0
  have hmx:Tryz.prog.follows .mixedOrders=true:=by kernel_rfl
  go_enter Tryz.func117,Tryz.ntmps117
  go_upto_region 1 with fail
  rw [←e1,←eg]
  clear e1 eg
  go_upto_region 2 with fail
  go_region_with (refine F.mono ?_;rintro r w2 ⟨nb,b0,g0,b1,g1,b2,g2,rfl,hs2⟩;have c56:w2.heap[g]?=some (ZJ m1 m2):=hs2.sep.tail.tail.tail.tail.tail.tail.head;have c5:=(Y9 c56).1;have c6:=(Y9 c56).2;clear c56;obtain ⟨w3,hrun,hl3,HF⟩:=ZmC n h0 h1 m1 m2 k fr w0 w2 (Zb g (ZJ m1 m2) :: l) nb b0 g0 b1 g1 b2 g2 H.out.2.2.1 H.out.2.2.2 H.out.2.1 HJ.out hs2;have c34:w3.heap[g]?=some (ZJ m1 m2):=HF.sep.tail.tail.head;have c3:=(Y9 c34).1;have c4:=(Y9 c34).2;clear c34;have HF3:=Qh HF;clear hs2 HF)
  all_goals go_wp2_with fail
  all_goals go_ret
  all_goals exact ⟨k.int n nb b0 g0 b1 g1 b2 g2,nb,rfl,⟨by simp [ZE.int],H.out.2.1.int n nb b0 g0 b1 g1 b2 g2 h0 h1,rfl,Nat.le_refl _⟩,HF3.out.third'.tail⟩
 ·rw [e0] at hl
  unfold J9 at hl
  have HJ:=Qh hj
  clear h h1' hM hr hm hn hj e0
  have hmx:Tryz.prog.follows .mixedOrders=true:=by kernel_rfl
  go_enter Tryz.func117,Tryz.ntmps117
  go_upto_region 1 with fail
  rw [←e1,←eg]
  clear e1 eg
  go_wp2_with fail
  go_ret
  exact ⟨k,nb,rfl,⟨HJ.out,H.out.2.1,rfl,by omega⟩,H.out.1.third'.tail⟩
end
end Go.Proofs.YtlgcfimhfmgkmaaGreatDoor
namespace Go.Proofs.YtlgcfimhfmgkmaaGreatDoor
open Go.RowKit
section
def blocks (ps:List Part):List Nat:=ps.flatMap Part.F
def XD (w0 W:World) (F:List Nat):Part:=⟨(List.range W.heap.size).filter (fun q=>decide (w0.heap.size≤q∧q∉F)),fun w'=>W.heap.size≤w'.heap.size∧∀ q,q<W.heap.size→w0.heap.size≤q→q∉F→w'.heap[q]?=W.heap[q]?⟩
theorem Zb5 {w0 W:World} {F:List Nat} {q:Nat}:q∈(XD w0 W F).F↔q<W.heap.size∧w0.heap.size≤q∧q∉F:=by
 simp [XD]
theorem ZmD {w0 W:World} (F:List Nat):(XD w0 W F).ok W:=
 ⟨⟨Nat.le_refl _,fun _ _ _ _=>rfl⟩,fun q hq=>(Zb5.1 hq).1,fun w' hs hz=>⟨hz,fun q h1 h2 h3=>hs q (Zb5.2 ⟨h1,h2,h3⟩)⟩⟩
theorem Qf {ps:List Part} {q:Nat}:q∈blocks ps↔∃ p,p∈ps∧q∈p.F:=by simp [blocks]
theorem Ses.rest {w0 W:World} {ps:List Part} (h:Ses w0 W ps):Ses w0 W (XD w0 W (blocks ps) :: ps):=by
 refine ⟨⟨fun p hp=>?_,List.pairwise_cons.2 ⟨fun p hp q hq e=>?_,h.sep.2⟩⟩,fun p hp q hq=>?_,h.bel⟩
 ·rcases List.mem_cons.1 hp with rfl | hp
  ·exact ZmD _
  ·exact h.sep.1 p hp
 ·exact (Zb5.1 hq).2.2 (Qf.2 ⟨p,hp,e⟩)
 ·rcases List.mem_cons.1 hp with rfl | hp
  ·exact (Zb5.1 hq).2.1
  ·exact h.base p hp q hq
theorem Ses.frame {w0 W W':World} {ps ps':List Part} (h:Ses w0 W ps) (h':Ses w0 W' (XD w0 W (blocks ps) :: ps')):Ses w0 W' ps'∧Fr (blocks ps) W (blocks ps') W':=by
 refine ⟨h'.tail,h'.bel.os.trans h.bel.os.symm,h'.bel.tape.trans h.bel.tape.symm,h'.bel.output.trans h.bel.output.symm,h'.sep.head.1,fun q hq hn=>?_,fun q hq=>?_⟩
 ·by_cases hlo:w0.heap.size≤q
  ·exact h'.sep.head.2 q hq hlo hn
  ·exact (h'.bel.block q (by omega)).trans (h.bel.block q (by omega)).symm
 ·obtain ⟨p,hp,hqp⟩:=Qf.1 hq
  by_cases h1:W.heap.size≤q
  ·exact .inr h1
  ·by_cases h2:q∈blocks ps
   ·exact .inl h2
   ·exact absurd hqp ((List.pairwise_cons.1 h'.sep.2).1 p hp q (Zb5.2 ⟨by omega,h'.base p (by simp [hp]) q hqp,h2⟩))
structure EX where
 eb:Nat
 mb:Nat
 bb:Nat
 m1:Nat
 m2:Nat
def ZI:Obj:=.cells #[.int .i64 0] 34 (0,0)
def Xm (w0:World) (X:EX) (Fe:List Nat) (k:ZE) (c:St × Bun):List Part:=[YI w0.heap.size X.eb Fe c.1,Yr k c.2,ZU X.m1 X.m2 k,Zb X.mb (ZJ X.m1 X.m2),Zb X.bb ZI]
structure ES (w0 W:World) (X:EX) (c:St × Bun) (F:List Nat):Prop where
 ex:∃ (Fe:List Nat) (k:ZE),F=blocks (Xm w0 X Fe k c)∧Ses w0 W (Xm w0 X Fe k c)∧Yx k c.2∧k.n1≤c.1.cnt∧k.n2≤c.1.cnt
 ne:X.m1≠X.m2
 sh:Shape dsz c.2
section
variable {w0 w:World} {a b c d e f:Part} {l:List Part}
theorem Ses.es1 (h:Ses w0 w (a :: b :: c :: d :: l)):Ses w0 w (c :: d :: b :: a :: l):=(h.perm ((List.perm_middle (l₁:=[a,b])).trans ((List.perm_middle (l₁:=[c,a,b])).trans (List.Perm.refl _)))).perm (by
 exact (List.Perm.swap c d (a :: b :: l)).trans (List.Perm.cons c (List.Perm.cons d (List.Perm.swap b a l))))
end
theorem Ses.zero {w0 w:World} {a b c d e:Part} {bb:Nat} (h:Ses w0 w [a,b,c,d,e,Zb bb ZI]):Ses w0 (w.setCell ⟨bb,0,none⟩ (.int .i64 0)) [a,b,c,d,e,Zb bb ZI]:=by
 have h1:Ses w0 w (Zb bb ZI :: [a,b,c,d,e]):=h.perm (List.perm_middle (l₁:=[a,b,c,d,e]) (l₂:=[]))
 have hb:w.heap[bb]?=some ZI:=h1.sep.head
 have h2:=h1.turn1 (p':=Zb bb ZI) ((Fr.refl [bb] w).store (by simp) 0 (.int .i64 0)) (Zb4 (block_setCell hb 0 _))
 exact h2.perm (List.perm_middle (l₁:=[a,b,c,d,e]) (l₂:=[])).symm
theorem ES.ok {w0 W:World} {X:EX} {c:St × Bun} {F:List Nat} (h:ES w0 W X c F):Ok dsz c:=by
 obtain ⟨⟨Fe,k,eF,hS,hR,hn1,hn2⟩,hne,hsh⟩:=h
 have he:EOk (Xc w0.heap.size X.eb) W Fe c.1:=hS.sep.head
 exact ⟨he.live,hsh⟩
theorem Yx.step {k:ZE} {fr:Bun} (h:Yx k fr) {j:Nat} (hj:j∈k.J) (lf:List Nat):Yx k (upd fr j lf):=
 ⟨fun i hi=>by rw [ZcL (fun e=>hi (by rw [e];exact hj))];exact h.frs i hi,h.k1,h.k2⟩
theorem ES.next {w0 w w':World} {X:EX} {c c':St × Bun} {Fe Fe':List Nat} {k k':ZE} (hS:Ses w0 w (Xm w0 X Fe k c)) (h':Ses w0 w' (XD w0 w (blocks (Xm w0 X Fe k c)) :: Xm w0 X Fe' k' c')) (hR:Yx k' c'.2) (hn1:k'.n1≤c'.1.cnt) (hn2:k'.n2≤c'.1.cnt) (hne:X.m1≠X.m2) (hsh:Shape dsz c'.2) :
  ∃ F',ES w0 w' X c' F'∧Fr (blocks (Xm w0 X Fe k c)) w F' w':=
 ⟨_,⟨⟨Fe',k',rfl,(hS.frame h').1,hR,hn1,hn2⟩,hne,hsh⟩,(hS.frame h').2⟩
theorem ZgZ (X:EX) (c:St × Bun) (F:List Nat) (n:Int) (s:Nat) (h0:-1≤n) (h1:n≤18) (hs:s<dsz (Zp n)) (w0 w:World) (h:ES w0 w X c F) (hc:c.1.cnt<32768) :
    Calls Tryz.prog 112 #[.int .i64 n,.int .i64 (s:Nat),.pointer (some ⟨X.bb,0,none⟩),.pointer (some ⟨X.eb,0,none⟩),.pointer (some ⟨X.mb,0,none⟩)] w fun e w'=>e=.returned (.tuple #[])∧∃ F',ES w0 w' X (step Zv c (Zp n,s)) F'∧Fr F w F' w':=by
  have hok:=h.ok
  obtain ⟨⟨Fe,k,eF,hS,hR,hn1,hn2⟩,hne,hsh⟩:=h
  have hr:=hS.rest
  have hmb:w.heap[X.mb]?=some (ZJ X.m1 X.m2):=hS.sep.tail.tail.tail.head
  have hbb:w.heap[X.bb]?=some ZI:=hS.sep.tail.tail.tail.tail.head
  obtain ⟨c0,c1⟩:=Y9 hmb
  have c2:w.cell? ⟨X.bb,0,none⟩=some (.int .i64 0):=Za hbb 0 _ rfl
  have hp1:Ses w0 w (Yr k c.2 :: ZU X.m1 X.m2 k :: YI w0.heap.size X.eb Fe c.1 :: XD w0 w (blocks (Xm w0 X Fe k c)) :: [Zb X.mb (ZJ X.m1 X.m2),Zb X.bb ZI]):=Ses.es1 hr
  have FM:=ZgW n h0 h1 X.m1 X.m2 hne k c.2 w0 w _ hp1 hR (by omega)
  have H:=Qh (Qi hS (Qi hsh (Qi hs (Qi hc (Qi hne (Qi eF (Qi hn1 (Qi hn2 hok))))))))
  clear hS hsh hs hc hne eF hn1 hn2 hr hp1 hR hmb hbb hok
  go_enter Tryz.func112,Tryz.ntmps112
  go_wp2_with (first
    | (go_at_call 114
       refine FM.mono ?_
       rintro e w1 ⟨k',rfl,⟨hj,hR',k1,k2⟩,hs1⟩
       have hp2:Ses w0 w1 (YI w0.heap.size X.eb Fe c.1 :: Yr k' c.2 :: ZU X.m1 X.m2 k' :: XD w0 w (blocks (Xm w0 X Fe k c)) :: [Zb X.mb (ZJ X.m1 X.m2),Zb X.bb ZI]):=hs1.third'
       have FP:=hp2.kput (Zp n) s H.out.2.2.2.1 hj (by rw [H.out.2.1.len];exact H.out.2.2.1)
       have H1:=Qh (Qi hR' (Qi k1 (Qi k2 hj)))
       clear hs1 hp2 hR' k1 k2 hj FM)
    | (go_at_call 113
       refine FP.mono ?_
       rintro e w2 ⟨rfl,F2,hs2⟩
       have hb2:w2.heap[X.bb]?=some ZI:=hs2.sep.tail.tail.tail.tail.tail.head
       have d2:w2.cell? ⟨X.bb,0,none⟩=some (.int .i64 0):=Za hb2 0 _ rfl
       have d3:=Zd hb2 0
       have H2:=Qh (Qi hs2 hb2)
       clear hs2 hb2 FP))
  go_end0
  refine ⟨rfl,?_⟩
  obtain ⟨hS,hsh,hs,hc,hne,eF,hn1,hn2,hok⟩:=H.out
  obtain ⟨hR',k1,k2,hj⟩:=H1.out
  have hfit:Fit dsz (Zp n,s):=hs
  obtain ⟨ho1,ho2⟩:=hok.step (bit:=Zv) hfit
  have h3:=(H2.out.1.zero).fourth
  rw [eF]
  exact ES.next hS (X:=X) (c':=step Zv c (Zp n,s)) h3 (hR'.step hj _) (by rw [ho2];omega) (by rw [ho2];omega) hne ho1.shape
end
end Go.Proofs.YtlgcfimhfmgkmaaGreatDoor
namespace Go.Proofs.YtlgcfimhfmgkmaaGreatDoor
open Go.RowKit
section
open M (blen zig zag)
theorem ZmE (b k z i:Nat):∀ o,o∈Xr b k z i→o.1=b+1∨o.1=b+2:=by
 induction i with
 | zero=>intro o ho;exact absurd ho (by simp [Xr])
 | succ i ih=>
  intro o ho
  rcases List.mem_cons.1 ho with rfl | ho
  ·simp only [];split
   ·exact .inl rfl
   ·exact .inr rfl
  ·exact ih o ho
theorem Zg0 (b z:Nat):∀ o,o∈Xl b z→o.1=b∨o.1=b+1∨o.1=b+2:=by
 intro o ho
 rcases List.mem_cons.1 ho with rfl | ho
 ·exact .inl rfl
 ·exact .inr (ZmE _ _ _ _ o ho)
theorem Yx.steps {k:ZE} {bit:Nat→Nat} (l:List Op):∀ c:St × Bun,Yx k c.2→(∀ o,o∈l→o.1∈k.J)→Yx k (steps bit c l).2:=by
 induction l with
 | nil=>intro c h _;exact h
 | cons o l ih=>intro c h hl;exact ih _ (h.step (hl o (by simp)) _) (fun q hq=>hl q (by simp [hq]))
def Yh (n v:Int):List Op:=Xl (ZH n) (zig (XM v))
theorem QN (n v:Int):(∀ o,o∈Yh n v→Fit dsz o)∧(Yh n v).length≤65∧1≤(Yh n v).length:=ZlS (Zc0 n) (by have:=Zem v;simpa using this)
theorem Zg1 (X:EX) (c:St × Bun) (F:List Nat) (n v:Int) (h0:-3≤n) (h1:n≤1000) (v0:-9223372036854775808≤v) (v1:v≤9223372036854775807) (w0 w:World) (h:ES w0 w X c F) (hc:c.1.cnt+65≤32768) :
    Calls Tryz.prog 115 #[.int .i64 n,.int .i64 v,.pointer (some ⟨X.bb,0,none⟩),.pointer (some ⟨X.eb,0,none⟩),.pointer (some ⟨X.mb,0,none⟩)] w fun e w'=>e=.returned (.tuple #[])∧∃ F',ES w0 w' X (steps Zv c (Yh n v)) F'∧Fr F w F' w':=by
  have hok:=h.ok
  obtain ⟨⟨Fe,k,eF,hS,hR,hn1,hn2⟩,hne,hsh⟩:=h
  have hr:=hS.rest
  have hmb:w.heap[X.mb]?=some (ZJ X.m1 X.m2):=hS.sep.tail.tail.tail.head
  have hbb:w.heap[X.bb]?=some ZI:=hS.sep.tail.tail.tail.tail.head
  obtain ⟨c0,c1⟩:=Y9 hmb
  have c2:w.cell? ⟨X.bb,0,none⟩=some (.int .i64 0):=Za hbb 0 _ rfl
  have hp1:Ses w0 w (Yr k c.2 :: ZU X.m1 X.m2 k :: YI w0.heap.size X.eb Fe c.1 :: XD w0 w (blocks (Xm w0 X Fe k c)) :: [Zb X.mb (ZJ X.m1 X.m2),Zb X.bb ZI]):=Ses.es1 hr
  have FM:=ZgY n h0 h1 X.m1 X.m2 hne k c.2 w0 w _ hp1 hR (by omega)
  have H:=Qh (Qi hS (Qi hsh (Qi v0 (Qi hc (Qi hne (Qi eF (Qi hn1 (Qi hn2 (Qi hok v1)))))))))
  clear hS hsh hc hne eF hn1 hn2 hr hp1 hR hmb hbb hok v0 v1
  go_enter Tryz.func115,Tryz.ntmps115
  go_wp2_with (first
    | (go_at_call 117
       refine FM.mono ?_
       rintro e w1 ⟨k',nb,rfl,⟨hj,hR',k1,k2⟩,hs1⟩
       have hp2:Ses w0 w1 (YI w0.heap.size X.eb Fe c.1 :: Yr k' c.2 :: ZU X.m1 X.m2 k' :: XD w0 w (blocks (Xm w0 X Fe k c)) :: [Zb X.mb (ZJ X.m1 X.m2),Zb X.bb ZI]):=hs1.third'
       have Y5:KAt w1 k'.J k'.bm k'.g k'.nums c.2:=hp2.sep.tail.head
       have hJ:=(Y5.num _ hj).2
       have FP:=hp2.putInt nb v hj H.out.2.2.2.1 H.out.2.1 (Zc0 n) H.out.2.2.1 H.out.2.2.2.2.2.2.2.2.2
       have H1:=Qh (Qi hR' (Qi k1 (Qi k2 hJ)))
       clear hs1 hp2 hR' k1 k2 hj FM Y5 hJ)
    | (go_at_call 116
       refine FP.mono ?_
       rintro e w2 ⟨rfl,F2,hs2⟩
       have hb2:w2.heap[X.bb]?=some ZI:=hs2.sep.tail.tail.tail.tail.tail.head
       have d2:w2.cell? ⟨X.bb,0,none⟩=some (.int .i64 0):=Za hb2 0 _ rfl
       have d3:=Zd hb2 0
       have H2:=Qh (Qi hs2 hb2)
       clear hs2 hb2 FP))
  go_end0
  refine ⟨rfl,?_⟩
  obtain ⟨hS,hsh,v0,hc,hne,eF,hn1,hn2,hok,v1⟩:=H.out
  obtain ⟨hR',k1,k2,hJ⟩:=H1.out
  obtain ⟨f1,f2,f3⟩:=QN n v
  obtain ⟨ho1,ho2⟩:=hok.steps (bit:=Zv) f1
  have h3:=(H2.out.1.zero).fourth
  have hR2:Yx k' (steps Zv c (Yh n v)).2:=hR'.steps _ c (fun o ho=>by
    rcases Zg0 _ _ o ho with e | e | e<;>rw [e]
    · exact hJ.1
    · exact hJ.2.1
    · exact hJ.2.2)
  rw [eF]
  exact ES.next hS (X:=X) (c':=steps Zv c (Yh n v)) h3 hR2 (by rw [ho2];omega) (by rw [ho2];omega) hne ho1.shape
theorem ZmF {fn:Func} {p:Tmp} (h:fn.results=#[.cell p 192]) (tmps:Array Value) (w:World) (g:Nat) (cs:Array Value) (hn:cs.size=2)
  (hp:tmps.getD p undef=.pointer (some ⟨g,0,none⟩)) (hg:w.heap[g]?=some (.cells cs 192 (0,0))) :
  (results fn tmps).run Tryz.prog w=.ok (.agg cs) w:=by
 have hp':tmps[p]?.getD undef=.pointer (some ⟨g,0,none⟩):=by simpa using hp
 have hi:(Tryz.prog.info? 192).map (·.size)=some cs.size:=by rw [hn];kernel_rfl
 have hl:=run_loadVar_row (P:=Tryz.prog) w g 192 192 cs (0,0) _ hg Tryz.underlying192 rfl hi
 simp [results,h,hp',asAddr,hl]
def k0D:ZE:=⟨[],fun _=>0,fun _=>0,[],0,0,fun _=>0,fun _=>0⟩
theorem Zg2:Yx k0D ZT:=⟨fun _ _=>rfl,fun n _ _=>.inl ⟨rfl,by simp [k0D]⟩,fun n _ _=>.inl ⟨rfl,by simp [k0D],by simp [k0D],by simp [k0D]⟩⟩
theorem Zg3 (w0 w:World) (l:List Part) (h:Ses w0 w l) :
  Calls Tryz.prog 111 #[] w fun e w'=>∃ m1 m2,e=.returned (.agg #[.map (some m1),.map (some m2)])∧m1≠m2∧Ses w0 w' (Yr k0D ZT :: ZU m1 m2 k0D :: l):=by
 have hmm:=@run_makeMap Tryz.prog
 go_enter Tryz.func111,Tryz.ntmps111
 go_wp2_with fail
 have hg:=Zbp w (.cells #[.map (some (w.heap.size+1)),.map (some (w.heap.size+1+1))] 192 (0,0)) (.map #[] 0) (.map #[] 0)
 refine bodyPost_ret (ZmF rfl _ _ w.heap.size _ rfl rfl hg) rfl ?_
 refine ⟨_,_,rfl,by omega,?_⟩
 have hb:=Zab w (.cells #[.map (some (w.heap.size+1)),.map (some (w.heap.size+1+1))] 192 (0,0)) (.map #[] 0) (.map #[] 0)
 have e1:=Zbq w (.cells #[.map (some (w.heap.size+1)),.map (some (w.heap.size+1+1))] 192 (0,0)) (.map #[] 0) (.map #[] 0)
 have e2:=ZaQ w (.cells #[.map (some (w.heap.size+1)),.map (some (w.heap.size+1+1))] 192 (0,0)) (.map #[] 0) (.map #[] 0)
 have M1:Yd _ (w.heap.size+1) k0D.n1 k0D.t1:=Yd.start e1
 have M2:Yd _ (w.heap.size+1+1) k0D.n2 k0D.t2:=Yd.start e2
 have h1:=h.new hb (Zer M1 M2) (fun q hq=>by simp only [ZU,List.mem_cons,List.not_mem_nil,or_false] at hq;omega)
 have hk:KAt (((w.alloc (.cells #[.map (some (w.heap.size+1)),.map (some (w.heap.size+1+1))] 192 (0,0))).alloc (.map #[] 0)).alloc (.map #[] 0)) k0D.J k0D.bm k0D.g k0D.nums ZT:=⟨fun j hj=>by simp [k0D] at hj,fun i j hi=>by simp [k0D] at hi,fun p hp=>by simp [k0D] at hp⟩
 exact h1.new (Below.refl _ _) hk.part (fun q hq=>by simp [Yn,kF,k0D] at hq)
end
section
open M (blen zig zag)
def JF (o:Nat→List Op) (j:Nat):List Op:=(List.range j).flatMap o
theorem Zes (o:Nat→List Op) (j:Nat):JF o (j+1)=JF o j++o j:=by unfold JF;rw [List.range_succ,List.flatMap_append];simp
theorem ZmG {sz:Nat→Nat} {o:Nat→List Op} {N:Nat} (h:∀ j,j<N→∀ p,p∈o j→Fit sz p):∀ j,j≤N→∀ p,p∈JF o j→Fit sz p:=by
 intro j hj p hp
 unfold JF at hp
 obtain ⟨i,hi,hp⟩:=List.mem_flatMap.1 hp
 exact h i (by have:=List.mem_range.1 hi;omega) p hp
theorem Zet (n:Nat) (f:Nat→Nat) (a:Nat):Zx n f a≤1:=by unfold Zx;split<;>omega
theorem ZmH {l:List Bool} {n:Nat} {f:Nat→Nat} (hn:Zk l≤n) (hf:∀ i,i<Zk l→f i=M.byteOf l i):Zbn (Zx n f) l:=by
 intro k hk
 have h8:k / 8<Zk l:=by unfold Zk;omega
 unfold Zx
 rw [if_pos (by omega),hf _ h8,M.byteOf_bit]
theorem ZmI (n:Nat) (f:Nat→Nat):Num (Zx n f) (Z9 (Zx n f) 32):=⟨by simp [Z9,Jn,M.numOf],rfl⟩
theorem ZmJ (n:Nat) (f:Nat→Nat):Live (Z9 (Zx n f) 32):=Zgi (Yp 0 0 [] none n 0 f)
theorem ZmK (n:Nat) (f:Nat→Nat):core (Z9 (Zx n f) 32)=core st0:=rfl
def ZaR (n:Nat) (f:Nat→Nat) (fr:Bun) (o:Nat→List Op) (j:Nat):St × Bun:=steps (Zx n f) (Z9 (Zx n f) 32,fr) (JF o j)
def ZaS (fr:Bun) (o:Nat→List Op) (j:Nat):St × Bun:=steps Zv (st0,fr) (JF o j)
theorem ZmL (n:Nat) (f:Nat→Nat) (fr:Bun) (o:Nat→List Op) (j:Nat):core (ZaR n f fr o j).1=core (ZaS fr o j).1∧(ZaR n f fr o j).2=(ZaS fr o j).2:=ZlQ _ _ _ (ZmK n f) rfl
theorem ZmM {sz:Nat→Nat} {fr:Bun} (hs:Shape sz fr) {o:Nat→List Op} {N n:Nat} {f:Nat→Nat} (hf:∀ j,j<N→∀ p,p∈o j→Fit sz p) (hb:Zbn (Zx n f) (YA (ZaS fr o N).1)) :
  ∀ j,j≤N→DOk (Zx n f) sz (ZaR n f fr o j)∧(j<N→Reads (Zx n f) (ZaR n f fr o j) (o j)):=by
 have hfit:=ZmG hf
 have hfin:Ok sz (ZaS fr o N):=(Ok.steps (c:=(st0,fr)) (bit:=Zv) ⟨ZbZ,hs⟩ (hfit N (Nat.le_refl _))).1
 have hin:Inside (Zx n f) (ZaR n f fr o N).1:=(ZlK (ZmL n f fr o N).1).2 (ZlN (Zet n f) hfin.live hb)
 have key:∀ r j,j+r=N→DOk (Zx n f) sz (ZaR n f fr o j)∧(j<N→Reads (Zx n f) (ZaR n f fr o j) (o j)):=by
  have hrd:=(ZlP (Zet n f) (JF o N) (Z9 (Zx n f) 32,fr) ⟨ZmJ n f,hs⟩ (ZmI n f) (hfit N (Nat.le_refl _)) hin)
  have pre:∀ j,j≤N→Reads (Zx n f) (Z9 (Zx n f) 32,fr) (JF o j):=by
   intro j hj
   obtain ⟨r,rfl⟩:∃ r,N=j+r:=⟨N-j,by omega⟩
   clear hj
   have h:=hrd.2
   clear hrd hin hfin hfit hb hf
   induction r with
   | zero=>exact h
   | succ r ih=>rw [←Nat.add_assoc,Zes] at h;exact ih ((Zef _ _ _).1 h).1
  intro r j hj
  refine ⟨(DOk.steps (Zet n f) _ _ hrd.1 (pre j (by omega))).1,fun hlt=>?_⟩
  have:=pre (j+1) (by omega)
  rw [Zes] at this
  exact ((Zef _ _ _).1 this).2
 intro j hj
 exact key (N-j) j (by omega)
def made (s:St):Nat:=s.out.length+s.dl
def wide (s:St):Nat:=s.hi-s.lo+1
theorem ZmN {b:Nat→Nat} (k:Nat):∀ s,Good s→∃ m,made (Yo b k s)=made s+m∧wide (Yo b k s)=wide s*2 ^ m:=by
 induction k with
 | zero=>intro s _;exact ⟨0,rfl,by simp [Yo]⟩
 | succ k ih=>
  intro s hg
  rcases hp:pick s with _|⟨x,o,d⟩
  ·rw [J2 hp];exact ⟨0,rfl,by simp⟩
  ·rw [J3 hp]
   obtain ⟨g1,g2,_⟩:=ZbY (bit:=b) hp hg
   obtain ⟨m,e1,e2⟩:=ih _ g1
   obtain ⟨_,_,q3,_⟩:=ZaK hp hg.le hg.hi
   refine ⟨m+1,?_,?_⟩
   ·rw [e1];unfold made;simp only [shift];omega
   ·rw [e2,Nat.pow_succ]
    have g2':wide (shift b s x o d)=2*wide s:=g2
    rw [g2',Nat.mul_comm (2 ^ m) 2,←Nat.mul_assoc,Nat.mul_comm (wide s) 2]
theorem ZmO {fr:List Nat} {i:Nat} {s:St} (hl:Live s) (hf:XL fr) (hi:i<fr.length):wide s*131071≤wide (narrow fr i s)*1073741824:=by
 obtain ⟨p1,p2,p3⟩:=Zbl hl.none
 have hh:=hl.good.hi
 have h0:=hf.sum
 obtain ⟨c1,c2,_,_⟩:=ZcH (s.hi-s.lo+1) ((fr.take i).sum) (fr.getD i 0) fr.sum (by omega) (by omega) (J4 hf.one hi) (Jk hi) hf.tot
 have e1:=Zgd ((s.hi-s.lo+1)*(fr.take i).sum) (s.hi-s.lo+1) fr.sum h0
 have e2:((s.hi-s.lo+1)*(fr.take i).sum+(s.hi-s.lo+1)) / fr.sum≤(s.hi-s.lo+1)*((fr.take i).sum+fr.getD i 0) / fr.sum:=by
  refine Nat.div_le_div_right ?_
  rw [Nat.mul_add]
  have:=Nat.mul_le_mul_left (s.hi-s.lo+1) (J4 hf.one hi)
  omega
 have e3:(s.hi-s.lo+1) / 8192≤(s.hi-s.lo+1) / fr.sum:=Nat.div_le_div_left hf.tot h0
 have hw:wide (narrow fr i s)=(s.lo+(s.hi-s.lo+1)*((fr.take i).sum+fr.getD i 0) / fr.sum-1)-(s.lo+(s.hi-s.lo+1)*(fr.take i).sum / fr.sum)+1:=rfl
 have hw0:wide s=s.hi-s.lo+1:=rfl
 rw [hw,hw0]
 generalize (s.hi-s.lo+1)*(fr.take i).sum / fr.sum=qa at *
 generalize (s.hi-s.lo+1)*((fr.take i).sum+fr.getD i 0) / fr.sum=qb at *
 generalize ((s.hi-s.lo+1)*(fr.take i).sum+(s.hi-s.lo+1)) / fr.sum=qc at *
 generalize (s.hi-s.lo+1) / fr.sum=qd at *
 omega
theorem ZmP {b:Nat→Nat} {fr:List Nat} {i:Nat} {s:St} (hl:Live s) (hf:XL fr) (hi:i<fr.length):∃ m,made (YH b fr i s)=made s+m∧2 ^ m*(wide s*131071)≤wide (YH b fr i s)*1073741824:=by
 obtain ⟨g,_⟩:=J6 hl.good hl.none hf.one hf.tot hi
 obtain ⟨m,e1,e2⟩:=ZmN (b:=b) 16 _ g
 have hn:=ZmO hl hf hi
 refine ⟨m,e1,?_⟩
 have e3:wide (YH b fr i s)=wide (narrow fr i s)*2 ^ m:=e2
 rw [e3,Nat.mul_right_comm,Nat.mul_comm (2 ^ m)]
 exact Nat.mul_le_mul_right _ hn
theorem ZmQ {b:Nat→Nat} {sz:Nat→Nat} (l:List Op):∀ c,Ok sz c→(∀ o,o∈l→Fit sz o)→∃ m,made (steps b c l).1=made c.1+m∧2 ^ m*(wide c.1*131071 ^ l.length)≤wide (steps b c l).1*1073741824 ^ l.length:=by
  induction l with
  | nil=>intro c _ _;exact ⟨0,rfl,by simp [steps]⟩
  | cons o l ih=>
    intro c h hl
    have ho:=hl o (by simp)
    obtain ⟨m1,a1,a2⟩:=ZmP (b:=b) h.live (h.shape.fine o.1) (i:=o.2) (by rw [h.shape.len];exact ho)
    obtain ⟨m2,b1,b2⟩:=ih _ (h.step (bit:=b) ho).1 (fun q hq=>hl q (by simp [hq]))
    have e:steps b c (o :: l)=steps b (step b c o) l:=rfl
    have a1':made (step b c o).1=made c.1+m1:=a1
    have a2':2 ^ m1*(wide c.1*131071)≤wide (step b c o).1*1073741824:=a2
    rw [e]
    refine ⟨m1+m2,by rw [b1,a1',Nat.add_assoc],?_⟩
    rw [List.length_cons,Nat.pow_succ,Nat.pow_succ]
    calc 2 ^ (m1+m2)*(wide c.1*(131071 ^ l.length*131071))=2 ^ m2*(131071 ^ l.length*(2 ^ m1*(wide c.1*131071))):=by
          rw [Nat.pow_add];simp only [Nat.mul_comm,Nat.mul_left_comm,Nat.mul_assoc]
      _≤2 ^ m2*(131071 ^ l.length*(wide (step b c o).1*1073741824)):=Nat.mul_le_mul_left _ (Nat.mul_le_mul_left _ a2')
      _=(2 ^ m2*(wide (step b c o).1*131071 ^ l.length))*1073741824:=by simp only [Nat.mul_comm,Nat.mul_left_comm]
      _≤(wide (steps b (step b c o) l).1*1073741824 ^ l.length)*1073741824:=Nat.mul_le_mul_right _ b2
      _=wide (steps b (step b c o) l).1*(1073741824 ^ l.length*1073741824):=Nat.mul_assoc _ _ _
theorem ZmR (n:Nat) (h:n≤65536):131072 ^ n*(131072-n)≤131071 ^ n*131072:=by
  induction n with
  | zero=>simp
  | succ n ih=>
    have ih':=ih (by omega)
    rw [Nat.pow_succ,Nat.pow_succ]
    have e:131072*(131072-(n+1))≤131071*(131072-n):=by omega
    calc 131072 ^ n*131072*(131072-(n+1))=131072 ^ n*(131072*(131072-(n+1))):=Nat.mul_assoc _ _ _
      _≤131072 ^ n*(131071*(131072-n)):=Nat.mul_le_mul_left _ e
      _=(131072 ^ n*(131072-n))*131071:=by rw [Nat.mul_comm 131071,←Nat.mul_assoc]
      _≤(131071 ^ n*131072)*131071:=Nat.mul_le_mul_right _ ih'
      _=131071 ^ n*131071*131072:=by rw [Nat.mul_right_comm]
theorem Zg4 {b:Nat→Nat} {sz:Nat→Nat} {l:List Op} {c:St × Bun} (h:Ok sz c) (hl:∀ o,o∈l→Fit sz o) (hn:l.length≤65536):made (steps b c l).1≤made c.1+13*l.length+3:=by
 obtain ⟨m,e1,e2⟩:=ZmQ (b:=b) l c h hl
 have hok:=(h.steps (bit:=b) hl).1
 obtain ⟨p1,p2,p3⟩:=Zbl h.live.none
 have hw:1073741824≤wide c.1:=by unfold wide;omega
 have hw2:wide (steps b c l).1≤4294967296:=by have:=hok.live.good.hi;unfold wide;omega
 have hB:=ZmR l.length hn
 generalize l.length=n at *
 have hB2:131072 ^ n≤131071 ^ n*2:=by
  have h1:131072 ^ n*65536≤131072 ^ n*(131072-n):=Nat.mul_le_mul_left _ (by omega)
  have h2:131072 ^ n*65536≤(131071 ^ n*2)*65536:=by
   rw [Nat.mul_assoc];exact Nat.le_trans h1 hB
  exact Nat.le_of_mul_le_mul_right h2 (by decide)
 have h3:2 ^ m*(1073741824*131072 ^ n)≤2 ^ m*(wide c.1*131071 ^ n)*2:=by
  rw [Nat.mul_assoc]
  refine Nat.mul_le_mul_left _ ?_
  rw [Nat.mul_assoc]
  exact Nat.mul_le_mul hw hB2
 have h4:2 ^ m*(1073741824*131072 ^ n)≤4294967296*1073741824 ^ n*2:=
  Nat.le_trans h3 (Nat.mul_le_mul_right _ (Nat.le_trans e2 (Nat.mul_le_mul_right _ hw2)))
 rw [e1]
 have q1:2 ^ m*(1073741824*131072 ^ n)=2 ^ (m+(30+17*n)):=by
  rw [show (131072:Nat)=2 ^ 17 from rfl,show (1073741824:Nat)=2 ^ 30 from rfl,←Nat.pow_mul,←Nat.pow_add,←Nat.pow_add]
 have q2:4294967296*1073741824 ^ n*2=2 ^ (32+30*n+1):=by
  rw [show (4294967296:Nat)=2 ^ 32 from rfl,show (1073741824:Nat)=2 ^ 30 from rfl,←Nat.pow_mul,←Nat.pow_add,←Nat.pow_succ]
 rw [q1,q2] at h4
 have:=(Nat.pow_le_pow_iff_right (by decide)).1 h4
 omega
end
end Go.Proofs.YtlgcfimhfmgkmaaGreatDoor
