/- Lemmas for the statement. -/
import Derived.Test.YtlgcfimhfmgkmaaGreatDoorMAD
import Derived.Laws.BytesArg
import Derived.Lib.Bytes
set_option linter.unusedVariables false
set_option linter.unusedSimpArgs false
namespace Go.Proofs.YtlgcfimhfmgkmaaGreatDoor
open Go.RowKit
section
def ZaM (n:Nat) (f:Nat→Nat):ByteArray:=strOfNums ((List.range n).map fun i=>((f i:Nat):Int))
def Zbm (n:Nat) (f:Nat→Nat):List UInt8:=(List.range n).map fun i=>UInt8.ofNat (f i)
theorem Zgr (n:Nat) (f:Nat→Nat):(ZaM n f).toList=Zbm n f:=by
 unfold ZaM Zbm
 rw [Lib.strOfNums_toList]
 unfold Lib.bytesOf
 rw [List.map_map]
 rfl
theorem Zgs {X:Box} {F:List Nat} {s:St} {sh:Nat} (w:World) (h:COk X w F s sh) (h9:X.x9=some (.bool true)) :
  Calls Tryz.prog 176 #[.pointer (some ⟨X.bw,0,none⟩)] w fun e w'=>e=.returned (.bool true)∧w=w':=by
 have c9:w.cell? ⟨X.bw,9,none⟩=some (.bool true):=by
  obtain ⟨cs,h⟩:=h
  exact (h.cell 9).trans (h.c9.trans h9)
 clear h h9
 go_enter Tryz.func176,Tryz.ntmps176
 go_wp2_with fail
 go_ret
 exact ⟨rfl,rfl⟩
theorem Zlz {X:Box} {F:List Nat} {st:St} {bm g:Nat} {fr:List Nat} (w:World) (h:EOk X w F st) (h9:X.x9=some (.bool true)) (hiv:Yq st) (hc:st.cnt<32768) (hm:MOk w bm g fr) (hF:bm∉F∧g∉F) (hG:bm∉X.G∧g∉X.G) :
  Calls Tryz.prog 125 #[.pointer (some ⟨X.bw,0,none⟩),.pointer (some ⟨bm,0,none⟩)] w fun e w'=>e=.returned (.tuple #[.int .i64 (Yu fr st:Nat),.int .i64 0])∧∃ F',EOk X w' F' (YH X.bit fr (Yu fr st) st)∧Yq (YH X.bit fr (Yu fr st) st)∧MOk w' bm g (learn fr (Yu fr st))∧Fr (F++[bm,g]) w (F'++[bm,g]) w':=by
 obtain ⟨_,_,_,k3,_⟩:=h.c.cells
 have hs:=Zgn w h hiv hc hm hF hG
 have ht:=Zgs w h.c h9
 have hth:=Zbj w hm
 have d1:decide ((32768:Int)≤(st.cnt:Nat))=false:=decide_eq_false (by omega)
 have H:=Qh (Qi hs (Qi ht hth))
 clear h hm hs ht hth hiv h9
 go_enter Tryz.func125,Tryz.ntmps125
 go_wp2_with fail
 refine H.out.2.1.mono ?_
 rintro e w' ⟨rfl,rfl⟩
 go_wp2_with fail
 refine H.out.2.2.mono ?_
 rintro e w' ⟨rfl,rfl⟩
 go_wp2_with fail
 refine H.out.1.mono ?_
 rintro e w' ⟨rfl,hq⟩
 have HQ:=Qh hq;clear hq
 go_wp2_with fail
 go_ret2
 exact ⟨rfl,HQ.out⟩
end
section
def NOk (w:World) (nb b0 b1 b2:Nat):Prop:=w.heap[nb]?=some (.cells #[.pointer (some ⟨b0,0,none⟩),.pointer (some ⟨b1,0,none⟩),.pointer (some ⟨b2,0,none⟩)] 261 (0,0))
theorem ZlA (w:World) :
  Calls Tryz.prog 171 #[] w fun e w'=>∃ nb b0 g0 b1 g1 b2 g2,e=.returned (.pointer (some ⟨nb,0,none⟩))∧NOk w' nb b0 b1 b2∧MOk w' b0 g0 (List.replicate 65 1)∧MOk w' b1 g1 (List.replicate 2 1)∧MOk w' b2 g2 (List.replicate 2 1) ∧
   [b0,g0,b1,g1,b2,g2,nb].Nodup∧(∀ q,q∈[b0,g0,b1,g1,b2,g2,nb]→w.heap.size≤q)∧Below w.heap.size w w':=by
 go_enter Tryz.func171,Tryz.ntmps171
 go_wp2_with fail
 refine (ZcF 65 w (by decide) (by decide)).mono ?_
 rintro e w1 ⟨b0,g0,rfl,h0,p0,q0,hb0⟩
 have H0:=Qh (Qi h0 (Qi p0 (Qi q0 hb0)));clear h0 p0 q0 hb0
 go_wp2_with fail
 refine (ZcF 2 w1 (by decide) (by decide)).mono ?_
 rintro e w2 ⟨b1,g1,rfl,h1,p1,q1,hb1⟩
 have H1:=Qh (Qi h1 (Qi p1 (Qi q1 hb1)));clear h1 p1 q1 hb1
 go_wp2_with fail
 refine (ZcF 2 w2 (by decide) (by decide)).mono ?_
 rintro e w3 ⟨b2,g2,rfl,h2,p2,q2,hb2⟩
 have H2:=Qh (Qi h2 (Qi p2 (Qi q2 hb2)));clear h2 p2 q2 hb2
 go_wp2_with fail
 go_ret
 obtain ⟨h0,p0,q0,hb0⟩:=H0.out
 obtain ⟨h1,p1,q1,hb1⟩:=H1.out
 obtain ⟨h2,p2,q2,hb2⟩:=H2.out
 have l0:=lt_of_block h0.blk
 have l0':=lt_of_block h0.row
 have l1:=lt_of_block h1.blk
 have l1':=lt_of_block h1.row
 have l2:=lt_of_block h2.blk
 have l2':=lt_of_block h2.row
 have n0:=h0.ne
 have n1:=h1.ne
 have n2:=h2.ne
 have s0:=hb0.size
 have s1:=hb1.size
 have s2:=hb2.size
 have hb3:Below w3.heap.size w3 (w3.alloc (.cells #[.pointer (some ⟨b0,0,none⟩),.pointer (some ⟨b1,0,none⟩),.pointer (some ⟨b2,0,none⟩)] 261)):=(Below.refl _ _).alloc (Nat.le_refl _) _
 refine ⟨w3.heap.size,b0,g0,b1,g1,b2,g2,rfl,heap_alloc_new w3 _,((h0.below hb1).below hb2).below hb3,(h1.below hb2).below hb3,h2.below hb3,?_,?_,Ze (Ze (Ze hb0 hb1) hb2) hb3⟩
 ·simp only [List.nodup_cons,List.mem_cons,List.not_mem_nil,or_false,not_or,List.nodup_nil,and_true,not_false_eq_true]
  omega
 ·intro q hq
  simp only [List.mem_cons,List.not_mem_nil,or_false] at hq
  omega
theorem Zgt {nb b0 b1 b2 g0:Nat} {fr:List Nat} (w:World) (h:NOk w nb b0 b1 b2) (hm:MOk w b0 g0 fr) :
  Calls Tryz.prog 169 #[.pointer (some ⟨nb,0,none⟩)] w fun e w'=>e=.returned (.bool true)∧w=w':=by
 have c0:=(cell_of_block h 0).trans rfl
 have ht:=Zbj w hm
 have H:=Qh ht
 clear h hm ht
 go_enter Tryz.func169,Tryz.ntmps169
 go_wp2_with fail
 refine H.out.mono ?_
 rintro e w' ⟨rfl,rfl⟩
 go_wp2_with fail
 go_ret
 exact ⟨rfl,rfl⟩
theorem Tq87 {p:Prop} (h:p:=by
 clear hq
 go_enter Tryz.func170,Tryz.ntmps170
 go_wp2_with fail
 go_ret
 exact ⟨rfl,rfl⟩):p:=h
theorem ZlB {nb b0 b1 b2:Nat} (k below:Nat) (w:World) (h:NOk w nb b0 b1 b2) (hk:k≤64) (hb:below+2≤k) :
  Calls Tryz.prog 170 #[.pointer (some ⟨nb,0,none⟩),.int .i64 (k:Nat),.int .i64 (below:Nat)] w fun e w'=>e=.returned (.pointer (some ⟨if below+2=k then b1 else b2,0,none⟩))∧w=w':=by
 have c1:=(cell_of_block h 1).trans rfl
 have c2:=(cell_of_block h 2).trans rfl
 clear h
 by_cases hq:below+2=k
 ·rw [if_pos hq]
  have hd:((below:Int)==(k:Int)-2)=true:=by rw [beq_iff_eq];omega
  exact Tq87
 ·rw [if_neg hq]
  have hd:((below:Int)==(k:Int)-2)=false:=by rw [beq_eq_false_iff_ne];omega
  exact Tq87
end
section
structure Part where
 F:List Nat
 P:World→Prop
structure Part.ok (p:Part) (w:World):Prop where
 now:p.P w
 lt:∀ q,q∈p.F→q<w.heap.size
 same:∀ w',(∀ q,q∈p.F→w'.heap[q]?=w.heap[q]?)→w.heap.size≤w'.heap.size→p.P w'
theorem Part.ok.keep {p:Part} {w w':World} (h:p.ok w) (hs:∀ q,q∈p.F→w'.heap[q]?=w.heap[q]?) (hz:w.heap.size≤w'.heap.size):p.ok w':=
 ⟨h.same w' hs hz,fun q hq=>Nat.lt_of_lt_of_le (h.lt q hq) hz,fun w2 h2 z2=>h.same w2 (fun q hq=>(h2 q hq).trans (hs q hq)) (Nat.le_trans hz z2)⟩
def Apart (p r:Part):Prop:=∀ q,q∈p.F→q∉r.F
theorem Apart.symm {p r:Part} (h:Apart p r):Apart r p:=fun q h1 h2=>h q h2 h1
def Sep (w:World) (l:List Part):Prop:=(∀ p,p∈l→p.ok w)∧l.Pairwise Apart
theorem Sep.nil (w:World):Sep w []:=⟨fun _ h=>absurd h (by simp),List.Pairwise.nil⟩
theorem Sep.perm {w:World} {l m:List Part} (h:Sep w l) (hp:l.Perm m):Sep w m:=
 ⟨fun p hm=>h.1 p (hp.mem_iff.2 hm),(hp.pairwise_iff (fun h=>Apart.symm h)).1 h.2⟩
theorem Sep.below {w w':World} {l:List Part} (h:Sep w l) (hb:Below w.heap.size w w'):Sep w' l:=
 ⟨fun p hp=>(h.1 p hp).keep (fun q hq=>hb.block q ((h.1 p hp).lt q hq)) hb.size,h.2⟩
theorem Sep.new {w w':World} {l:List Part} {p:Part} (h:Sep w l) (hb:Below w.heap.size w w') (hp:p.ok w') (hf:∀ q,q∈p.F→w.heap.size≤q):Sep w' (p :: l):=by
 refine ⟨?_,List.pairwise_cons.2 ⟨fun r hr q h1 h2=>?_,h.2⟩⟩
 ·intro r hr
  rcases List.mem_cons.1 hr with rfl | hr
  ·exact hp
  ·exact (h.below hb).1 r hr
 ·have:=hf q h1
  have:=(h.1 r hr).lt q h2
  omega
theorem Sep.head {w:World} {l:List Part} {p:Part} (h:Sep w (p :: l)):p.P w:=(h.1 p (by simp)).now
theorem Sep.tail {w:World} {l:List Part} {p:Part} (h:Sep w (p :: l)):Sep w l:=⟨fun r hr=>h.1 r (by simp [hr]),(List.pairwise_cons.1 h.2).2⟩
theorem Tq76 {p:Prop} (h:p:=by
 rcases List.mem_cons.1 hs with rfl | hs
 ·exact hr
 ·have hso:=h.1 s (by simp [hs])
  exact hso.keep (fun q hq=>fr.block q (hso.lt q hq) (fun e=>hap s hs q e hq)) fr.size):p:=h
theorem Sep.step {w w':World} {l:List Part} {p r:Part} (h:Sep w (p :: l)) (fr:Fr p.F w r.F w') (hr:r.ok w'):Sep w' (r :: l):=by
 have hap:=(List.pairwise_cons.1 h.2).1
 refine ⟨?_,List.pairwise_cons.2 ⟨fun s hs q h1 h2=>?_,(List.pairwise_cons.1 h.2).2⟩⟩
 ·intro s hs
  exact Tq76
 ·have hso:=h.1 s (by simp [hs])
  exact fr.apart (H:=s.F) (fun q hq e=>hap s hs q e hq) hso.lt q h2 h1
def Part.and (p r:Part):Part:=⟨p.F++r.F,fun w=>p.P w∧r.P w⟩
theorem Sep.join {w:World} {l:List Part} {p r:Part} (h:Sep w (p :: r :: l)):Sep w (p.and r :: l):=by
 have h1:=List.pairwise_cons.1 h.2
 have h2:=List.pairwise_cons.1 h1.2
 have hp:=h.1 p (by simp)
 have hr:=h.1 r (by simp)
 refine ⟨?_,List.pairwise_cons.2 ⟨fun s hs q h3 h4=>?_,h2.2⟩⟩
 ·intro s hs
  rcases List.mem_cons.1 hs with rfl | hs
  ·refine ⟨⟨hp.now,hr.now⟩,fun q hq=>?_,fun w' hw hz=>⟨hp.same w' (fun q hq=>hw q (List.mem_append_left _ hq)) hz,hr.same w' (fun q hq=>hw q (List.mem_append_right _ hq)) hz⟩⟩
   rcases List.mem_append.1 hq with hq | hq
   ·exact hp.lt q hq
   ·exact hr.lt q hq
  ·exact h.1 s (by simp [hs])
 ·rcases List.mem_append.1 h3 with h3 | h3
  ·exact h1.1 s (by simp [hs]) q h3 h4
  ·exact h2.1 s hs q h3 h4
theorem Sep.step2 {w w':World} {l:List Part} {p r p' r':Part} (h:Sep w (p :: r :: l)) (fr:Fr (p.F++r.F) w (p'.F++r'.F) w') (hp:p'.ok w') (hr:r'.ok w') (ha:Apart p' r'):Sep w' (p' :: r' :: l):=by
 have hj:=h.join
 have hap:=(List.pairwise_cons.1 hj.2).1
 have hl:=(List.pairwise_cons.1 hj.2).2
 have far:∀ s,s∈l→∀ q,q∈s.F→q∉p'.F++r'.F:=fun s hs=>fr.apart (H:=s.F) (fun q hq e=>hap s hs q e hq) (h.1 s (by simp [hs])).lt
 refine ⟨?_,List.pairwise_cons.2 ⟨?_,List.pairwise_cons.2 ⟨?_,hl⟩⟩⟩
 ·intro s hs
  rcases List.mem_cons.1 hs with rfl | hs
  ·exact hp
  exact Tq76
 ·intro s hs q h1 h2
  rcases List.mem_cons.1 hs with rfl | hs
  ·exact ha q h1 h2
  ·exact far s hs q h2 (List.mem_append_left _ h1)
 ·intro s hs q h1 h2
  exact far s hs q h2 (List.mem_append_right _ h1)
theorem COk.types {X:Box} {w:World} {F:List Nat} {s:St} {sh:Nat} (h:COk X w F s sh) {q:Nat} (hq:q∈F):∃ cs t,w.heap[q]?=some (.cells cs t (0,0))∧(t=X.T∨t=5):=by
 obtain ⟨cs,h⟩:=h
 obtain ⟨v,hw,hF,_⟩:=h.wok
 rw [hF] at hq
 rcases List.mem_cons.1 hq with rfl | hq
 ·exact ⟨_,_,hw.blk,Or.inl rfl⟩
 ·rcases hw.own.2 with ⟨hv,_⟩|⟨g,cap,cur,hv,_,hh,_⟩
  ·rw [hv] at hq;simp [Value.ownBlock] at hq
  ·rw [hv] at hq
   simp [Value.ownBlock] at hq
   subst hq
   exact ⟨_,_,hh,Or.inr rfl⟩
theorem J8 {X:Box} {w:World} {F:List Nat} {s:St} {sh bm g:Nat} {fr:List Nat} (h:COk X w F s sh) (hm:MOk w bm g fr) (hT:X.T≠290∧X.T≠3):bm∉F∧g∉F:=by
 constructor
 ·intro hq
  obtain ⟨cs,t,h1,h2⟩:=h.types hq
  rw [hm.blk] at h1
  injection h1 with h1
  injection h1 with _ h1
  rcases h2 with h2 | h2
  ·exact hT.1 (h2.symm.trans h1.symm)
  ·exact absurd (h1.trans h2) (by decide)
 ·intro hq
  obtain ⟨cs,t,h1,h2⟩:=h.types hq
  rw [hm.row] at h1
  injection h1 with h1
  injection h1 with _ h1
  rcases h2 with h2 | h2
  ·exact hT.2 (h2.symm.trans h1.symm)
  ·exact absurd (h1.trans h2) (by decide)
def Yc (bm g:Nat) (fr:List Nat):Part:=⟨[bm,g],fun w=>MOk w bm g fr⟩
theorem MOk.part {w:World} {bm g:Nat} {fr:List Nat} (h:MOk w bm g fr):(Yc bm g fr).ok w:=by
 refine ⟨h,?_,fun w' hs _=>h.same (hs bm (by simp [Yc])) (hs g (by simp [Yc]))⟩
 intro q hq
 simp [Yc] at hq
 rcases hq with rfl|rfl
 ·exact lt_of_block h.blk
 ·exact lt_of_block h.row
def YI (B bw:Nat) (F:List Nat) (s:St):Part:=⟨F,fun w=>EOk (Xc B bw) w F s⟩
theorem EOk.part {w:World} {B bw:Nat} {F:List Nat} {s:St} (h:EOk (Xc B bw) w F s):(YI B bw F s).ok w:=by
 refine ⟨h,h.c.lt,fun w' hs hz=>⟨?_,h.live,Nat.le_trans h.base hz⟩⟩
 obtain ⟨cs,hc⟩:=h.c
 refine ⟨cs,hc.same (fun q hq=>?_) hz⟩
 rcases hq with hq | hq
 ·exact hs q hq
 ·exact absurd hq (by simp [Xc])
theorem ZcI (B bw:Nat):(Xc B bw).T≠290∧(Xc B bw).T≠3:=⟨fun e=>absurd (show (188:Nat)=290 from e) (by decide),fun e=>absurd (show (188:Nat)=3 from e) (by decide)⟩
end
section
structure Ses (w0 w:World) (l:List Part):Prop where
 sep:Sep w l
 base:∀ p,p∈l→∀ q,q∈p.F→w0.heap.size≤q
 bel:Below w0.heap.size w0 w
theorem Ses.start (w:World):Ses w w []:=⟨Sep.nil w,fun _ h=>absurd h (by simp),Below.refl _ _⟩
theorem Ses.perm {w0 w:World} {l m:List Part} (h:Ses w0 w l) (hp:l.Perm m):Ses w0 w m:=⟨h.sep.perm hp,fun p hm=>h.base p (hp.mem_iff.2 hm),h.bel⟩
theorem Ses.below {w0 w w':World} {l:List Part} (h:Ses w0 w l) (hb:Below w.heap.size w w'):Ses w0 w' l:=⟨h.sep.below hb,h.base,Ze h.bel hb⟩
theorem Ses.drewN {w0 w:World} {l:List Part} (h:Ses w0 w l) (n:Nat):Ses w0 (w.drewN n) l:=h.below (YW (Below.refl _ _) n)
theorem Ses.new {w0 w w':World} {l:List Part} {p:Part} (h:Ses w0 w l) (hb:Below w.heap.size w w') (hp:p.ok w') (hf:∀ q,q∈p.F→w.heap.size≤q):Ses w0 w' (p :: l):=by
 refine ⟨h.sep.new hb hp hf,?_,Ze h.bel hb⟩
 intro r hr q hq
 rcases List.mem_cons.1 hr with rfl | hr
 ·exact Nat.le_trans h.bel.size (hf q hq)
 ·exact h.base r hr q hq
theorem Ses.tail {w0 w:World} {l:List Part} {p:Part} (h:Ses w0 w (p :: l)):Ses w0 w l:=⟨h.sep.tail,fun r hr=>h.base r (by simp [hr]),h.bel⟩
theorem Ses.step2 {w0 w w':World} {l:List Part} {p r p' r':Part} (h:Ses w0 w (p :: r :: l)) (fr:Fr (p.F++r.F) w (p'.F++r'.F) w') (hp:p'.ok w') (hr:r'.ok w') (ha:Apart p' r'):Ses w0 w' (p' :: r' :: l):=by
 have hb:∀ q,q∈p.F++r.F→w0.heap.size≤q:=by
  intro q hq
  rcases List.mem_append.1 hq with hq | hq
  ·exact h.base p (by simp) q hq
  ·exact h.base r (by simp) q hq
 refine ⟨h.sep.step2 fr hp hr ha,?_,ZbU h.bel fr hb⟩
 have hn:=fr.base h.bel.size hb
 intro s hs q hq
 rcases List.mem_cons.1 hs with rfl | hs
 ·exact hn q (List.mem_append_left _ hq)
 rcases List.mem_cons.1 hs with rfl | hs
 ·exact hn q (List.mem_append_right _ hq)
 ·exact h.base s (by simp [hs]) q hq
def Zv:Nat→Nat:=fun _=>0
theorem Zgu (B bw:Nat):(Xc B bw).bit=Zv:=by
 funext a
 unfold Box.bit
 rw [if_neg (by simp [Xc])];rfl
section
variable {w0 w:World} {l:List Part}
theorem Ses.model (n:Nat) (h:Ses w0 w l) (h1:1≤n) (h2:n≤256) :
  Calls Tryz.prog 168 #[.int .i64 (n:Int)] w fun e w'=>∃ bm g,e=.returned (.tuple #[.pointer (some ⟨bm,0,none⟩),.int .i64 0])∧Ses w0 w' (Yc bm g (List.replicate n 1) :: l):=by
 refine (ZcF n w h1 h2).mono ?_
 rintro e w' ⟨bm,g,rfl,hm,p,q,hb⟩
 refine ⟨bm,g,rfl,h.new hb hm.part ?_⟩
 intro q hq
 simp [Yc] at hq
 rcases hq with rfl|rfl<;>assumption
theorem Ses.enc (h:Ses w0 w l):Ses w0 (w.alloc (.cells #[.int .u64 0,.int .u64 0,.int .i64 0,.int .i64 0,.slice none 0 0,.int .i64 0,.int .u64 0,.slice none 0 0,.int .i64 0] 188)) (YI w0.heap.size w.heap.size [w.heap.size] st0 :: l):=by
 refine h.new ((Below.refl _ _).alloc (Nat.le_refl _) _) (EOk.part ⟨Zlq w w0.heap.size h.bel.size,ZbZ,?_⟩) ?_
 ·show w0.heap.size≤_
  have:=h.bel.size
  simp;omega
 ·intro q hq
  simp [YI] at hq
  omega
theorem Ses.bytes {bw:Nat} {F:List Nat} {s:St} (n:Nat) (h:Ses w0 w (YI w0.heap.size bw F s :: l)) (hc:s.cnt≤32768) (hn:Zk (YA s)=n) :
  Calls Tryz.prog 120 #[.pointer (some ⟨bw,0,none⟩)] w fun e w'=>∃ A cap,e=.returned (.slice A n cap)∧Z8 w' A n (M.byteOf (YA s))∧(A=none→n=0∧cap=0)∧Ses w0 w' (YI w0.heap.size bw F s :: l):=by
 subst hn
 have he:EOk (Xc w0.heap.size bw) w F s:=h.sep.head
 refine (Zls w he hc).mono ?_
 rintro e w' ⟨v,rfl,hv⟩
 obtain ⟨A,cap,rfl,hr,hb,hnil⟩:=hv.brow
 exact ⟨A,cap,rfl,hr,hnil,h.below hb⟩
end
def Y8 (B bw:Nat) (G:List Nat) (A:Option Addr) (n cap:Nat) (f:Nat→Nat) (F:List Nat) (s:St):Part:=⟨F++G,fun w=>EOk (Yp B bw G A n cap f) w F s⟩
theorem Zeb {w:World} {B bw:Nat} {G:List Nat} {A:Option Addr} {n cap:Nat} {f:Nat→Nat} {F:List Nat} {s:St} (h:EOk (Yp B bw G A n cap f) w F s):(Y8 B bw G A n cap f F s).ok w:=by
 refine ⟨h,?_,fun w' hs hz=>⟨?_,h.live,Nat.le_trans h.base hz⟩⟩
 ·intro q hq
  rcases List.mem_append.1 hq with hq | hq
  ·exact h.c.lt q hq
  ·exact (h.c.far q hq).2
 ·obtain ⟨cs,hc⟩:=h.c
  refine ⟨cs,hc.same (fun q hq=>?_) hz⟩
  rcases hq with hq | hq
  ·exact hs q (List.mem_append_left _ hq)
  ·exact hs q (List.mem_append_right _ hq)
theorem ZcJ (B bw:Nat) (G:List Nat) (A:Option Addr) (n cap:Nat) (f:Nat→Nat):(Yp B bw G A n cap f).T≠290∧(Yp B bw G A n cap f).T≠3:=⟨fun e=>absurd (show (265:Nat)=290 from e) (by decide),fun e=>absurd (show (265:Nat)=3 from e) (by decide)⟩
def Zx (n:Nat) (f:Nat→Nat) (a:Nat):Nat:=if a<8*n then f (a / 8) / 2 ^ (7-a % 8) % 2 else 0
section
variable {w0 w:World} {l:List Part}
theorem Ses.dec {A:Option Addr} {n cap:Nat} {f:Nat→Nat} (h:Ses w0 w l) (hr:Z8 w A n f) (hn:n≤1000000) (hby:∀ i,i<n→f i<256) (hnil:A=none→n=0∧cap=0) :
  Calls Tryz.prog 123 #[.slice A n cap] w fun e w'=>∃ B bw G A' cap' F,e=.returned (.pointer (some ⟨bw,0,none⟩))∧Ses w0 w' (Y8 B bw G A' n cap' f F (Z9 (Zx n f) 32) :: l):=by
 refine (Zlu A n cap f w hr hn hby hnil).mono ?_
 rintro e w' ⟨G,A',cap',rfl,he,hG,hb⟩
 refine ⟨_,_,G,A',cap',_,rfl,h.new hb (Zeb he) ?_⟩
 intro q hq
 simp [Y8] at hq
 rcases hq with rfl | hq
 ·exact Nat.le_refl _
 ·exact hG q hq
end
end
section
abbrev r1:List Nat:=List.replicate 1 1
abbrev r2:List Nat:=List.replicate 2 1
section
variable {w0 w:World} {l:List Part} {a b c x:Part}
end
end
section
open M (numOf numOf_snoc blen)
theorem ZcK (a b:List Bool):numOf (a++b)=numOf a*2 ^ b.length+numOf b:=by
 refine M.snocInd (P:=fun b=>numOf (a++b)=numOf a*2 ^ b.length+numOf b) ?_ ?_ b
 ·simp [numOf]
 ·intro s x ih
  have ih':numOf (a++s)=numOf a*2 ^ s.length+numOf s:=ih
  show numOf (a++(s++[x]))=_
  rw [←List.append_assoc,numOf_snoc,numOf_snoc,ih',List.length_append,List.length_singleton,Nat.pow_succ,←Nat.mul_assoc]
  generalize numOf a*2 ^ s.length=y
  omega
theorem Zgv (d:Nat):numOf (List.replicate d false)=0:=by
 induction d with
 | zero=>rfl
 | succ d ih=>rw [List.replicate_succ',numOf_snoc,ih];rfl
theorem Zgw (d:Nat):numOf (List.replicate d true)=2 ^ d-1:=by
 induction d with
 | zero=>rfl
 | succ d ih=>
  rw [List.replicate_succ',numOf_snoc,ih,Nat.pow_succ]
  have:=Nat.two_pow_pos d
  simp;omega
theorem Zec (x:Bool) (l:List Bool):numOf (x :: l)=x.toNat*2 ^ l.length+numOf l:=by
 have:=ZcK [x] l
 rw [List.singleton_append] at this
 rw [this]
 cases x<;>simp [numOf]
def Jn (o:List Bool) (d:Nat):Nat:=4294967296*(numOf o*2 ^ d)+2147483648*(2 ^ d-1)
theorem Zgx {s:St} {x:Nat} {o:List Bool} {d:Nat} (h:pick s=some (x,o,d)):Jn o d=2*(Jn s.out s.dl+x):=by
 have hp:=Nat.two_pow_pos s.dl
 unfold pick at h
 split at h
 ·injection h with h;injection h with h1 h;injection h with h2 h3
  subst h1 h2 h3
  unfold Jn
  rw [ZcK,Zec,Zgw,List.length_cons,List.length_replicate,Nat.pow_succ,show numOf s.out*(2 ^ s.dl*2)=numOf s.out*2 ^ s.dl*2 from (Nat.mul_assoc _ _ _).symm]
  generalize numOf s.out*2 ^ s.dl=y
  generalize 2 ^ s.dl=p at *
  simp;omega
 split at h
 ·injection h with h;injection h with h1 h;injection h with h2 h3
  subst h1 h2 h3
  unfold Jn
  rw [ZcK,Zec,Zgv,List.length_cons,List.length_replicate,Nat.pow_succ,show numOf s.out*(2 ^ s.dl*2)=numOf s.out*2 ^ s.dl*2 from (Nat.mul_assoc _ _ _).symm]
  generalize numOf s.out*2 ^ s.dl=y
  generalize 2 ^ s.dl=p at *
  simp;omega
 split at h
 ·injection h with h;injection h with h1 h;injection h with h2 h3
  subst h1 h2 h3
  unfold Jn
  rw [Nat.pow_succ,show numOf s.out*(2 ^ s.dl*2)=numOf s.out*2 ^ s.dl*2 from (Nat.mul_assoc _ _ _).symm]
  generalize numOf s.out*2 ^ s.dl=y
  generalize 2 ^ s.dl=p at *
  omega
 ·cases h
section
variable {bit b:Nat→Nat}
def Inside (bit:Nat→Nat) (s:St):Prop:=Jn s.out s.dl+s.lo≤Y7 bit (s.out.length+s.dl+32)∧Y7 bit (s.out.length+s.dl+32)≤Jn s.out s.dl+s.hi
theorem ZlC (hb:∀ a,bit a≤1) {s:St} {x:Nat} {o:List Bool} {d:Nat} (hp:pick s=some (x,o,d)) (h1:s.lo≤s.hi) (h2:s.hi<4294967296):Inside bit (shift b s x o d)↔Inside bit s:=by
 obtain ⟨q1,q2,q3,_⟩:=ZaK hp h1 h2
 have hB:=Zgx hp
 have hn:o.length+d+32=(s.out.length+s.dl+32)+1:=by omega
 unfold Inside
 simp only [shift]
 rw [hn,hB]
 simp only [Y7]
 have:=hb (s.out.length+s.dl+32)
 omega
theorem ZlD (hb:∀ a,bit a≤1) (k:Nat):∀ s,Good s→(Inside bit (Yo b k s)↔Inside bit s):=by
 induction k with
 | zero=>intro s _;exact Iff.rfl
 | succ k ih=>
  intro s hg
  rcases hp:pick s with _|⟨x,o,d⟩
  ·rw [J2 hp]
  ·rw [J3 hp]
   exact (ih _ (ZbY hp hg).1).trans (ZlC hb hp hg.le hg.hi)
structure XL (fr:List Nat):Prop where
 pos:0<fr.length
 few:fr.length≤256
 one:∀ x,x∈fr→1≤x
 tot:fr.sum≤8192
theorem XL.sum {fr:List Nat} (h:XL fr):0<fr.sum:=by
 have:=Jk (fr:=fr) (i:=0) h.pos
 have:=J4 h.one h.pos
 omega
theorem XL.learn {fr:List Nat} (h:XL fr) {i:Nat} (hi:i<fr.length):XL (learn fr i):=by
 obtain ⟨h1,h2⟩:=Zf9 hi h.few h.one h.tot
 exact ⟨by rw [ZbW];exact h.pos,by rw [ZbW];exact h.few,h1,h2⟩
theorem XL.new {n:Nat} (h1:1≤n) (h2:n≤256):XL (List.replicate n 1):=
 ⟨by rw [List.length_replicate];omega,by rw [List.length_replicate];exact h2,fun x hx=>by rw [List.eq_of_mem_replicate hx];exact Nat.le_refl _,by rw [Zd5];omega⟩
theorem Zgy {fr:List Nat} {i:Nat} {s:St} (hl:Live s) (hf:XL fr) (hi:i<fr.length) (h:Inside bit (narrow fr i s)):Inside bit s:=by
 obtain ⟨_,_,h1,h2⟩:=J6 hl.good hl.none hf.one hf.tot hi
 unfold Inside at *
 have e1:(narrow fr i s).out=s.out:=rfl
 have e2:(narrow fr i s).dl=s.dl:=rfl
 rw [e1,e2] at h
 omega
theorem Zgz (hb:∀ a,bit a≤1) {fr:List Nat} {i:Nat} {s:St} (hl:Live s) (hf:XL fr) (hi:i<fr.length):Inside bit (YH b fr i s)↔Inside bit (narrow fr i s):=by
 obtain ⟨g,_⟩:=J6 hl.good hl.none hf.one hf.tot hi
 exact ZlD (b:=b) hb 16 _ g
structure Num (bit:Nat→Nat) (s:St):Prop where
 eq:s.num+Jn s.out s.dl=Y7 bit s.at_
 at_:s.at_=s.out.length+s.dl+32
theorem Num.iv {s:St} (h:Num bit s):Yq s↔Inside bit s:=by
 have h1:=h.eq
 unfold Inside
 rw [←h.at_]
 constructor
 ·intro h;have:=h.lo;have:=h.hi;omega
 ·rintro ⟨h2,h3⟩;exact ⟨by omega,by omega⟩
theorem Num.narrow {s:St} (h:Num bit s) (fr:List Nat) (i:Nat):Num bit (narrow fr i s):=⟨h.eq,h.at_⟩
theorem ZgA {s:St} {x:Nat} {o:List Bool} {d:Nat} (hb:∀ a,bit a≤1) (hp:pick s=some (x,o,d)) (hg:Good s) (h:Yq s):(shift bit s x o d).num=2*(s.num-x)+bit s.at_∧Yq (shift bit s x o d):=by
 obtain ⟨h1,h2,_,h4⟩:=ZaK hp hg.le hg.hi
 have e1:=h.lo
 have e2:=h.hi
 have e3:=hb s.at_
 have e4:=hg.hi
 have e:(shift bit s x o d).num=2*(s.num-x)+bit s.at_:=by
  simp only [shift]
  omega
 refine ⟨e,?_,?_⟩
 ·rw [e];simp only [shift];omega
 ·rw [e];simp only [shift];omega
theorem Num.shift (hb:∀ a,bit a≤1) {s:St} {x:Nat} {o:List Bool} {d:Nat} (hp:pick s=some (x,o,d)) (hg:Good s) (hi:Yq s) (h:Num bit s):Num bit (shift bit s x o d):=by
 obtain ⟨q1,q2,q3,_⟩:=ZaK hp hg.le hg.hi
 have hB:=Zgx hp
 have e1:=hi.lo
 have h1:=h.eq
 have h2:=h.at_
 refine ⟨?_,?_⟩
 ·rw [(ZgA hb hp hg hi).1]
  simp only [Proofs.YtlgcfimhfmgkmaaGreatDoor.shift]
  rw [hB]
  simp only [Y7]
  omega
 ·simp only [Proofs.YtlgcfimhfmgkmaaGreatDoor.shift]
  omega
theorem ZlE (hb:∀ a,bit a≤1) (k:Nat):∀ s,Good s→Yq s→Yq (Yo bit k s)∧(Num bit s→Num bit (Yo bit k s)):=by
 induction k with
 | zero=>intro s _ h;exact ⟨h,id⟩
 | succ k ih=>
  intro s hg h
  rcases hp:pick s with _|⟨x,o,d⟩
  ·rw [J2 hp];exact ⟨h,id⟩
  ·rw [J3 hp]
   obtain ⟨i1,i2⟩:=ih _ (ZbY hp hg).1 (ZgA hb hp hg h).2
   exact ⟨i1,fun hn=>i2 (hn.shift hb hp hg h)⟩
theorem Zed (hb:∀ a,bit a≤1) {fr:List Nat} {i:Nat} {s:St} (hl:Live s) (hf:XL fr) (hi:i<fr.length) (h:Yq (narrow fr i s)):Yq (YH bit fr i s)∧(Num bit s→Num bit (YH bit fr i s)):=by
 obtain ⟨g,_⟩:=J6 hl.good hl.none hf.one hf.tot hi
 obtain ⟨h1,h2⟩:=ZlE hb 16 _ g h
 exact ⟨⟨h1.lo,h1.hi⟩,fun hn=>⟨(h2 (hn.narrow fr i)).eq,(h2 (hn.narrow fr i)).at_⟩⟩
theorem ZlF {fr:List Nat} {i:Nat} {s:St} (hl:Live s) (hf:XL fr) (hi:i<fr.length) (h:Yq (narrow fr i s)):Yu fr s=i:=by
 obtain ⟨_,_,h1,h2⟩:=J6 hl.good hl.none hf.one hf.tot hi
 have h0:=hf.sum
 have e1:=h.lo
 have e2:=h.hi
 obtain ⟨p1,p2,_⟩:=Zbl hl.none
 obtain ⟨c1,c2,_,_⟩:=ZcH (s.hi-s.lo+1) ((fr.take i).sum) (fr.getD i 0) fr.sum (by omega) (by have:=hl.good.hi;omega) (J4 hf.one hi) (Jk hi) hf.tot
 have e1':s.lo+(s.hi-s.lo+1)*(fr.take i).sum / fr.sum≤s.num:=e1
 have e2':s.num≤s.lo+(s.hi-s.lo+1)*((fr.take i).sum+fr.getD i 0) / fr.sum-1:=e2
 unfold Yu
 have hsz:0<s.hi-s.lo+1:=by omega
 have hm:(s.num-s.lo+1)*fr.sum=(s.num-s.lo+1)*fr.sum:=rfl
 have hpos:1*fr.sum≤(s.num-s.lo+1)*fr.sum:=Nat.mul_le_mul_right _ (by omega)
 refine Zgl fr _ i ?_ ?_
 ·unfold Q5
  rw [Nat.le_div_iff_mul_le hsz]
  have:(s.hi-s.lo+1)*(fr.take i).sum / fr.sum<s.num-s.lo+1:=by
   generalize (s.hi-s.lo+1)*(fr.take i).sum / fr.sum=qa at *
   omega
  rw [Nat.div_lt_iff_lt_mul h0] at this
  rw [Nat.mul_comm (fr.take i).sum]
  omega
 ·unfold Q5
  rw [Nat.div_lt_iff_lt_mul hsz]
  have:s.num-s.lo+1≤(s.hi-s.lo+1)*((fr.take i).sum+fr.getD i 0) / fr.sum:=by
   generalize (s.hi-s.lo+1)*(fr.take i).sum / fr.sum=qa at *
   generalize (s.hi-s.lo+1)*((fr.take i).sum+fr.getD i 0) / fr.sum=qb at *
   omega
  rw [Nat.le_div_iff_mul_le h0] at this
  rw [Nat.mul_comm ((fr.take i).sum+_)]
  omega
theorem ZlG (hb:∀ a,bit a≤1) {fr:List Nat} {s:St} (hl:Live s) (h:Yq s) (hf:XL fr):Yq (YH bit fr (Yu fr s) s)∧Yu fr s<fr.length∧Yq (narrow fr (Yu fr s) s):=by
 obtain ⟨e1,e2,e3⟩:=Zgk fr (Q5 fr s) (Zea h hf.sum)
 have hn:=Zgm h hf.sum e2 e3
 exact ⟨(Zed hb hl hf e1 hn).1,e1,hn⟩
end
def core (s:St):St:={ s with num:=0,at_:=0 }
theorem ZlH {s d:St} (h:core s=core d):pick s=pick d:=by
 have h1:=congrArg St.lo h
 have h2:=congrArg St.hi h
 have h3:=congrArg St.dl h
 have h4:=congrArg St.out h
 simp only [core] at h1 h2 h3 h4
 unfold pick
 rw [h1,h2,h3,h4]
theorem ZaN {s d:St}:core s=core d↔s.lo=d.lo∧s.hi=d.hi∧s.dl=d.dl∧s.cnt=d.cnt∧s.out=d.out:=by
 constructor
 ·intro h
  exact ⟨(congrArg St.lo h :),(congrArg St.hi h :),(congrArg St.dl h :),(congrArg St.cnt h :),(congrArg St.out h :)⟩
 ·rintro ⟨h1,h2,h3,h4,h5⟩
  simp only [core,h1,h2,h3,h4,h5]
theorem ZlI {bit b:Nat→Nat} (k:Nat):∀ s d,core s=core d→core (Yo bit k s)=core (Yo b k d):=by
 induction k with
 | zero=>intro s d h;exact h
 | succ k ih=>
  intro s d h
  have hq:=ZlH h
  rcases hp:pick s with _|⟨x,o,e⟩
  ·rw [J2 hp,J2 (by rw [←hq,hp])];exact h
  ·rw [J3 hp,J3 (by rw [←hq,hp])]
   refine ih _ _ ?_
   obtain ⟨h1,h2,h3,h4,h5⟩:=ZaN.1 h
   rw [ZaN]
   simp only [shift,h1,h2,h4]
   simp
theorem ZlJ {bit b:Nat→Nat} {s d:St} (fr:List Nat) (i:Nat) (h:core s=core d):core (YH bit fr i s)=core (YH b fr i d):=by
 have h0:=ZaN.1 h
 have hn:core (narrow fr i s)=core (narrow fr i d):=by
  rw [ZaN]
  simp only [narrow,h0.1,h0.2.1,h0.2.2.1,h0.2.2.2.1,h0.2.2.2.2]
  simp
 have:=ZaN.1 (ZlI (bit:=bit) (b:=b) 16 _ _ hn)
 rw [ZaN]
 exact ⟨this.1,this.2.1,this.2.2.1,congrArg (·+1) h0.2.2.2.1,this.2.2.2.2⟩
theorem ZlK {bit:Nat→Nat} {s d:St} (h:core s=core d):Inside bit s↔Inside bit d:=by
 obtain ⟨h1,h2,h3,h4,h5⟩:=ZaN.1 h
 unfold Inside
 rw [h1,h2,h3,h5]
def Zbn (bit:Nat→Nat) (l:List Bool):Prop:=∀ k,k<l.length→bit k=(l.getD k false).toNat
theorem ZlL {bit:Nat→Nat} (l:List Bool):Zbn bit l→Y7 bit l.length=numOf l:=by
 refine M.snocInd (P:=fun l=>Zbn bit l→Y7 bit l.length=numOf l) ?_ ?_ l
 ·intro _;rfl
 ·intro s x ih h
  rw [List.length_append,List.length_singleton,numOf_snoc]
  show 2*Y7 bit s.length+bit s.length=_
  have h1:=ih (fun k hk=>by
   have:=h k (by simp;omega)
   rw [this,M.getD_snoc,if_neg (by omega)])
  have h2:=h s.length (by simp)
  rw [M.getD_snoc,if_pos rfl] at h2
  rw [h1,h2]
theorem ZlM {bit:Nat→Nat} (hb:∀ a,bit a≤1) (m r:Nat):Y7 bit m*2 ^ r≤Y7 bit (m+r)∧Y7 bit (m+r)<(Y7 bit m+1)*2 ^ r:=by
 induction r with
 | zero=>simp
 | succ r ih=>
  have:=hb (m+r)
  rw [←Nat.add_assoc]
  simp only [Y7]
  rw [Nat.pow_succ,←Nat.mul_assoc,←Nat.mul_assoc]
  omega
theorem ZlN {bit:Nat→Nat} (hb:∀ a,bit a≤1) {s:St} (hl:Live s) (h:Zbn bit (YA s)):Inside bit s:=by
 have hn:=ZlL _ h
 rw [ZbX] at hn
 obtain ⟨p1,p2,p3⟩:=Zbl hl.none
 obtain ⟨f1,f2⟩:=ZlM hb (s.out.length+s.dl+2) 30
 rw [hn] at f1 f2
 unfold Inside
 rw [show s.out.length+s.dl+32=s.out.length+s.dl+2+30 from by omega]
 have hp:=Nat.two_pow_pos s.dl
 unfold YA at f1 f2
 unfold Jn
 rw [ZcK,Zec,List.length_cons,List.length_replicate,Nat.pow_succ,Nat.pow_succ,←Nat.mul_assoc,←Nat.mul_assoc] at f1 f2
 by_cases hq:1073741824≤s.lo
 ·rw [decide_eq_true hq,Bool.not_true,Zgv] at f1 f2
  generalize numOf s.out*2 ^ s.dl=y at *
  generalize 2 ^ s.dl=p at *
  simp at f1 f2
  omega
 ·rw [decide_eq_false hq,Bool.not_false,Zgw,Nat.pow_succ] at f1 f2
  generalize numOf s.out*2 ^ s.dl=y at *
  generalize 2 ^ s.dl=p at *
  simp at f1 f2
  omega
end
section
open M (blen zig zag)
abbrev Op:=Nat × Nat
abbrev Bun:=Nat→List Nat
def upd (fr:Bun) (j:Nat) (l:List Nat):Bun:=fun i=>if i=j then l else fr i
theorem Zee (fr:Bun) (j:Nat) (l:List Nat):upd fr j l j=l:=if_pos rfl
theorem ZcL {fr:Bun} {i j:Nat} {l:List Nat} (h:i≠j):upd fr j l i=fr i:=if_neg h
def step (bit:Nat→Nat) (c:St × Bun) (o:Op):St × Bun:=(YH bit (c.2 o.1) o.2 c.1,upd c.2 o.1 (learn (c.2 o.1) o.2))
def steps (bit:Nat→Nat) (c:St × Bun) (l:List Op):St × Bun:=l.foldl (step bit) c
structure Shape (sz:Nat→Nat) (fr:Bun):Prop where
 fine:∀ j,XL (fr j)
 len:∀ j,(fr j).length=sz j
def Fit (sz:Nat→Nat) (o:Op):Prop:=o.2<sz o.1
theorem Shape.learn {sz:Nat→Nat} {fr:Bun} (h:Shape sz fr) {j i:Nat} (hi:i<sz j):Shape sz (upd fr j (learn (fr j) i)):=by
 refine ⟨fun q=>?_,fun q=>?_⟩
 ·by_cases e:q=j
  ·subst e;rw [Zee];exact (h.fine q).learn (by rw [h.len];exact hi)
  ·rw [ZcL e];exact h.fine q
 ·by_cases e:q=j
  ·subst e;rw [Zee,ZbW];exact h.len q
  ·rw [ZcL e];exact h.len q
structure Ok (sz:Nat→Nat) (c:St × Bun):Prop where
 live:Live c.1
 shape:Shape sz c.2
section
variable {sz:Nat→Nat} {bit b:Nat→Nat}
theorem Ok.step {c:St × Bun} {o:Op} (h:Ok sz c) (ho:Fit sz o):Ok sz (step bit c o)∧(step bit c o).1.cnt=c.1.cnt+1:=by
 obtain ⟨h1,h2⟩:=Zgg (bit:=bit) h.live (h.shape.fine o.1).one (h.shape.fine o.1).tot (i:=o.2) (by rw [h.shape.len];exact ho)
 exact ⟨⟨h1,h.shape.learn ho⟩,h2⟩
theorem Ok.steps {l:List Op}:∀ {c:St × Bun},Ok sz c→(∀ o,o∈l→Fit sz o)→Ok sz (steps bit c l)∧(steps bit c l).1.cnt=c.1.cnt+l.length:=by
 induction l with
 | nil=>intro c h _;exact ⟨h,rfl⟩
 | cons o l ih=>
  intro c h hl
  obtain ⟨h1,h2⟩:=h.step (bit:=bit) (hl o (by simp))
  obtain ⟨h3,h4⟩:=ih h1 (fun q hq=>hl q (by simp [hq]))
  refine ⟨h3,?_⟩
  have e:Proofs.YtlgcfimhfmgkmaaGreatDoor.steps bit c (o :: l)=Proofs.YtlgcfimhfmgkmaaGreatDoor.steps bit (Proofs.YtlgcfimhfmgkmaaGreatDoor.step bit c o) l:=rfl
  rw [e,h4,h2,List.length_cons]
  omega
theorem ZcM (c:St × Bun) (l m:List Op):steps bit c (l++m)=steps bit (steps bit c l) m:=List.foldl_append
theorem ZlO (hb:∀ a,bit a≤1) (l:List Op):∀ c,Ok sz c→(∀ o,o∈l→Fit sz o)→Inside bit (steps b c l).1→Inside bit c.1:=by
 induction l with
 | nil=>intro c _ _ h;exact h
 | cons o l ih=>
  intro c h hl hi
  have ho:=hl o (by simp)
  have h2:=ih _ (h.step (bit:=b) ho).1 (fun q hq=>hl q (by simp [hq])) hi
  exact Zgy h.live (h.shape.fine _) (by rw [h.shape.len];exact ho) ((Zgz (b:=b) hb h.live (h.shape.fine _) (by rw [h.shape.len];exact ho)).1 h2)
def Reads (bit:Nat→Nat):St × Bun→List Op→Prop
 | _,[]=>True
 | c,o :: l=>Yu (c.2 o.1) c.1=o.2∧Reads bit (step bit c o) l
theorem Zef (l m:List Op):∀ c,Reads bit c (l++m)↔Reads bit c l∧Reads bit (steps bit c l) m:=by
 induction l with
 | nil=>intro c;exact ⟨fun h=>⟨trivial,h⟩,fun h=>h.2⟩
 | cons o l ih=>
  intro c
  have:=ih (step bit c o)
  exact ⟨fun h=>⟨⟨h.1,(this.1 h.2).1⟩,(this.1 h.2).2⟩,fun h=>⟨h.1.1,this.2 ⟨h.1.2,h.2⟩⟩⟩
structure DOk (bit:Nat→Nat) (sz:Nat→Nat) (c:St × Bun):Prop where
 ok:Ok sz c
 num:Num bit c.1
 iv:Yq c.1
theorem DOk.step (hb:∀ a,bit a≤1) {c:St × Bun} {o:Op} (h:DOk bit sz c) (hr:Yu (c.2 o.1) c.1=o.2):DOk bit sz (step bit c o)∧Fit sz o:=by
 obtain ⟨h1,h2,h3⟩:=ZlG hb h.ok.live h.iv (h.ok.shape.fine o.1)
 rw [hr] at h1 h2 h3
 have hf:Fit sz o:=by rw [h.ok.shape.len] at h2;exact h2
 exact ⟨⟨(h.ok.step hf).1,(Zed hb h.ok.live (h.ok.shape.fine o.1) h2 h3).2 h.num,h1⟩,hf⟩
theorem DOk.steps (hb:∀ a,bit a≤1) (l:List Op):∀ c,DOk bit sz c→Reads bit c l→DOk bit sz (steps bit c l)∧(∀ o,o∈l→Fit sz o):=by
 induction l with
 | nil=>intro c h _;exact ⟨h,fun o ho=>absurd ho (by simp)⟩
 | cons o l ih=>
  intro c h hr
  obtain ⟨h1,h2⟩:=h.step hb hr.1
  obtain ⟨h3,h4⟩:=ih _ h1 hr.2
  refine ⟨h3,fun q hq=>?_⟩
  rcases List.mem_cons.1 hq with rfl | hq
  ·exact h2
  ·exact h4 q hq
theorem ZlP (hb:∀ a,bit a≤1) (l:List Op):∀ c,Ok sz c→Num bit c.1→(∀ o,o∈l→Fit sz o)→Inside bit (steps bit c l).1→DOk bit sz c∧Reads bit c l:=by
 induction l with
 | nil=>intro c h hn _ hi;exact ⟨⟨h,hn,hn.iv.2 hi⟩,trivial⟩
 | cons o l ih=>
  intro c h hn hl hi
  have ho:=hl o (by simp)
  have hlen:o.2<(c.2 o.1).length:=by rw [h.shape.len];exact ho
  have h2:=ZlO (b:=bit) hb l _ (h.step (bit:=bit) ho).1 (fun q hq=>hl q (by simp [hq])) hi
  have h3:=(Zgz (b:=bit) hb h.live (h.shape.fine _) hlen).1 h2
  have h4:Yq (narrow (c.2 o.1) o.2 c.1):=(hn.narrow _ _).iv.2 h3
  obtain ⟨_,h6⟩:=Zed hb h.live (h.shape.fine _) hlen h4
  obtain ⟨_,h8⟩:=ih _ (h.step (bit:=bit) ho).1 (h6 hn) (fun q hq=>hl q (by simp [hq])) hi
  exact ⟨⟨h,hn,hn.iv.2 (Zgy h.live (h.shape.fine _) hlen h3)⟩,ZlF h.live (h.shape.fine _) hlen h4,h8⟩
theorem ZlQ (l:List Op):∀ c d:St × Bun,core c.1=core d.1→c.2=d.2→core (steps bit c l).1=core (steps b d l).1∧(steps bit c l).2=(steps b d l).2:=by
 induction l with
 | nil=>intro c d h1 h2;exact ⟨h1,h2⟩
 | cons o l ih=>
  intro c d h1 h2
  refine ih _ _ ?_ ?_
  ·show core (YH bit (c.2 o.1) o.2 c.1)=core (YH b (d.2 o.1) o.2 d.1)
   rw [h2]
   exact ZlJ _ _ h1
  ·show upd c.2 o.1 (learn (c.2 o.1) o.2)=upd d.2 o.1 (learn (d.2 o.1) o.2)
   rw [h2]
def Xr (b k z:Nat):Nat→List Op
 | 0=>[]
 | i+1=>(if i+2=k then b+1 else b+2,z / 2 ^ i % 2) :: Xr b k z i
def Xl (b z:Nat):List Op:=(b,blen z) :: Xr b (blen z) z (blen z-1)
theorem ZgB (b k z i:Nat):(Xr b k z i).length=i:=by
 induction i with
 | zero=>rfl
 | succ i ih=>simp only [Xr,List.length_cons,ih]
structure Zb0 (sz:Nat→Nat) (b:Nat):Prop where
 s0:sz b=65
 s1:sz (b+1)=2
 s2:sz (b+2)=2
theorem ZlR {b:Nat} (h:Zb0 sz b) (k z i:Nat):∀ o,o∈Xr b k z i→Fit sz o:=by
 induction i with
 | zero=>intro o ho;exact absurd ho (by simp [Xr])
 | succ i ih=>
  intro o ho
  rcases List.mem_cons.1 ho with rfl | ho
  ·unfold Fit
   simp only []
   split
   ·rw [h.s1];omega
   ·rw [h.s2];omega
  ·exact ih o ho
theorem ZlS {b z:Nat} (h:Zb0 sz b) (hz:z<2 ^ 64):(∀ o,o∈Xl b z→Fit sz o)∧(Xl b z).length≤65∧1≤(Xl b z).length:=by
 have hk:=M.blen_le hz
 refine ⟨fun o ho=>?_,?_,?_⟩
 ·rcases List.mem_cons.1 ho with rfl | ho
  ·unfold Fit;rw [h.s0];simp only [];omega
  ·exact ZlR h _ _ _ o ho
 ·unfold Xl;rw [List.length_cons,ZgB];omega
 ·unfold Xl;rw [List.length_cons];omega
theorem ZlT {z:Nat} (h:0<z):z / 2 ^ (blen z-1)=1:=by
 obtain ⟨h1,h2,h3⟩:=M.blen_bd h
 have:2 ^ blen z=2*2 ^ (blen z-1):=by rw [Nat.mul_comm,←Nat.pow_succ];congr 1;omega
 rw [this] at h2
 rw [Nat.div_eq_iff (Nat.two_pow_pos _)]
 omega
theorem ZlU {z:Nat} (h:blen z≠0):0<z:=by
 rcases Nat.eq_zero_or_pos z with rfl | h0
 ·exact absurd rfl h
 ·exact h0
end
end
end Go.Proofs.YtlgcfimhfmgkmaaGreatDoor
