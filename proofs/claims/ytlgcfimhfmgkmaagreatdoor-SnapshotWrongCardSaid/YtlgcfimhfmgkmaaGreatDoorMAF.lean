/- Lemmas for the statement. -/
import Derived.Test.YtlgcfimhfmgkmaaGreatDoorMAE
import Derived.StillTailTactics
import Derived.Laws.Rows
set_option linter.unusedVariables false
set_option linter.unusedSimpArgs false
namespace Go.Proofs.YtlgcfimhfmgkmaaGreatDoor
open Go.RowKit
section
theorem Fr.widen {F F' S T:List Nat} {w w':World} (h:Fr (F++S) w (F'++S) w') (hs:∀ q,q∈S→q∈T):Fr (F++T) w (F'++T) w':=by
 refine ⟨h.os,h.tape,h.output,h.size,fun q hq hn=>h.block q hq (fun e=>hn ?_),fun q hq=>?_⟩
 ·rcases List.mem_append.1 e with e | e
  ·exact List.mem_append_left _ e
  ·exact List.mem_append_right _ (hs q e)
 ·rcases List.mem_append.1 hq with hq | hq
  ·rcases h.own q (List.mem_append_left _ hq) with h5 | h5
   ·rcases List.mem_append.1 h5 with h5 | h5
    ·exact Or.inl (List.mem_append_left _ h5)
    ·exact Or.inl (List.mem_append_right _ (hs q h5))
   ·exact Or.inr h5
  ·exact Or.inl (List.mem_append_right _ hq)
structure KAt (w:World) (K:List Nat) (bm g:Nat→Nat) (nums:List (Nat × Nat)) (fr:Bun):Prop where
 mod:∀ j,j∈K→MOk w (bm j) (g j) (fr j)
 apart:∀ i j,i∈K→j∈K→i≠j→bm i≠bm j∧g i≠g j
 num:∀ p,p∈nums→NOk w p.1 (bm p.2) (bm (p.2+1)) (bm (p.2+2))∧(p.2∈K∧p.2+1∈K∧p.2+2∈K)
def kF (K:List Nat) (bm g:Nat→Nat) (nums:List (Nat × Nat)):List Nat:=K.map bm++(K.map g++nums.map Prod.fst)
theorem YX {K:List Nat} {bm g:Nat→Nat} {nums:List (Nat × Nat)} {q:Nat}:q∈kF K bm g nums↔(∃ j,j∈K∧(q=bm j∨q=g j))∨∃ p,p∈nums∧q=p.1:=by
 unfold kF
 simp only [List.mem_append,List.mem_map]
 constructor
 ·rintro (⟨j,h1,rfl⟩|⟨j,h1,rfl⟩|⟨p,h1,rfl⟩)
  ·exact Or.inl ⟨j,h1,Or.inl rfl⟩
  ·exact Or.inl ⟨j,h1,Or.inr rfl⟩
  ·exact Or.inr ⟨p,h1,rfl⟩
 ·rintro (⟨j,h1,rfl|rfl⟩|⟨p,h1,rfl⟩)
  ·exact Or.inl ⟨j,h1,rfl⟩
  ·exact Or.inr (Or.inl ⟨j,h1,rfl⟩)
  ·exact Or.inr (Or.inr ⟨p,h1,rfl⟩)
def Yn (K:List Nat) (bm g:Nat→Nat) (nums:List (Nat × Nat)) (fr:Bun):Part:=⟨kF K bm g nums,fun w=>KAt w K bm g nums fr⟩
section
variable {K:List Nat} {bm g:Nat→Nat} {nums:List (Nat × Nat)} {fr:Bun} {w w' w0:World} {l:List Part}
theorem KAt.lt (h:KAt w K bm g nums fr) {q:Nat} (hq:q∈kF K bm g nums):q<w.heap.size:=by
 rcases YX.1 hq with ⟨j,h1,rfl|rfl⟩|⟨p,h1,rfl⟩
 ·exact lt_of_block (h.mod j h1).blk
 ·exact lt_of_block (h.mod j h1).row
 ·exact lt_of_block (h.num p h1).1
theorem KAt.part (h:KAt w K bm g nums fr):(Yn K bm g nums fr).ok w:=by
 refine ⟨h,fun q hq=>h.lt hq,fun w' hs _=>⟨fun j hj=>(h.mod j hj).same (hs _ (YX.2 (Or.inl ⟨j,hj,Or.inl rfl⟩))) (hs _ (YX.2 (Or.inl ⟨j,hj,Or.inr rfl⟩))),h.apart,fun p hp=>⟨?_,(h.num p hp).2⟩⟩⟩
 exact (hs p.1 (YX.2 (Or.inr ⟨p,hp,rfl⟩))).trans (h.num p hp).1
theorem ZcN {q:Nat} {cs ds:Array Value} {s t:TypeId} (h1:w.heap[q]?=some (.cells cs s (0,0))) (h2:w.heap[q]?=some (.cells ds t (0,0))) (hne:s≠t):False:=by
 rw [h1] at h2
 injection h2 with h2
 injection h2 with _ h2
 exact hne h2
theorem KAt.turn {F F':List Nat} {j:Nat} {lf:List Nat} (h:KAt w K bm g nums fr) (hj:j∈K) (hm:MOk w' (bm j) (g j) lf) (hfr:Fr (F++[bm j,g j]) w (F'++[bm j,g j]) w') (hF:∀ q,q∈kF K bm g nums→q∉F):KAt w' K bm g nums (upd fr j lf):=by
 have hjm:=h.mod j hj
 refine ⟨fun i hi=>?_,h.apart,fun p hp=>⟨?_,(h.num p hp).2⟩⟩
 ·by_cases e:i=j
  ·subst e;rw [Zee];exact hm
  ·rw [ZcL e]
   have him:=h.mod i hi
   obtain ⟨a1,a2⟩:=h.apart i j hi hj e
   refine him.keep hfr ?_ ?_
   ·intro hq
    rcases List.mem_append.1 hq with hq | hq
    ·exact hF _ (YX.2 (Or.inl ⟨i,hi,Or.inl rfl⟩)) hq
    ·simp only [List.mem_cons,List.not_mem_nil,or_false] at hq
     rcases hq with hq | hq
     ·exact a1 hq
     ·exact ZcN (hq▸him.blk) hjm.row (by decide)
   ·intro hq
    rcases List.mem_append.1 hq with hq | hq
    ·exact hF _ (YX.2 (Or.inl ⟨i,hi,Or.inr rfl⟩)) hq
    ·simp only [List.mem_cons,List.not_mem_nil,or_false] at hq
     rcases hq with hq | hq
     ·exact ZcN (hq▸him.row) hjm.blk (by decide)
     ·exact a2 hq
 ·have hn:=(h.num p hp).1
  refine (hfr.block _ (lt_of_block hn) ?_).trans hn
  intro hq
  rcases List.mem_append.1 hq with hq | hq
  ·exact hF _ (YX.2 (Or.inr ⟨p,hp,rfl⟩)) hq
  ·simp only [List.mem_cons,List.not_mem_nil,or_false] at hq
   rcases hq with hq | hq
   ·exact ZcN (hq▸hn) hjm.blk (by decide)
   ·exact ZcN (hq▸hn) hjm.row (by decide)
theorem Ses.turn {p p':Part} {F F' E:List Nat} {j:Nat} {lf:List Nat} (h:Ses w0 w (p :: Yn K bm g nums fr :: l)) (ep:p.F=F++E) (ep':p'.F=F'++E) (hp:p'.ok w') (hj:j∈K) (h2:MOk w' (bm j) (g j) lf) (h3:Fr (F++[bm j,g j]) w (F'++[bm j,g j]) w') (hno:bm j∉F'∧g j∉F') :
  Ses w0 w' (p' :: Yn K bm g nums (upd fr j lf) :: l):=by
 have hk:KAt w K bm g nums fr:=h.sep.tail.head
 have hap:Apart p (Yn K bm g nums fr):=(List.pairwise_cons.1 h.sep.2).1 _ (by simp)
 have ZgC:∀ q,q∈kF K bm g nums→q∉F:=fun q hq e=>hap q (by rw [ep];exact List.mem_append_left _ e) hq
 have hS:∀ q,q∈[bm j,g j]→q∈kF K bm g nums:=by
  intro q hq
  simp only [List.mem_cons,List.not_mem_nil,or_false] at hq
  exact YX.2 (Or.inl ⟨j,hj,hq⟩)
 have h4:=h3.widen hS
 refine h.step2 (p':=p') (r':=Yn K bm g nums (upd fr j lf)) ?_ hp (hk.turn hj h2 h3 ZgC).part ?_
 ·rw [ep,ep']
  show Fr ((F++E)++kF K bm g nums) w ((F'++E)++kF K bm g nums) w'
  refine ⟨h4.os,h4.tape,h4.output,h4.size,fun q hq hn=>h4.block q hq (fun e=>hn ?_),fun q hq=>?_⟩
  ·rcases List.mem_append.1 e with e | e
   ·exact List.mem_append_left _ (List.mem_append_left _ e)
   ·exact List.mem_append_right _ e
  ·rcases List.mem_append.1 hq with hq | hq
   ·rcases List.mem_append.1 hq with hq | hq
    ·rcases h4.own q (List.mem_append_left _ hq) with h5 | h5
     ·rcases List.mem_append.1 h5 with h5 | h5
      ·exact Or.inl (List.mem_append_left _ (List.mem_append_left _ h5))
      ·exact Or.inl (List.mem_append_right _ h5)
     ·exact Or.inr h5
    ·exact Or.inl (List.mem_append_left _ (List.mem_append_right _ hq))
   ·exact Or.inl (List.mem_append_right _ hq)
 ·intro q hq hq2
  rw [ep'] at hq
  have Zeg:q∈kF K bm g nums:=hq2
  rcases List.mem_append.1 hq with hq | hq
  ·rcases h3.own q (List.mem_append_left _ hq) with h5 | h5
   ·rcases List.mem_append.1 h5 with h5 | h5
    ·exact ZgC q Zeg h5
    ·simp only [List.mem_cons,List.not_mem_nil,or_false] at h5
     rcases h5 with rfl|rfl
     ·exact hno.1 hq
     ·exact hno.2 hq
   ·have:=hk.lt Zeg;omega
  ·exact hap q (by rw [ep];exact List.mem_append_right _ hq) Zeg
end
section
variable {K:List Nat} {bm g:Nat→Nat} {nums:List (Nat × Nat)} {fr:Bun} {w w' w0:World} {l:List Part} {bw:Nat} {F:List Nat} {s:St}
theorem Ses.kcode (j i:Nat) (h:Ses w0 w (YI w0.heap.size bw F s :: Yn K bm g nums fr :: l)) (hc:s.cnt<32768) (hj:j∈K) (hi:i<(fr j).length) :
  Calls Tryz.prog 167 #[.pointer (some ⟨bw,0,none⟩),.pointer (some ⟨bm j,0,none⟩),.int .i64 (i:Nat)] w fun e w'=>e=.returned (.tuple #[])∧∃ F',Ses w0 w' (YI w0.heap.size bw F' (step Zv (s,fr) (j,i)).1 :: Yn K bm g nums (step Zv (s,fr) (j,i)).2 :: l):=by
 have he:EOk (Xc w0.heap.size bw) w F s:=h.sep.head
 have hk:KAt w K bm g nums fr:=h.sep.tail.head
 have hm:=hk.mod j hj
 have hF:=J8 he.c hm (ZcI _ _)
 refine (Zd9 i w he hc hm hi hF (by simp [Xc])).mono ?_
 rintro e w' ⟨rfl,F',h1,h2,h3⟩
 rw [Zgu] at h1
 exact ⟨rfl,F',h.turn (E:=[]) (List.append_nil _).symm (List.append_nil _).symm h1.part hj h2 h3 (J8 h1.c h2 (ZcI _ _))⟩
theorem Ses.kcode_z (j i:Nat) (x:Int) (m:Nat) (h:Ses w0 w (YI w0.heap.size bw F s :: Yn K bm g nums fr :: l)) (hx:x=(i:Nat)) (hc:s.cnt<32768) (hj:j∈K) (hi:i<(fr j).length) :
  Calls Tryz.prog 167 #[.pointer (some ⟨bw,0,none⟩),.pointer (some ⟨bm j,0,none⟩),.int .i64 x] (w.drewN m) fun e w'=>e=.returned (.tuple #[])∧∃ F',Ses w0 w' (YI w0.heap.size bw F' (step Zv (s,fr) (j,i)).1 :: Yn K bm g nums (step Zv (s,fr) (j,i)).2 :: l):=by
 subst hx
 exact (h.drewN m).kcode j i hc hj hi
theorem Ses.kput (j i:Nat) (h:Ses w0 w (YI w0.heap.size bw F s :: Yn K bm g nums fr :: l)) (hc:s.cnt<32768) (hj:j∈K) (hi:i<(fr j).length) :
  Calls Tryz.prog 113 #[.pointer (some ⟨bw,0,none⟩),.pointer (some ⟨bm j,0,none⟩),.int .i64 (i:Nat)] w fun e w'=>e=.returned (.int .i64 0)∧∃ F',Ses w0 w' (YI w0.heap.size bw F' (step Zv (s,fr) (j,i)).1 :: Yn K bm g nums (step Zv (s,fr) (j,i)).2 :: l):=by
 have he:EOk (Xc w0.heap.size bw) w F s:=h.sep.head
 have hk:KAt w K bm g nums fr:=h.sep.tail.head
 have hm:=hk.mod j hj
 have hF:=J8 he.c hm (ZcI _ _)
 refine (Zlr i w he hc hm hi hF (by simp [Xc])).mono ?_
 rintro e w' ⟨rfl,F',h1,h2,h3⟩
 rw [Zgu] at h1
 exact ⟨rfl,F',h.turn (E:=[]) (List.append_nil _).symm (List.append_nil _).symm h1.part hj h2 h3 (J8 h1.c h2 (ZcI _ _))⟩
end
section
variable {K:List Nat} {bm g:Nat→Nat} {nums:List (Nat × Nat)} {fr:Bun} {w w' w0:World} {l:List Part} {B bw n cap:Nat} {G F:List Nat} {A:Option Addr} {f:Nat→Nat} {s:St}
theorem Ses.kget (j:Nat) (h:Ses w0 w (Y8 B bw G A n cap f F s :: Yn K bm g nums fr :: l)) (hc:s.cnt<32768) (hiv:Yq s) (hj:j∈K) :
  Calls Tryz.prog 125 #[.pointer (some ⟨bw,0,none⟩),.pointer (some ⟨bm j,0,none⟩)] w fun e w'=>e=.returned (.tuple #[.int .i64 (Yu (fr j) s:Nat),.int .i64 0])∧∃ F',Ses w0 w' (Y8 B bw G A n cap f F' (step (Zx n f) (s,fr) (j,Yu (fr j) s)).1 :: Yn K bm g nums (step (Zx n f) (s,fr) (j,Yu (fr j) s)).2 :: l):=by
 have he:EOk (Yp B bw G A n cap f) w F s:=h.sep.head
 have hk:KAt w K bm g nums fr:=h.sep.tail.head
 have hm:=hk.mod j hj
 have hF:=J8 he.c hm (ZcJ _ _ _ _ _ _ _)
 have hap:=(List.pairwise_cons.1 h.sep.2).1 (Yn K bm g nums fr) (by simp)
 have hG:bm j∉(Yp B bw G A n cap f).G∧g j∉(Yp B bw G A n cap f).G:=⟨fun hq=>hap (bm j) (List.mem_append_right _ hq) (YX.2 (Or.inl ⟨j,hj,Or.inl rfl⟩)),fun hq=>hap (g j) (List.mem_append_right _ hq) (YX.2 (Or.inl ⟨j,hj,Or.inr rfl⟩))⟩
 refine (Zlz w he rfl hiv hc hm hF hG).mono ?_
 rintro e w' ⟨rfl,F',h1,h2,h3,h4⟩
 exact ⟨rfl,F',h.turn (p':=Y8 B bw G A n cap f F' _) (E:=G) rfl rfl (Zeb h1) hj h3 h4 (J8 h1.c h3 (ZcJ _ _ _ _ _ _ _))⟩
theorem Ses.ksym (j:Nat) (h:Ses w0 w (Y8 B bw G A n cap f F s :: Yn K bm g nums fr :: l)) (hc:s.cnt<32768) (hiv:Yq s) (hj:j∈K) :
  Calls Tryz.prog 177 #[.pointer (some ⟨bw,0,none⟩),.pointer (some ⟨bm j,0,none⟩)] w fun e w'=>e=.returned (.int .i64 (Yu (fr j) s:Nat))∧∃ F',Ses w0 w' (Y8 B bw G A n cap f F' (step (Zx n f) (s,fr) (j,Yu (fr j) s)).1 :: Yn K bm g nums (step (Zx n f) (s,fr) (j,Yu (fr j) s)).2 :: l):=by
 have he:EOk (Yp B bw G A n cap f) w F s:=h.sep.head
 have hk:KAt w K bm g nums fr:=h.sep.tail.head
 have hm:=hk.mod j hj
 have hF:=J8 he.c hm (ZcJ _ _ _ _ _ _ _)
 have hap:=(List.pairwise_cons.1 h.sep.2).1 (Yn K bm g nums fr) (by simp)
 have hG:bm j∉(Yp B bw G A n cap f).G∧g j∉(Yp B bw G A n cap f).G:=⟨fun hq=>hap (bm j) (List.mem_append_right _ hq) (YX.2 (Or.inl ⟨j,hj,Or.inl rfl⟩)),fun hq=>hap (g j) (List.mem_append_right _ hq) (YX.2 (Or.inl ⟨j,hj,Or.inr rfl⟩))⟩
 refine (Zgn w he hiv hc hm hF hG).mono ?_
 rintro e w' ⟨rfl,F',h1,h2,h3,h4⟩
 exact ⟨rfl,F',h.turn (p':=Y8 B bw G A n cap f F' _) (E:=G) rfl rfl (Zeb h1) hj h3 h4 (J8 h1.c h3 (ZcJ _ _ _ _ _ _ _))⟩
end
end
end Go.Proofs.YtlgcfimhfmgkmaaGreatDoor
namespace Go.Proofs.YtlgcfimhfmgkmaaGreatDoor
open Go.RowKit
section
theorem Zh {w:World} {b:Nat} {o:Obj} (h:w.heap[b]?=some o):b<w.heap.size:=(Array.getElem?_eq_some_iff.1 h).1
theorem Zn (x:Int) (h0:-9223372036854775808≤x) (h1:x≤9223372036854775807):wrap64 x=x:=by unfold wrap64;omega
theorem ZaO {w w':World} {B e s n:Nat} {v:Value} {xs:List Value} (h:w.ownsRow B e s v n xs) (ho:∀ q,q<w.heap.size→w'.heap[q]?=w.heap[q]?):w'.ownsRow B e s v n xs:=by
 refine ⟨h.1,?_⟩
 rcases h.2 with h|⟨g,cap,cur,rfl,hB,hh,r⟩
 ·exact Or.inl h
 ·exact Or.inr ⟨g,cap,cur,rfl,hB,(ho g (lt_of_block hh)).trans hh,r⟩
theorem XW {w w':World} {B e s n:Nat} {v:Value} {xs:List Value} (h:w.ownsRow B e s v n xs) (hb:∀ q,v.ownBlock=some q→w'.heap[q]?=w.heap[q]?):w'.ownsRow B e s v n xs:=by
 refine ⟨h.1,?_⟩
 rcases h.2 with h|⟨g,cap,cur,rfl,hB,hh,r⟩
 ·exact Or.inl h
 ·exact Or.inr ⟨g,cap,cur,rfl,hB,(hb g rfl).trans hh,r⟩
theorem XC (W:World) (cs:Array Value) (T:TypeId) (b:Nat) (hb:b=W.heap.size):∀ j u,cs.toList[j]?=some u→(W.alloc (.cells cs T (0,0))).cell? ((⟨b,0,none⟩:Addr).add j)=some u:=by
 intro j u hu
 subst hb
 rw [Addr.add_mid,Nat.zero_add,cell_of_block (heap_alloc_new W _)]
 simpa using hu
theorem Q6 {w:World} {B e s n g:Nat} {T:TypeId} {v:Value} {xs:List Value} {cs:Array Value} (h:w.ownsRow B e s v n xs) (hg:w.heap[g]?=some (.cells cs T (0,0))) (hT:T≠e):v.ownBlock≠some g:=by
 rcases h.2 with ⟨rfl,_⟩|⟨g',cap,cur,rfl,hB,hh,_⟩
 ·simp [Value.ownBlock]
 ·intro e'
  have:g'=g:=by simpa [Value.ownBlock] using e'
  subst this
  rw [hh] at hg
  injection hg with hg;injection hg with _ hg;exact hT hg.symm
theorem Zeh {w:World} {B B' e s n:Nat} {v:Value} {xs:List Value} (h:w.ownsRow B e s v n xs) (hB:B'≤B):w.ownsRow B' e s v n xs:=by
 refine ⟨h.1,?_⟩
 rcases h.2 with h|⟨g,cap,cur,rfl,hb,r⟩
 ·exact Or.inl h
 ·exact Or.inr ⟨g,cap,cur,rfl,Nat.le_trans hB hb,r⟩
theorem ZZ (w:World) (a b:Obj):((w.alloc a).alloc b).heap[w.heap.size]?=some a:=(Below.heap_alloc _ _ _ (by simp)).trans (heap_alloc_new w a)
theorem Z0 (w:World) (a b:Obj):((w.alloc a).alloc b).heap[w.heap.size+1]?=some b:=by
 have:=heap_alloc_new (w.alloc a) b
 simpa using this
theorem Q7 {w:World} {B n k T:Nat} {v:Value} {cs:List Value} (h:w.ownsRow B T k v n cs) (hn:0<cs.length) :
  ∃ b cp,v=.slice (some ⟨b,0,none⟩) n cp∧(B≤b∧b<w.heap.size)∧∀ j u,cs[j]?=some u→w.cell? ⟨b,j,none⟩=some u:=by
 rcases h.2 with ⟨rfl,rfl⟩|⟨g,cap,cur,rfl,hB,hh,h1,h2,h3,h4⟩
 ·have:=h.1
  rw [Nat.zero_mul] at this;omega
 ·refine ⟨g,cap,rfl,⟨hB,Zh hh⟩,fun j u hu=>?_⟩
  have:=h.cells (g:=g) rfl j u hu
  rw [show (⟨g,0,none⟩:Addr).add j=⟨g,j,none⟩ by rcases j with _ | j<;>simp [Addr.add]] at this
  exact this
theorem ZcO {w:World} {B n k T:Nat} {v:Value} {cs:List Value} (h:w.ownsRow B T k v n cs):∀ A c,v=.slice A n c→n≤c:=by
 intro A c e
 rcases h.2 with ⟨rfl,rfl⟩|⟨g,cap,cur,rfl,hB,hh,h1,r⟩
 ·exact Nat.zero_le _
 ·injection e with _ _ e
  omega
theorem ZlV {w:World} {g:Nat} {x y z u:Value} {T:TypeId} (h:w.heap[g]?=some (.cells #[x,y,z,u] T (0,0))) :
  w.cell? ⟨g,0,none⟩=some x∧w.cell? ⟨g,1,none⟩=some y∧w.cell? ⟨g,2,none⟩=some z∧w.cell? ⟨g,3,none⟩=some u ∧
  w.frozen? ⟨g,0,none⟩=false∧w.frozen? ⟨g,1,none⟩=false∧w.frozen? ⟨g,2,none⟩=false∧w.frozen? ⟨g,3,none⟩=false:=
 ⟨(cell_of_block h 0).trans rfl,(cell_of_block h 1).trans rfl,(cell_of_block h 2).trans rfl,(cell_of_block h 3).trans rfl,Zd h 0,Zd h 1,Zd h 2,Zd h 3⟩
end
end Go.Proofs.YtlgcfimhfmgkmaaGreatDoor
namespace Go.Proofs.YtlgcfimhfmgkmaaGreatDoor
open Go.RowKit
section
structure Cmp where
 kind:Nat
 v0:Int
 v1:Int
 v2:Int
 v3:Int
deriving DecidableEq
def Cmp.cells (c:Cmp):List Value:=[.int .u8 (c.kind:Nat),.int .i64 c.v0,.int .i64 c.v1,.int .i64 c.v2,.int .i64 c.v3]
def Cmp.agg (c:Cmp):Value:=.agg #[.int .u8 (c.kind:Nat),.int .i64 c.v0,.int .i64 c.v1,.int .i64 c.v2,.int .i64 c.v3]
def Ya (l:List Cmp):List Value:=l.flatMap Cmp.cells
structure Ent where
 id:Int
 cs:List Cmp
deriving DecidableEq
theorem ZcP (cs:List Cmp):(Ya cs).length=cs.length*5:=by
 induction cs with
 | nil=>rfl
 | cons c cs ih=>show (c.cells++Ya cs).length=_;rw [List.length_append,ih];simp [Cmp.cells];omega
theorem ZgD (cs:List Cmp):∀ u∈Ya cs,u.oneCell'=true:=by
 intro u hu
 unfold Ya at hu
 rw [List.mem_flatMap] at hu
 obtain ⟨c,_,hu⟩:=hu
 simp only [Cmp.cells,List.mem_cons,List.not_mem_nil,or_false] at hu
 rcases hu with rfl|rfl|rfl|rfl|rfl<;>rfl
theorem ZcQ:(Tryz.prog.info? 75).map (fun i=>(i.zero,i.size,i.bytes))=some (some (.agg #[.int .u8 0,.int .i64 0,.int .i64 0,.int .i64 0,.int .i64 0]),5,40):=by kernel_rfl
theorem Zb1:(Tryz.prog.info? 70).map (fun i=>(i.zero,i.size,i.bytes))=some (some (.agg #[.int .i64 0,.slice none 0 0]),2,32):=by kernel_rfl
structure ZcR (w:World) (b o:Nat) (c:Cmp):Prop where
 c0:w.cell? ⟨b,o,none⟩=some (.int .u8 (c.kind:Nat))
 c1:w.cell? ⟨b,o+1,none⟩=some (.int .i64 c.v0)
 c2:w.cell? ⟨b,o+2,none⟩=some (.int .i64 c.v1)
 c3:w.cell? ⟨b,o+3,none⟩=some (.int .i64 c.v2)
 c4:w.cell? ⟨b,o+4,none⟩=some (.int .i64 c.v3)
theorem Zm {w w':World} {b:Nat} (hb:w'.heap[b]?=w.heap[b]?) (i:Nat):w'.cell? ⟨b,i,none⟩=w.cell? ⟨b,i,none⟩:=by unfold World.cell?;rw [hb]
theorem Zc {w:World} {b i:Nat} {v:Value} (h:w.cell? ⟨b,i,none⟩=some v):b<w.heap.size:=World.block_lt_of_cell? w _ h
theorem ZcR.step {w w':World} {b o:Nat} {c:Cmp} (h:ZcR w b o c) (hb:w'.heap[b]?=w.heap[b]?):ZcR w' b o c:=
 ⟨(Zm hb _).trans h.c0,(Zm hb _).trans h.c1,(Zm hb _).trans h.c2,(Zm hb _).trans h.c3,(Zm hb _).trans h.c4⟩
def ZcS (w:World) (A:Option Addr) (cs:List Cmp):Prop:=∀ (j:Nat) (c:Cmp),cs[j]?=some c→∃ b o,A=some ⟨b,o,none⟩∧ZcR w b (o+j*5) c
theorem ZcS.below {w w':World} {A:Option Addr} {cs:List Cmp} (h:ZcS w A cs) (hb:Below w.heap.size w w'):ZcS w' A cs:=by
 intro j c hj
 obtain ⟨b,o,e,hc⟩:=h j c hj
 exact ⟨b,o,e,hc.step (hb.block b (Zc hc.c0))⟩
structure Zo (w:World) (A:Option Addr) (n cap:Nat) (cs:List Cmp):Prop where
 len:n=cs.length
 at_:ZcS w A cs
 nil:A=none→n=0∧cap=0
 lim:n≤1000000
 kind:∀ c,c∈cs→c.kind<256
theorem Zo.below {w w':World} {A:Option Addr} {n cap:Nat} {cs:List Cmp} (h:Zo w A n cap cs) (hb:Below w.heap.size w w'):Zo w' A n cap cs:=⟨h.len,h.at_.below hb,h.nil,h.lim,h.kind⟩
def ZcT (w:World) (A:Option Addr) (es:List Ent):Prop:=∀ (j:Nat) (e:Ent),es[j]?=some e→∃ b o CA cn cc,A=some ⟨b,o,none⟩∧(w.cell? ⟨b,o+j*2,none⟩=some (.int .i64 e.id)∧w.cell? ⟨b,o+j*2+1,none⟩=some (.slice CA cn cc))∧Zo w CA cn cc e.cs
theorem ZcT.below {w w':World} {A:Option Addr} {es:List Ent} (h:ZcT w A es) (hb:Below w.heap.size w w'):ZcT w' A es:=by
 intro j e hj
 obtain ⟨b,o,CA,cn,cc,e,⟨h0,h1⟩,hc⟩:=h j e hj
 have hs:=hb.block b (Zc h0)
 exact ⟨b,o,CA,cn,cc,e,⟨(Zm hs _).trans h0,(Zm hs _).trans h1⟩,hc.below hb⟩
structure Zj (w:World) (A:Option Addr) (n cap:Nat) (es:List Ent):Prop where
 len:n=es.length
 at_:ZcT w A es
 nil:A=none→n=0∧cap=0
 lim:n≤1000000
 le:n≤cap
theorem Zj.below {w w':World} {A:Option Addr} {n cap:Nat} {es:List Ent} (h:Zj w A n cap es) (hb:Below w.heap.size w w'):Zj w' A n cap es:=⟨h.len,h.at_.below hb,h.nil,h.lim,h.le⟩
theorem XX {α:Type} (f:α→List Value) (k:Nat) (hf:∀ a,(f a).length=k):∀ (l:List α) (j:Nat) (a:α) (i:Nat),l[j]?=some a→i<k→(l.flatMap f)[j*k+i]?=(f a)[i]?:=by
 intro l
 induction l with
 | nil=>intro j a i h;simp at h
 | cons c l ih=>
  intro j a i h hi
  have hc:=hf c
  rw [List.flatMap_cons]
  rcases j with _ | j
  ·simp at h
   subst h
   rw [Nat.zero_mul,Nat.zero_add,List.getElem?_append_left (by omega)]
  ·rw [List.getElem?_append_right (by rw [hc,Nat.succ_mul];omega),hc,show (j+1)*k+i-k=j*k+i by rw [Nat.succ_mul];omega]
   exact ih j a i (by simpa using h) hi
theorem Qb {α:Type} (f:α→List Value) (k:Nat) (hf:∀ a,(f a).length=k) (l:List α):(l.flatMap f).length=l.length*k:=by
 induction l with
 | nil=>simp
 | cons c l ih=>rw [List.flatMap_cons,List.length_append,hf,ih,List.length_cons,Nat.succ_mul];omega
theorem Zei (c:Cmp):c.cells.length=5:=rfl
theorem ZcU {w:World} {B:Nat} {v:Value} {l:List Cmp} (h:w.ownsRow B 75 5 v l.length (Ya l)) (hl:l.length≤1000000) (hk:∀ c,c∈l→c.kind<256):∃ A c,v=.slice A l.length c∧Zo w A l.length c l:=by
 rcases l with _|⟨c,l⟩
 ·rcases h.2 with ⟨rfl,-⟩|⟨g,cap,cur,rfl,r⟩
  ·exact ⟨none,0,rfl,rfl,fun j c hj=>by simp at hj,fun _=>⟨rfl,rfl⟩,by simp,hk⟩
  ·exact ⟨_,cap,rfl,rfl,fun j c hj=>by simp at hj,(fun e=>by cases e),by simp,hk⟩
 ·obtain ⟨b,cp,rfl,hb,hcell⟩:=Q7 h (by rw [Ya,Qb _ 5 Zei];simp)
  refine ⟨_,cp,rfl,rfl,fun j s hj=>?_,(fun e=>by cases e),hl,hk⟩
  have hk:∀ k,k<5→∀ u,s.cells[k]?=some u→w.cell? ⟨b,0+j*5+k,none⟩=some u:=fun k hk u hu=>by rw [Nat.zero_add];exact hcell _ u ((XX _ 5 Zei _ j s k hj hk).trans hu)
  exact ⟨b,0,rfl,hk 0 (by omega) _ rfl,hk 1 (by omega) _ rfl,hk 2 (by omega) _ rfl,hk 3 (by omega) _ rfl,hk 4 (by omega) _ rfl⟩
structure ER where
 e:Ent
 A:Option Addr
 n:Nat
 c:Nat
def ER.cells (r:ER):List Value:=[.int .i64 r.e.id,.slice r.A r.n r.c]
def ers (l:List ER):List Value:=l.flatMap ER.cells
theorem ZgE (r:ER):r.cells.length=2:=rfl
theorem ZcV (l:List ER) (t:ER):ers (l++[t])=ers l++t.cells:=by simp [ers]
theorem ZaP (t:ER):∀ u∈t.cells,u.oneCell'=true:=by
 intro u hu
 simp only [ER.cells,List.mem_cons,List.not_mem_nil,or_false] at hu
 rcases hu with rfl|rfl<;>rfl
theorem Tq98 {p:Prop} (h:p:=by
 rcases h.2 with ⟨rfl,-⟩|⟨g,cap,cur,rfl,r⟩
 ·exact ⟨none,0,rfl,rfl,fun j c hj=>by simp at hj,fun _=>⟨rfl,rfl⟩,by simp,by simp⟩
 ·exact ⟨_,cap,rfl,rfl,fun j c hj=>by simp at hj,(fun e=>by cases e),by simp,by simp⟩):p:=h
theorem ZcW {w:World} {B:Nat} {v:Value} {l:List ER} (h:w.ownsRow B 70 2 v l.length (ers l)) (hl:l.length≤1000000) (hr:∀ r,r∈l→Zo w r.A r.n r.c r.e.cs):∃ A c,v=.slice A l.length c∧Zj w A l.length c (l.map ER.e):=by
 rcases l with _|⟨c,l⟩
 ·exact Tq98
 ·have hle:=ZcO h
  obtain ⟨b,cp,rfl,hb,hcell⟩:=Q7 h (by rw [ers,Qb _ 2 ZgE];simp)
  refine ⟨_,cp,rfl,by simp,fun j s hj=>?_,(fun e=>by cases e),hl,hle _ _ rfl⟩
  rw [List.getElem?_map] at hj
  rcases hx:(c :: l)[j]? with _ | r
  ·rw [hx] at hj;cases hj
  rw [hx] at hj
  injection hj with hj
  subst hj
  have hk:∀ k,k<2→∀ u,r.cells[k]?=some u→w.cell? ⟨b,0+j*2+k,none⟩=some u:=fun k hk u hu=>by rw [Nat.zero_add];exact hcell _ u ((XX _ 2 ZgE _ j r k hx hk).trans hu)
  exact ⟨b,0,r.A,r.n,r.c,rfl,⟨hk 0 (by omega) _ rfl,hk 1 (by omega) _ rfl⟩,hr r (List.mem_of_getElem? hx)⟩
end
end Go.Proofs.YtlgcfimhfmgkmaaGreatDoor
namespace Go.Proofs.YtlgcfimhfmgkmaaGreatDoor
open Go.RowKit
section
def rgL:Nat→Nat→Int
 | 1,0=>-1048576
 | 1,1=>-1048576
 | 2,0=>-4096
 | 2,1=>-4096
 | 3,0=>1
 | 3,1=>1
 | 4,0=>1
 | 7,_=>-2147483648
 | 10,_=>-2147483648
 | _,_=>0
def rgH:Nat→Nat→Int
 | 1,0=>1048576
 | 1,1=>1048576
 | 2,0=>4096
 | 2,1=>4096
 | 3,0=>16384
 | 3,1=>16384
 | 3,2=>1
 | 3,3=>1
 | 4,0=>8
 | 5,0=>510
 | 6,0=>15
 | 7,_=>2147483647
 | 8,0=>1048576
 | 8,1=>1048576
 | 9,_=>2147483647
 | 10,_=>2147483647
 | _,_=>0
def inR (k i:Nat) (v:Int):Bool:=!(decide (v<rgL k i))&&!(decide (rgH k i<v))
def YJ (c:Cmp):Bool:=decide (1≤c.kind∧c.kind≤10)&&(inR c.kind 0 c.v0&&inR c.kind 1 c.v1&&inR c.kind 2 c.v2&&inR c.kind 3 c.v3)&&(if c.kind=3 then (c.v2==0) || (c.v0==c.v1) else if c.kind=5 then c.v0.tmod 2==0 else true)
def ivF:Nat→Value
 | 0=>.int .i64 0
 | 1=>.int .i64 1
 | 2=>.int .i64 2
 | 3=>.int .i64 3
 | _=>.int .i64 4
theorem ZlW (a b c d e f g h:Value) (W:World):(Instr.index 232 (.agg #[a,b,c,d,e,f,g,h]) (.int .i64 0)).run Tryz.prog W=.ok (.agg #[a,b]) W:=by kernel_rfl
theorem ZlX (a b c d e f g h:Value) (W:World):(Instr.index 232 (.agg #[a,b,c,d,e,f,g,h]) (.int .i64 1)).run Tryz.prog W=.ok (.agg #[c,d]) W:=by kernel_rfl
theorem ZlY (a b c d e f g h:Value) (W:World):(Instr.index 232 (.agg #[a,b,c,d,e,f,g,h]) (.int .i64 2)).run Tryz.prog W=.ok (.agg #[e,f]) W:=by kernel_rfl
theorem ZlZ (a b c d e f g h:Value) (W:World):(Instr.index 232 (.agg #[a,b,c,d,e,f,g,h]) (.int .i64 3)).run Tryz.prog W=.ok (.agg #[g,h]) W:=by kernel_rfl
structure Tabs (w:World):Prop where
 r:∀ k i,k≤10→i<4→w.cell? ⟨1,k*8+i*2,none⟩=some (.int .i64 (rgL k i))∧w.cell? ⟨1,k*8+i*2+1,none⟩=some (.int .i64 (rgH k i))
 s:∀ k,k≤10→w.cell? ⟨0,k,none⟩=some (.int .i64 ((([0,2,2,4,1,1,1,4,2,4,4]:List Nat).getD k 0:Nat):Int))
theorem Tabs.below {w w':World} (h:Tabs w) (hb:Below w.heap.size w w'):Tabs w':=
 ⟨fun k i hk hi=>⟨(Zm (hb.block _ (Zc (h.r k i hk hi).1)) _).trans (h.r k i hk hi).1,(Zm (hb.block _ (Zc (h.r k i hk hi).2)) _).trans (h.r k i hk hi).2⟩,fun k hk=>(Zm (hb.block _ (Zc (h.s k hk))) _).trans (h.s k hk)⟩
theorem QM {w:World} {g:Nat} {x y z u v:Value} {T:TypeId} (h:w.heap[g]?=some (.cells #[x,y,z,u,v] T (0,0))) :
  w.cell? ⟨g,0,none⟩=some x∧w.cell? ⟨g,1,none⟩=some y∧w.cell? ⟨g,2,none⟩=some z∧w.cell? ⟨g,3,none⟩=some u∧w.cell? ⟨g,4,none⟩=some v:=
 ⟨(cell_of_block h 0).trans rfl,(cell_of_block h 1).trans rfl,(cell_of_block h 2).trans rfl,(cell_of_block h 3).trans rfl,(cell_of_block h 4).trans rfl⟩
theorem Tq90 {p:Prop} (h:p:=by
 go_wp2_with fail
 go_ret
 exact ⟨by rw [HD.out,H.out.2.2,if_neg k3,if_pos k5,z2];rfl,H.out.1.trans (HX.out.2.1.mono H.out.1.size)⟩):p:=h
theorem Tq75 {p:Prop} (h:p:=by
 go_enter Tryz.func78,Tryz.ntmps78
 go_upto_region 1 with fail
 rw [←e1,←eg]
 clear e1 eg
 go_wp2_with fail
 go_ret
 exact ⟨rfl,H.out⟩):p:=h
theorem Tq19 {p:Prop} (h:p:=by
 exact ⟨by rw [hR];rfl,hb.trans ((by rw [E3.out];exact YW (HX.out.2.2.1 _ _) _:Below w1.heap.size w1 (w3.drewN _)).mono hb.size)⟩):p:=h
theorem Tq96 {p:Prop} (h:p:=by
 go_quiet (fail)
 go_wp2_with fail
 go_ret
 obtain ⟨hb,eR,eD⟩:=H.out
 have hR:R=false:=by rw [eR];simp [p]
 exact Tq19):p:=h
theorem Tq95 {p:Prop} (h:p:=by
 go_quiet (fail)
 go_wp2_with fail
 go_ret
 obtain ⟨hb,eR,eD⟩:=H.out
 have hR:R=false:=by rw [eR];simp [p,q]
 exact Tq19):p:=h
set_option maxRecDepth 100000 in
set_option maxHeartbeats 4000000 in
theorem Zl0 (c:Cmp) (w:World) (hT:Tabs w) (hk:c.kind<256) :
  Calls Tryz.prog 78 #[c.agg] w fun e w'=>e=.returned (.bool (YJ c))∧Below w.heap.size w w':=by
 obtain ⟨kd,v0,v1,v2,v3⟩:=c
 have hk:kd<256:=hk
 show Calls Tryz.prog 78 #[.agg #[.int .u8 (kd:Nat),.int .i64 v0,.int .i64 v1,.int .i64 v2,.int .i64 v3]] w _
 obtain ⟨g,eg⟩:∃ g,g=w.heap.size:=⟨_,rfl⟩
 obtain ⟨w1,e1⟩:∃ w1,w1=w.alloc (.cells #[.int .u8 (kd:Nat),.int .i64 v0,.int .i64 v1,.int .i64 v2,.int .i64 v3] 75 (0,0)):=⟨_,rfl⟩
 have hb:Below w.heap.size w w1:=by rw [e1];exact (Below.refl _ w).alloc (Nat.le_refl _) _
 have hg:w1.heap[g]?=some (.cells #[.int .u8 (kd:Nat),.int .i64 v0,.int .i64 v1,.int .i64 v2,.int .i64 v3] 75 (0,0)):=by rw [e1,eg];exact heap_alloc_new w _
 obtain ⟨f0,f1,f2,f3,f4⟩:=QM hg
 have hT1:=hT.below hb
 obtain ⟨R,eR⟩:∃ R,R=YJ ⟨kd,v0,v1,v2,v3⟩:=⟨_,rfl⟩
 rw [←eR]
 by_cases q0:kd<1
 ·have d0:decide (kd<1)=true:=decide_eq_true q0
  have d0':decide ((kd:Int)<1)=true:=decide_eq_true (by omega)
  obtain rfl:R=false:=by rw [eR];unfold YJ;simp;omega
  have H:=Qh hb
  clear eR hT1 hT hg hk hb q0
  exact Tq75
 have d0:decide ((kd:Int)<1)=false:=decide_eq_false (by omega)
 by_cases q1:10<kd
 ·have d1:decide ((10:Int)<(kd:Int))=true:=decide_eq_true (by omega)
  obtain rfl:R=false:=by rw [eR];unfold YJ;simp;omega
  have H:=Qh hb
  clear eR hT1 hT hg hk hb q0 q1
  exact Tq75
 have d1:decide ((10:Int)<(kd:Int))=false:=decide_eq_false (by omega)
 have j0:(0:Int)≤(kd:Int):=by omega
 have j1:(kd:Int)<11:=by omega
 obtain ⟨a0,ea0⟩:∃ a,a=rgL kd 0:=⟨_,rfl⟩
 obtain ⟨b0,eb0⟩:∃ a,a=rgH kd 0:=⟨_,rfl⟩
 obtain ⟨ta0,tb0⟩:=hT1.r kd 0 (by omega) (by omega)
 rw [←ea0] at ta0
 rw [←eb0] at tb0
 obtain ⟨a1,ea1⟩:∃ a,a=rgL kd 1:=⟨_,rfl⟩
 obtain ⟨b1,eb1⟩:∃ a,a=rgH kd 1:=⟨_,rfl⟩
 obtain ⟨ta1,tb1⟩:=hT1.r kd 1 (by omega) (by omega)
 rw [←ea1] at ta1
 rw [←eb1] at tb1
 obtain ⟨a2,ea2⟩:∃ a,a=rgL kd 2:=⟨_,rfl⟩
 obtain ⟨b2,eb2⟩:∃ a,a=rgH kd 2:=⟨_,rfl⟩
 obtain ⟨ta2,tb2⟩:=hT1.r kd 2 (by omega) (by omega)
 rw [←ea2] at ta2
 rw [←eb2] at tb2
 obtain ⟨a3,ea3⟩:∃ a,a=rgL kd 3:=⟨_,rfl⟩
 obtain ⟨b3,eb3⟩:∃ a,a=rgH kd 3:=⟨_,rfl⟩
 obtain ⟨ta3,tb3⟩:=hT1.r kd 3 (by omega) (by omega)
 rw [←ea3] at ta3
 rw [←eb3] at tb3
 have ta0:w1.cell? ⟨1,kd*8,none⟩=some (.int .i64 a0):=ta0
 have tb0:w1.cell? ⟨1,kd*8+1,none⟩=some (.int .i64 b0):=tb0
 have ta1:w1.cell? ⟨1,kd*8+2,none⟩=some (.int .i64 a1):=ta1
 have tb1:w1.cell? ⟨1,kd*8+3,none⟩=some (.int .i64 b1):=tb1
 have ta2:w1.cell? ⟨1,kd*8+4,none⟩=some (.int .i64 a2):=ta2
 have tb2:w1.cell? ⟨1,kd*8+5,none⟩=some (.int .i64 b2):=tb2
 have ta3:w1.cell? ⟨1,kd*8+6,none⟩=some (.int .i64 a3):=ta3
 have tb3:w1.cell? ⟨1,kd*8+7,none⟩=some (.int .i64 b3):=tb3
 obtain ⟨D,eD⟩:∃ D,D=(if kd=3 then (v2==0) || (v0==v1) else if kd=5 then v0.tmod 2==0 else true):=⟨_,rfl⟩
 have eR:R=((!(decide (v0<a0))&&!(decide (b0<v0)))&&(!(decide (v1<a1))&&!(decide (b1<v1)))&&(!(decide (v2<a2))&&!(decide (b2<v2)))&&(!(decide (v3<a3))&&!(decide (b3<v3)))&&D):=by
  rw [eR,eD,ea0,ea1,ea2,ea3,eb0,eb1,eb2,eb3]
  unfold YJ inR
  rw [decide_eq_true (by show 1≤kd∧kd≤10;omega),Bool.true_and]
 have H:=Qh (Qi hb (Qi eR eD))
 have HQ:=Qh (Qi q0 q1)
 clear eR eD hb hT hT1 hg hk ea0 ea1 ea2 ea3 eb0 eb1 eb2 eb3 q0 q1
 go_enter Tryz.func78,Tryz.ntmps78
 go_upto_region 1 with fail
 rw [←e1,←eg]
 clear e1 eg
 go_wp2_with fail
 go_loopg [17] 4 (fun gh iv wr=>∃ i:Nat,gh+i=4∧iv=ivF i∧(0<i→decide (v0<a0)=false∧decide (b0<v0)=false)∧(1<i→decide (v1<a1)=false∧decide (b1<v1)=false)∧(2<i→decide (v2<a2)=false∧decide (b2<v2)=false)∧(3<i→decide (v3<a3)=false∧decide (b3<v3)=false)∧Below w1.heap.size w1 wr)
 case atStart=>exact ⟨0,rfl,rfl,by omega,by omega,by omega,by omega,Below.refl _ _⟩
 case round=>
  obtain ⟨i,hgi,hiv,p0,p1,p2,p3,hW⟩:=hrel
  obtain ⟨W,eW⟩:∃ W,W=wr:=⟨_,rfl⟩
  rw [←eW] at hW ⊢
  clear eW ta0 ta1 ta2 ta3 tb0 tb1 tb2 tb3
  obtain ⟨w2,q2,e2⟩:∃ w2:Value→Value→World,∃ q2,(∀ x y,w2 x y=W.alloc (.cells #[x,y] 231 (0,0)))∧q2=W.heap.size:=⟨_,_,fun _ _=>rfl,rfl⟩
  have hcW:∀ (k:Nat) v,w1.cell? ⟨g,k,none⟩=some v→W.cell? ⟨g,k,none⟩=some v:=fun k v h=>(hW.cell (Zc h)).trans h
  have f0W:=hcW _ _ f0
  have fc:∀ x y (k:Nat) v,w1.cell? ⟨g,k,none⟩=some v→(w2 x y).cell? ⟨g,k,none⟩=some v:=fun x y k v h=>by
   rw [e2.1]
   exact (((Below.refl W.heap.size W).alloc (Nat.le_refl _) _).cell (Zc (hcW k v h))).trans (hcW k v h)
  have f1W:=hcW _ _ f1
  have f2W:=hcW _ _ f2
  have f3W:=hcW _ _ f3
  have f4W:=hcW _ _ f4
  have hb2:∀ x y,Below w1.heap.size w1 (w2 x y):=fun x y=>by rw [e2.1];exact hW.alloc hW.size _
  have hr:∀ x y,(w2 x y).heap[q2]?=some (.cells #[x,y] 231 (0,0)):=fun x y=>by rw [e2.1,e2.2];exact heap_alloc_new W _
  have HX:=Qh (Qi hgi (Qi hW (Qi hb2 (Qi p0 (Qi p1 (Qi p2 p3))))))
  have HE:=Qh e2
  clear hW hb2 hcW e2
  rcases (show i=0∨i=1∨i=2∨i=3∨i=4 by omega) with rfl|rfl|rfl|rfl|rfl
  ·obtain rfl:u17=.int .i64 0:=hiv
   clear p0 p1 p2 p3
   have FI:=fun W=>ZlW (.int .i64 a0) (.int .i64 b0) (.int .i64 a1) (.int .i64 b1) (.int .i64 a2) (.int .i64 b2) (.int .i64 a3) (.int .i64 b3) W
   have c1:=fc (.int .i64 a0) (.int .i64 b0) _ _ f1
   have r0:=(cell_of_block (hr (.int .i64 a0) (.int .i64 b0)) 0).trans rfl
   have r1:=(cell_of_block (hr (.int .i64 a0) (.int .i64 b0)) 1).trans rfl
   have r0:(w2 (.int .i64 a0) (.int .i64 b0)).cell? ⟨q2,0,none⟩=some (.int .i64 a0):=r0
   have r1:(w2 (.int .i64 a0) (.int .i64 b0)).cell? ⟨q2,1,none⟩=some (.int .i64 b0):=r1
   clear fc hr f0 f1 f2 f3 f4 f0W f1W f2W f3W f4W
   go_upto_region 6 with fail
   rw [←HE.out.1,←HE.out.2]
   obtain ⟨w3,e3⟩:∃ w3,w3=w2 (.int .i64 a0) (.int .i64 b0):=⟨_,rfl⟩
   rw [←e3] at c1 r0 r1 ⊢
   have E3:=Qh e3
   clear e3
   rcases p:decide (v0<a0) with _ | _
   ·rcases q:decide (b0<v0) with _ | _
    ·go_quiet (fail)
     go_wp2_with fail
     go_roundg 3
     case measure=>omega
     case rel=>
      obtain ⟨hgi,hW,hb2,p0,p1,p2,p3⟩:=HX.out
      refine ⟨1,by omega,by first | rfl | exact congrArg (Value.int .i64) rfl,fun _=>⟨p,q⟩,by omega,by omega,by omega,by rw [E3.out];exact YW (hb2 _ _) _⟩
    ·exact Tq95
   ·exact Tq96
  ·obtain rfl:u17=.int .i64 1:=hiv
   clear p0 p1 p2 p3
   have FI:=fun W=>ZlX (.int .i64 a0) (.int .i64 b0) (.int .i64 a1) (.int .i64 b1) (.int .i64 a2) (.int .i64 b2) (.int .i64 a3) (.int .i64 b3) W
   have c1:=fc (.int .i64 a1) (.int .i64 b1) _ _ f2
   have r0:=(cell_of_block (hr (.int .i64 a1) (.int .i64 b1)) 0).trans rfl
   have r1:=(cell_of_block (hr (.int .i64 a1) (.int .i64 b1)) 1).trans rfl
   have r0:(w2 (.int .i64 a1) (.int .i64 b1)).cell? ⟨q2,0,none⟩=some (.int .i64 a1):=r0
   have r1:(w2 (.int .i64 a1) (.int .i64 b1)).cell? ⟨q2,1,none⟩=some (.int .i64 b1):=r1
   clear fc hr f0 f1 f2 f3 f4 f0W f1W f2W f3W f4W
   go_upto_region 6 with fail
   rw [←HE.out.1,←HE.out.2]
   obtain ⟨w3,e3⟩:∃ w3,w3=w2 (.int .i64 a1) (.int .i64 b1):=⟨_,rfl⟩
   rw [←e3] at c1 r0 r1 ⊢
   have E3:=Qh e3
   clear e3
   rcases p:decide (v1<a1) with _ | _
   ·rcases q:decide (b1<v1) with _ | _
    ·go_quiet (fail)
     go_wp2_with fail
     go_roundg 2
     case measure=>omega
     case rel=>
      obtain ⟨hgi,hW,hb2,p0,p1,p2,p3⟩:=HX.out
      refine ⟨2,by omega,by first | rfl | exact congrArg (Value.int .i64) rfl,fun _=>p0 (by omega),fun _=>⟨p,q⟩,by omega,by omega,by rw [E3.out];exact YW (hb2 _ _) _⟩
    ·exact Tq95
   ·exact Tq96
  ·obtain rfl:u17=.int .i64 2:=hiv
   clear p0 p1 p2 p3
   have FI:=fun W=>ZlY (.int .i64 a0) (.int .i64 b0) (.int .i64 a1) (.int .i64 b1) (.int .i64 a2) (.int .i64 b2) (.int .i64 a3) (.int .i64 b3) W
   have c1:=fc (.int .i64 a2) (.int .i64 b2) _ _ f3
   have r0:=(cell_of_block (hr (.int .i64 a2) (.int .i64 b2)) 0).trans rfl
   have r1:=(cell_of_block (hr (.int .i64 a2) (.int .i64 b2)) 1).trans rfl
   have r0:(w2 (.int .i64 a2) (.int .i64 b2)).cell? ⟨q2,0,none⟩=some (.int .i64 a2):=r0
   have r1:(w2 (.int .i64 a2) (.int .i64 b2)).cell? ⟨q2,1,none⟩=some (.int .i64 b2):=r1
   clear fc hr f0 f1 f2 f3 f4 f0W f1W f2W f3W f4W
   go_upto_region 6 with fail
   rw [←HE.out.1,←HE.out.2]
   obtain ⟨w3,e3⟩:∃ w3,w3=w2 (.int .i64 a2) (.int .i64 b2):=⟨_,rfl⟩
   rw [←e3] at c1 r0 r1 ⊢
   have E3:=Qh e3
   clear e3
   rcases p:decide (v2<a2) with _ | _
   ·rcases q:decide (b2<v2) with _ | _
    ·go_quiet (fail)
     go_wp2_with fail
     go_roundg 1
     case measure=>omega
     case rel=>
      obtain ⟨hgi,hW,hb2,p0,p1,p2,p3⟩:=HX.out
      refine ⟨3,by omega,by first | rfl | exact congrArg (Value.int .i64) rfl,fun _=>p0 (by omega),fun _=>p1 (by omega),fun _=>⟨p,q⟩,by omega,by rw [E3.out];exact YW (hb2 _ _) _⟩
    ·exact Tq95
   ·exact Tq96
  ·obtain rfl:u17=.int .i64 3:=hiv
   clear p0 p1 p2 p3
   have FI:=fun W=>ZlZ (.int .i64 a0) (.int .i64 b0) (.int .i64 a1) (.int .i64 b1) (.int .i64 a2) (.int .i64 b2) (.int .i64 a3) (.int .i64 b3) W
   have c1:=fc (.int .i64 a3) (.int .i64 b3) _ _ f4
   have r0:=(cell_of_block (hr (.int .i64 a3) (.int .i64 b3)) 0).trans rfl
   have r1:=(cell_of_block (hr (.int .i64 a3) (.int .i64 b3)) 1).trans rfl
   have r0:(w2 (.int .i64 a3) (.int .i64 b3)).cell? ⟨q2,0,none⟩=some (.int .i64 a3):=r0
   have r1:(w2 (.int .i64 a3) (.int .i64 b3)).cell? ⟨q2,1,none⟩=some (.int .i64 b3):=r1
   clear fc hr f0 f1 f2 f3 f4 f0W f1W f2W f3W f4W
   go_upto_region 6 with fail
   rw [←HE.out.1,←HE.out.2]
   obtain ⟨w3,e3⟩:∃ w3,w3=w2 (.int .i64 a3) (.int .i64 b3):=⟨_,rfl⟩
   rw [←e3] at c1 r0 r1 ⊢
   have E3:=Qh e3
   clear e3
   rcases p:decide (v3<a3) with _ | _
   ·rcases q:decide (b3<v3) with _ | _
    ·go_quiet (fail)
     go_wp2_with fail
     go_roundg 0
     case measure=>omega
     case rel=>
      obtain ⟨hgi,hW,hb2,p0,p1,p2,p3⟩:=HX.out
      refine ⟨4,by omega,by first | rfl | exact congrArg (Value.int .i64) rfl,fun _=>p0 (by omega),fun _=>p1 (by omega),fun _=>p2 (by omega),fun _=>⟨p,q⟩,by rw [E3.out];exact YW (hb2 _ _) _⟩
    ·exact Tq95
   ·exact Tq96
  ·obtain rfl:u17=.int .i64 4:=hiv
   clear p0 p1 p2 p3 fc hr HE
   have RD:R=D:=by
    obtain ⟨hgi,hW,hb2,p0,p1,p2,p3⟩:=HX.out
    obtain ⟨x0,y0⟩:=p0 (by omega)
    obtain ⟨x1,y1⟩:=p1 (by omega)
    obtain ⟨x2,y2⟩:=p2 (by omega)
    obtain ⟨x3,y3⟩:=p3 (by omega)
    rw [H.out.2.1,x0,y0,x1,y1,x2,y2,x3,y3];rfl
   have HD:=Qh RD
   clear RD f0 f1 f2 f3 f4
   by_cases k3:kd=3
   ·have t3:((kd:Int)==3)=true:=by rw [k3];rfl
    rcases z2:(v2==0) with _ | _
    ·rcases z3:(v0==v1) with _ | _
     ·go_wp2_with fail
      go_ret
      exact ⟨by rw [HD.out,H.out.2.2,if_pos k3,z2,z3];rfl,H.out.1.trans (HX.out.2.1.mono H.out.1.size)⟩
     ·go_wp2_with fail
      go_ret
      exact ⟨by rw [HD.out,H.out.2.2,if_pos k3,z2,z3];rfl,H.out.1.trans (HX.out.2.1.mono H.out.1.size)⟩
    ·go_wp2_with fail
     go_ret
     exact ⟨by rw [HD.out,H.out.2.2,if_pos k3,z2];rfl,H.out.1.trans (HX.out.2.1.mono H.out.1.size)⟩
   have t3:((kd:Int)==3)=false:=by simp;omega
   by_cases k5:kd=5
   ·have t5:((kd:Int)==5)=true:=by rw [k5];rfl
    rcases z2:(v0.tmod 2==0) with _ | _
    ·exact Tq90
    ·exact Tq90
   have t5:((kd:Int)==5)=false:=by simp;omega
   go_wp2_with fail
   go_ret
   exact ⟨by rw [HD.out,H.out.2.2,if_neg k3,if_neg k5];rfl,H.out.1.trans (HX.out.2.1.mono H.out.1.size)⟩
end
end Go.Proofs.YtlgcfimhfmgkmaaGreatDoor
