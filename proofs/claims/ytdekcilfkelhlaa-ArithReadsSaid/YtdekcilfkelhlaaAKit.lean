/- A set of models and Numbers as one object. -/
import Derived.Test.YtdekcilfkelhlaaAAwake
import Derived.Test.YtdekcilfkelhlaaARun
set_option linter.unusedVariables false
namespace Go.Proofs.Ytdekcilfkelhlaa
open Go.RowKit

theorem Fr.widen {F F' S T : List Nat} {w w' : World} (h : Fr (F ++ S) w (F' ++ S) w') (hs : ∀ q, q ∈ S → q ∈ T) : Fr (F ++ T) w (F' ++ T) w' := by
  refine ⟨h.os, h.tape, h.output, h.size, fun q hq hn => h.block q hq (fun e => hn ?_), fun q hq => ?_⟩
  · rcases List.mem_append.1 e with e | e
    · exact List.mem_append_left _ e
    · exact List.mem_append_right _ (hs q e)
  · rcases List.mem_append.1 hq with hq | hq
    · rcases h.own q (List.mem_append_left _ hq) with h5 | h5
      · rcases List.mem_append.1 h5 with h5 | h5
        · exact Or.inl (List.mem_append_left _ h5)
        · exact Or.inl (List.mem_append_right _ (hs q h5))
      · exact Or.inr h5
    · exact Or.inl (List.mem_append_right _ hq)

/-- K models, and Numbers, each of three of them. -/
structure KAt (w : World) (K : Nat) (bm g : Nat → Nat) (nums : List (Nat × Nat)) (fr : Bun) : Prop where
  mod : ∀ j, j < K → MOk w (bm j) (g j) (fr j)
  apart : ∀ i j, i < K → j < K → i ≠ j → bm i ≠ bm j ∧ g i ≠ g j
  num : ∀ p, p ∈ nums → NOk w p.1 (bm p.2) (bm (p.2 + 1)) (bm (p.2 + 2)) ∧ p.2 + 2 < K
def kF (K : Nat) (bm g : Nat → Nat) (nums : List (Nat × Nat)) : List Nat := (List.range K).map bm ++ ((List.range K).map g ++ nums.map Prod.fst)
theorem mem_kF {K : Nat} {bm g : Nat → Nat} {nums : List (Nat × Nat)} {q : Nat} : q ∈ kF K bm g nums ↔ (∃ j, j < K ∧ (q = bm j ∨ q = g j)) ∨ ∃ p, p ∈ nums ∧ q = p.1 := by
  unfold kF
  simp only [List.mem_append, List.mem_map, List.mem_range]
  constructor
  · rintro (⟨j, h1, rfl⟩ | ⟨j, h1, rfl⟩ | ⟨p, h1, rfl⟩)
    · exact Or.inl ⟨j, h1, Or.inl rfl⟩
    · exact Or.inl ⟨j, h1, Or.inr rfl⟩
    · exact Or.inr ⟨p, h1, rfl⟩
  · rintro (⟨j, h1, rfl | rfl⟩ | ⟨p, h1, rfl⟩)
    · exact Or.inl ⟨j, h1, rfl⟩
    · exact Or.inr (Or.inl ⟨j, h1, rfl⟩)
    · exact Or.inr (Or.inr ⟨p, h1, rfl⟩)
def kPart (K : Nat) (bm g : Nat → Nat) (nums : List (Nat × Nat)) (fr : Bun) : Part := ⟨kF K bm g nums, fun w => KAt w K bm g nums fr⟩
section
variable {K : Nat} {bm g : Nat → Nat} {nums : List (Nat × Nat)} {fr : Bun} {w w' w0 : World} {l : List Part}
theorem KAt.lt (h : KAt w K bm g nums fr) {q : Nat} (hq : q ∈ kF K bm g nums) : q < w.heap.size := by
  rcases mem_kF.1 hq with ⟨j, h1, rfl | rfl⟩ | ⟨p, h1, rfl⟩
  · exact lt_of_block (h.mod j h1).blk
  · exact lt_of_block (h.mod j h1).row
  · exact lt_of_block (h.num p h1).1
theorem KAt.part (h : KAt w K bm g nums fr) : (kPart K bm g nums fr).ok w := by
  refine ⟨h, fun q hq => h.lt hq, fun w' hs _ => ⟨fun j hj => (h.mod j hj).same (hs _ (mem_kF.2 (Or.inl ⟨j, hj, Or.inl rfl⟩))) (hs _ (mem_kF.2 (Or.inl ⟨j, hj, Or.inr rfl⟩))), h.apart, fun p hp => ⟨?_, (h.num p hp).2⟩⟩⟩
  exact (hs p.1 (mem_kF.2 (Or.inr ⟨p, hp, rfl⟩))).trans (h.num p hp).1
theorem block_types {q : Nat} {cs ds : Array Value} {s t : TypeId} (h1 : w.heap[q]? = some (.cells cs s (0, 0))) (h2 : w.heap[q]? = some (.cells ds t (0, 0))) (hne : s ≠ t) : False := by
  rw [h1] at h2
  injection h2 with h2
  injection h2 with _ h2
  exact hne h2
/-- One model has turned. -/
theorem KAt.turn {F F' : List Nat} {j : Nat} {lf : List Nat} (h : KAt w K bm g nums fr) (hj : j < K) (hm : MOk w' (bm j) (g j) lf) (hfr : Fr (F ++ [bm j, g j]) w (F' ++ [bm j, g j]) w') (hF : ∀ q, q ∈ kF K bm g nums → q ∉ F) : KAt w' K bm g nums (upd fr j lf) := by
  have hjm := h.mod j hj
  refine ⟨fun i hi => ?_, h.apart, fun p hp => ⟨?_, (h.num p hp).2⟩⟩
  · by_cases e : i = j
    · subst e; rw [upd_at]; exact hm
    · rw [upd_far e]
      have him := h.mod i hi
      obtain ⟨a1, a2⟩ := h.apart i j hi hj e
      refine him.keep hfr ?_ ?_
      · intro hq
        rcases List.mem_append.1 hq with hq | hq
        · exact hF _ (mem_kF.2 (Or.inl ⟨i, hi, Or.inl rfl⟩)) hq
        · simp only [List.mem_cons, List.not_mem_nil, or_false] at hq
          rcases hq with hq | hq
          · exact a1 hq
          · exact block_types (hq ▸ him.blk) hjm.row (by decide)
      · intro hq
        rcases List.mem_append.1 hq with hq | hq
        · exact hF _ (mem_kF.2 (Or.inl ⟨i, hi, Or.inr rfl⟩)) hq
        · simp only [List.mem_cons, List.not_mem_nil, or_false] at hq
          rcases hq with hq | hq
          · exact block_types (hq ▸ him.row) hjm.blk (by decide)
          · exact a2 hq
  · have hn := (h.num p hp).1
    refine (hfr.block _ (lt_of_block hn) ?_).trans hn
    intro hq
    rcases List.mem_append.1 hq with hq | hq
    · exact hF _ (mem_kF.2 (Or.inr ⟨p, hp, rfl⟩)) hq
    · simp only [List.mem_cons, List.not_mem_nil, or_false] at hq
      rcases hq with hq | hq
      · exact block_types (hq ▸ hn) hjm.blk (by decide)
      · exact block_types (hq ▸ hn) hjm.row (by decide)
theorem Ses.turn {p p' : Part} {F F' E : List Nat} {j : Nat} {lf : List Nat} (h : Ses w0 w (p :: kPart K bm g nums fr :: l)) (ep : p.F = F ++ E) (ep' : p'.F = F' ++ E) (hp : p'.ok w') (hj : j < K) (h2 : MOk w' (bm j) (g j) lf) (h3 : Fr (F ++ [bm j, g j]) w (F' ++ [bm j, g j]) w') (hno : bm j ∉ F' ∧ g j ∉ F') :
    Ses w0 w' (p' :: kPart K bm g nums (upd fr j lf) :: l) := by
  have hk : KAt w K bm g nums fr := h.sep.tail.head
  have hap : Apart p (kPart K bm g nums fr) := (List.pairwise_cons.1 h.sep.2).1 _ (by simp)
  have hap1 : ∀ q, q ∈ kF K bm g nums → q ∉ F := fun q hq e => hap q (by rw [ep]; exact List.mem_append_left _ e) hq
  have hS : ∀ q, q ∈ [bm j, g j] → q ∈ kF K bm g nums := by
    intro q hq
    simp only [List.mem_cons, List.not_mem_nil, or_false] at hq
    exact mem_kF.2 (Or.inl ⟨j, hj, hq⟩)
  have h4 := h3.widen hS
  refine h.step2 (p' := p') (r' := kPart K bm g nums (upd fr j lf)) ?_ hp (hk.turn hj h2 h3 hap1).part ?_
  · rw [ep, ep']
    show Fr ((F ++ E) ++ kF K bm g nums) w ((F' ++ E) ++ kF K bm g nums) w'
    refine ⟨h4.os, h4.tape, h4.output, h4.size, fun q hq hn => h4.block q hq (fun e => hn ?_), fun q hq => ?_⟩
    · rcases List.mem_append.1 e with e | e
      · exact List.mem_append_left _ (List.mem_append_left _ e)
      · exact List.mem_append_right _ e
    · rcases List.mem_append.1 hq with hq | hq
      · rcases List.mem_append.1 hq with hq | hq
        · rcases h4.own q (List.mem_append_left _ hq) with h5 | h5
          · rcases List.mem_append.1 h5 with h5 | h5
            · exact Or.inl (List.mem_append_left _ (List.mem_append_left _ h5))
            · exact Or.inl (List.mem_append_right _ h5)
          · exact Or.inr h5
        · exact Or.inl (List.mem_append_left _ (List.mem_append_right _ hq))
      · exact Or.inl (List.mem_append_right _ hq)
  · intro q hq hq2
    rw [ep'] at hq
    have hq2' : q ∈ kF K bm g nums := hq2
    rcases List.mem_append.1 hq with hq | hq
    · rcases h3.own q (List.mem_append_left _ hq) with h5 | h5
      · rcases List.mem_append.1 h5 with h5 | h5
        · exact hap1 q hq2' h5
        · simp only [List.mem_cons, List.not_mem_nil, or_false] at h5
          rcases h5 with rfl | rfl
          · exact hno.1 hq
          · exact hno.2 hq
      · have := hk.lt hq2'; omega
    · exact hap q (by rw [ep]; exact List.mem_append_right _ hq) hq2'
end
section
variable {K : Nat} {bm g : Nat → Nat} {nums : List (Nat × Nat)} {fr : Bun} {w w' w0 : World} {l : List Part} {bw : Nat} {F : List Nat} {s : St}
theorem Ses.kcode (j i : Nat) (h : Ses w0 w (encPart w0.heap.size bw F s :: kPart K bm g nums fr :: l)) (hc : s.cnt < 32768) (hj : j < K) (hi : i < (fr j).length) :
    Calls Try.prog 42 #[.pointer (some ⟨bw, 0, none⟩), .pointer (some ⟨bm j, 0, none⟩), .int .i64 (i : Nat)] w fun e w' => e = .returned (.tuple #[]) ∧ ∃ F', Ses w0 w' (encPart w0.heap.size bw F' (step zbit (s, fr) (j, i)).1 :: kPart K bm g nums (step zbit (s, fr) (j, i)).2 :: l) := by
  have he : EOk (encBox w0.heap.size bw) w F s := h.sep.head
  have hk : KAt w K bm g nums fr := h.sep.tail.head
  have hm := hk.mod j hj
  have hF := no_model he.c hm (enc_types _ _)
  refine (codes_ok i w he hc hm hi hF (by simp [encBox])).mono ?_
  rintro e w' ⟨rfl, F', h1, h2, h3⟩
  rw [enc_bit] at h1
  exact ⟨rfl, F', h.turn (E := []) (List.append_nil _).symm (List.append_nil _).symm h1.part hj h2 h3 (no_model h1.c h2 (enc_types _ _))⟩
theorem Ses.kcode_z (j i : Nat) (x : Int) (m : Nat) (h : Ses w0 w (encPart w0.heap.size bw F s :: kPart K bm g nums fr :: l)) (hx : x = (i : Nat)) (hc : s.cnt < 32768) (hj : j < K) (hi : i < (fr j).length) :
    Calls Try.prog 42 #[.pointer (some ⟨bw, 0, none⟩), .pointer (some ⟨bm j, 0, none⟩), .int .i64 x] (w.drewN m) fun e w' => e = .returned (.tuple #[]) ∧ ∃ F', Ses w0 w' (encPart w0.heap.size bw F' (step zbit (s, fr) (j, i)).1 :: kPart K bm g nums (step zbit (s, fr) (j, i)).2 :: l) := by
  subst hx
  exact (h.drewN m).kcode j i hc hj hi
theorem Ses.kput (j i : Nat) (h : Ses w0 w (encPart w0.heap.size bw F s :: kPart K bm g nums fr :: l)) (hc : s.cnt < 32768) (hj : j < K) (hi : i < (fr j).length) :
    Calls Try.prog 15 #[.pointer (some ⟨bw, 0, none⟩), .pointer (some ⟨bm j, 0, none⟩), .int .i64 (i : Nat)] w fun e w' => e = .returned (.int .i64 0) ∧ ∃ F', Ses w0 w' (encPart w0.heap.size bw F' (step zbit (s, fr) (j, i)).1 :: kPart K bm g nums (step zbit (s, fr) (j, i)).2 :: l) := by
  have he : EOk (encBox w0.heap.size bw) w F s := h.sep.head
  have hk : KAt w K bm g nums fr := h.sep.tail.head
  have hm := hk.mod j hj
  have hF := no_model he.c hm (enc_types _ _)
  refine (Put_e i w he hc hm hi hF (by simp [encBox])).mono ?_
  rintro e w' ⟨rfl, F', h1, h2, h3⟩
  rw [enc_bit] at h1
  exact ⟨rfl, F', h.turn (E := []) (List.append_nil _).symm (List.append_nil _).symm h1.part hj h2 h3 (no_model h1.c h2 (enc_types _ _))⟩
theorem Ses.kfreq (j : Nat) (s v : Int) (h : Ses w0 w (kPart K bm g nums fr :: l)) (hj : j < K) (hv : ((if 0 ≤ s then (fr j).getD s.toNat 0 else 0 : Nat) : Int) = v) :
    Calls Try.prog 13 #[.pointer (some ⟨bm j, 0, none⟩), .int .i64 s] w fun e w' => e = .returned (.int .i64 v) ∧ w = w' := by
  subst hv
  have hk : KAt w K bm g nums fr := h.sep.head
  exact Freq_ok s w (hk.mod j hj)
theorem Ses.ktotal (j : Nat) (v : Int) (h : Ses w0 w (kPart K bm g nums fr :: l)) (hj : j < K) (hv : (((fr j).sum : Nat) : Int) = v) :
    Calls Try.prog 14 #[.pointer (some ⟨bm j, 0, none⟩)] w fun e w' => e = .returned (.int .i64 v) ∧ w = w' := by
  subst hv
  have hk : KAt w K bm g nums fr := h.sep.head
  exact Total_ok w (hk.mod j hj)
end
section
variable {K : Nat} {bm g : Nat → Nat} {nums : List (Nat × Nat)} {fr : Bun} {w w' w0 : World} {l : List Part} {B bw n cap : Nat} {G F : List Nat} {A : Option Addr} {f : Nat → Nat} {s : St}
theorem Ses.kget (j : Nat) (h : Ses w0 w (decPart B bw G A n cap f F s :: kPart K bm g nums fr :: l)) (hc : s.cnt < 32768) (hiv : InIv s) (hj : j < K) :
    Calls Try.prog 38 #[.pointer (some ⟨bw, 0, none⟩), .pointer (some ⟨bm j, 0, none⟩)] w fun e w' => e = .returned (.tuple #[.int .i64 (decSym (fr j) s : Nat), .int .i64 0]) ∧ ∃ F', Ses w0 w' (decPart B bw G A n cap f F' (step (inBit n f) (s, fr) (j, decSym (fr j) s)).1 :: kPart K bm g nums (step (inBit n f) (s, fr) (j, decSym (fr j) s)).2 :: l) := by
  have he : EOk (decBox B bw G A n cap f) w F s := h.sep.head
  have hk : KAt w K bm g nums fr := h.sep.tail.head
  have hm := hk.mod j hj
  have hF := no_model he.c hm (dec_types _ _ _ _ _ _ _)
  have hap := (List.pairwise_cons.1 h.sep.2).1 (kPart K bm g nums fr) (by simp)
  have hG : bm j ∉ (decBox B bw G A n cap f).G ∧ g j ∉ (decBox B bw G A n cap f).G := ⟨fun hq => hap (bm j) (List.mem_append_right _ hq) (mem_kF.2 (Or.inl ⟨j, hj, Or.inl rfl⟩)), fun hq => hap (g j) (List.mem_append_right _ hq) (mem_kF.2 (Or.inl ⟨j, hj, Or.inr rfl⟩))⟩
  refine (Get_d w he rfl hiv hc hm hF hG).mono ?_
  rintro e w' ⟨rfl, F', h1, h2, h3, h4⟩
  exact ⟨rfl, F', h.turn (p' := decPart B bw G A n cap f F' _) (E := G) rfl rfl (dpart h1) hj h3 h4 (no_model h1.c h3 (dec_types _ _ _ _ _ _ _))⟩
theorem Ses.ksym (j : Nat) (h : Ses w0 w (decPart B bw G A n cap f F s :: kPart K bm g nums fr :: l)) (hc : s.cnt < 32768) (hiv : InIv s) (hj : j < K) :
    Calls Try.prog 62 #[.pointer (some ⟨bw, 0, none⟩), .pointer (some ⟨bm j, 0, none⟩)] w fun e w' => e = .returned (.int .i64 (decSym (fr j) s : Nat)) ∧ ∃ F', Ses w0 w' (decPart B bw G A n cap f F' (step (inBit n f) (s, fr) (j, decSym (fr j) s)).1 :: kPart K bm g nums (step (inBit n f) (s, fr) (j, decSym (fr j) s)).2 :: l) := by
  have he : EOk (decBox B bw G A n cap f) w F s := h.sep.head
  have hk : KAt w K bm g nums fr := h.sep.tail.head
  have hm := hk.mod j hj
  have hF := no_model he.c hm (dec_types _ _ _ _ _ _ _)
  have hap := (List.pairwise_cons.1 h.sep.2).1 (kPart K bm g nums fr) (by simp)
  have hG : bm j ∉ (decBox B bw G A n cap f).G ∧ g j ∉ (decBox B bw G A n cap f).G := ⟨fun hq => hap (bm j) (List.mem_append_right _ hq) (mem_kF.2 (Or.inl ⟨j, hj, Or.inl rfl⟩)), fun hq => hap (g j) (List.mem_append_right _ hq) (mem_kF.2 (Or.inl ⟨j, hj, Or.inr rfl⟩))⟩
  refine (symbol_ok w he hiv hc hm hF hG).mono ?_
  rintro e w' ⟨rfl, F', h1, h2, h3, h4⟩
  exact ⟨rfl, F', h.turn (p' := decPart B bw G A n cap f F' _) (E := G) rfl rfl (dpart h1) hj h3 h4 (no_model h1.c h3 (dec_types _ _ _ _ _ _ _))⟩
end
end Go.Proofs.Ytdekcilfkelhlaa
