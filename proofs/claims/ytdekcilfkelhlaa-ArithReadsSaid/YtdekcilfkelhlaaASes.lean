/- A run over objects: contracts. -/
import Derived.Test.YtdekcilfkelhlaaASep
set_option linter.unusedVariables false
namespace Go.Proofs.Ytdekcilfkelhlaa
open Go.RowKit

structure Ses (w0 w : World) (l : List Part) : Prop where
  sep : Sep w l
  base : ∀ p, p ∈ l → ∀ q, q ∈ p.F → w0.heap.size ≤ q
  bel : Below w0.heap.size w0 w
theorem Ses.start (w : World) : Ses w w [] := ⟨Sep.nil w, fun _ h => absurd h (by simp), Below.refl _ _⟩
theorem Ses.perm {w0 w : World} {l m : List Part} (h : Ses w0 w l) (hp : l.Perm m) : Ses w0 w m := ⟨h.sep.perm hp, fun p hm => h.base p (hp.mem_iff.2 hm), h.bel⟩
theorem Ses.below {w0 w w' : World} {l : List Part} (h : Ses w0 w l) (hb : Below w.heap.size w w') : Ses w0 w' l := ⟨h.sep.below hb, h.base, then_ h.bel hb⟩
theorem Ses.alloc {w0 w : World} {l : List Part} (h : Ses w0 w l) (o : Obj) : Ses w0 (w.alloc o) l := h.below ((Below.refl _ _).alloc (Nat.le_refl _) o)
theorem Ses.drewN {w0 w : World} {l : List Part} (h : Ses w0 w l) (n : Nat) : Ses w0 (w.drewN n) l := h.below (then_drewN (Below.refl _ _) n)
theorem Ses.new {w0 w w' : World} {l : List Part} {p : Part} (h : Ses w0 w l) (hb : Below w.heap.size w w') (hp : p.ok w') (hf : ∀ q, q ∈ p.F → w.heap.size ≤ q) : Ses w0 w' (p :: l) := by
  refine ⟨h.sep.new hb hp hf, ?_, then_ h.bel hb⟩
  intro r hr q hq
  rcases List.mem_cons.1 hr with rfl | hr
  · exact Nat.le_trans h.bel.size (hf q hq)
  · exact h.base r hr q hq
theorem Ses.tail {w0 w : World} {l : List Part} {p : Part} (h : Ses w0 w (p :: l)) : Ses w0 w l := ⟨h.sep.tail, fun r hr => h.base r (by simp [hr]), h.bel⟩
theorem Ses.step2 {w0 w w' : World} {l : List Part} {p r p' r' : Part} (h : Ses w0 w (p :: r :: l)) (fr : Fr (p.F ++ r.F) w (p'.F ++ r'.F) w') (hp : p'.ok w') (hr : r'.ok w') (ha : Apart p' r') : Ses w0 w' (p' :: r' :: l) := by
  have hb : ∀ q, q ∈ p.F ++ r.F → w0.heap.size ≤ q := by
    intro q hq
    rcases List.mem_append.1 hq with hq | hq
    · exact h.base p (by simp) q hq
    · exact h.base r (by simp) q hq
  refine ⟨h.sep.step2 fr hp hr ha, ?_, then_fr h.bel fr hb⟩
  have hn := fr.base h.bel.size hb
  intro s hs q hq
  rcases List.mem_cons.1 hs with rfl | hs
  · exact hn q (List.mem_append_left _ hq)
  rcases List.mem_cons.1 hs with rfl | hs
  · exact hn q (List.mem_append_right _ hq)
  · exact h.base s (by simp [hs]) q hq

def zbit : Nat → Nat := fun _ => 0
theorem enc_bit (B bw : Nat) : (encBox B bw).bit = zbit := by
  funext a
  unfold Box.bit
  rw [if_neg (by simp [encBox])]; rfl
section
variable {w0 w : World} {l : List Part}
theorem Ses.model (n : Nat) (h : Ses w0 w l) (h1 : 1 ≤ n) (h2 : n ≤ 256) :
    Calls Try.prog 12 #[.int .i64 (n : Int)] w fun e w' => ∃ bm g, e = .returned (.tuple #[.pointer (some ⟨bm, 0, none⟩), .int .i64 0]) ∧ Ses w0 w' (mPart bm g (List.replicate n 1) :: l) := by
  refine (NewModel_ok n w h1 h2).mono ?_
  rintro e w' ⟨bm, g, rfl, hm, p, q, hb⟩
  refine ⟨bm, g, rfl, h.new hb hm.part ?_⟩
  intro q hq
  simp [mPart] at hq
  rcases hq with rfl | rfl <;> assumption
theorem Ses.enc (h : Ses w0 w l) : Ses w0 (w.alloc (.cells #[.int .u64 0, .int .u64 0, .int .i64 0, .int .i64 0, .slice none 0 0, .int .i64 0, .int .u64 0, .slice none 0 0, .int .i64 0] 33)) (encPart w0.heap.size w.heap.size [w.heap.size] st0 :: l) := by
  refine h.new ((Below.refl _ _).alloc (Nat.le_refl _) _) (EOk.part ⟨enc_new w w0.heap.size h.bel.size, live0, ?_⟩) ?_
  · show w0.heap.size ≤ _
    have := h.bel.size
    simp; omega
  · intro q hq
    simp [encPart] at hq
    omega
theorem Ses.put {bw bm g : Nat} {F fr : List Nat} {s : St} (i : Nat) (h : Ses w0 w (encPart w0.heap.size bw F s :: mPart bm g fr :: l)) (hc : s.cnt < 32768) (hi : i < fr.length) :
    Calls Try.prog 15 #[.pointer (some ⟨bw, 0, none⟩), .pointer (some ⟨bm, 0, none⟩), .int .i64 (i : Nat)] w fun e w' => e = .returned (.int .i64 0) ∧ ∃ F', Ses w0 w' (encPart w0.heap.size bw F' (codeSt zbit fr i s) :: mPart bm g (learn fr i) :: l) := by
  have he : EOk (encBox w0.heap.size bw) w F s := h.sep.head
  have hm : MOk w bm g fr := h.sep.tail.head
  have hF := no_model he.c hm (enc_types _ _)
  refine (Put_e i w he hc hm hi hF (by simp [encBox])).mono ?_
  rintro e w' ⟨rfl, F', h1, h2, h3⟩
  rw [enc_bit] at h1
  have hF' := no_model h1.c h2 (enc_types _ _)
  refine ⟨rfl, F', h.step2 h3 h1.part h2.part ?_⟩
  intro q hq hq2
  simp [mPart] at hq2
  rcases hq2 with rfl | rfl
  · exact hF'.1 hq
  · exact hF'.2 hq
theorem Ses.bytes {bw : Nat} {F : List Nat} {s : St} (n : Nat) (h : Ses w0 w (encPart w0.heap.size bw F s :: l)) (hc : s.cnt ≤ 32768) (hn : nbytes (endBits s) = n) :
    Calls Try.prog 29 #[.pointer (some ⟨bw, 0, none⟩)] w fun e w' => ∃ A cap, e = .returned (.slice A n cap) ∧ BRow w' A n (M.byteOf (endBits s)) ∧ (A = none → n = 0 ∧ cap = 0) ∧ Ses w0 w' (encPart w0.heap.size bw F s :: l) := by
  subst hn
  have he : EOk (encBox w0.heap.size bw) w F s := h.sep.head
  refine (Bytes_e w he hc).mono ?_
  rintro e w' ⟨v, rfl, hv⟩
  obtain ⟨A, cap, rfl, hr, hb, hnil⟩ := hv.brow
  exact ⟨A, cap, rfl, hr, hnil, h.below hb⟩
theorem Ses.freq {bm g : Nat} {fr : List Nat} (s v : Int) (h : Ses w0 w (mPart bm g fr :: l)) (hv : ((if 0 ≤ s then fr.getD s.toNat 0 else 0 : Nat) : Int) = v) :
    Calls Try.prog 13 #[.pointer (some ⟨bm, 0, none⟩), .int .i64 s] w fun e w' => e = .returned (.int .i64 v) ∧ w = w' := by
  subst hv
  exact Freq_ok s w h.sep.head
theorem Ses.total {bm g : Nat} {fr : List Nat} (v : Int) (h : Ses w0 w (mPart bm g fr :: l)) (hv : ((fr.sum : Nat) : Int) = v) :
    Calls Try.prog 14 #[.pointer (some ⟨bm, 0, none⟩)] w fun e w' => e = .returned (.int .i64 v) ∧ w = w' := by
  subst hv
  exact Total_ok w h.sep.head
end
/-- A Decoder as an object; its input is of the same memory. -/
def decPart (B bw : Nat) (G : List Nat) (A : Option Addr) (n cap : Nat) (f : Nat → Nat) (F : List Nat) (s : St) : Part := ⟨F ++ G, fun w => EOk (decBox B bw G A n cap f) w F s⟩
theorem dpart {w : World} {B bw : Nat} {G : List Nat} {A : Option Addr} {n cap : Nat} {f : Nat → Nat} {F : List Nat} {s : St} (h : EOk (decBox B bw G A n cap f) w F s) : (decPart B bw G A n cap f F s).ok w := by
  refine ⟨h, ?_, fun w' hs hz => ⟨?_, h.live, Nat.le_trans h.base hz⟩⟩
  · intro q hq
    rcases List.mem_append.1 hq with hq | hq
    · exact h.c.lt q hq
    · exact (h.c.far q hq).2
  · obtain ⟨cs, hc⟩ := h.c
    refine ⟨cs, hc.same (fun q hq => ?_) hz⟩
    rcases hq with hq | hq
    · exact hs q (List.mem_append_left _ hq)
    · exact hs q (List.mem_append_right _ hq)
theorem dec_types (B bw : Nat) (G : List Nat) (A : Option Addr) (n cap : Nat) (f : Nat → Nat) : (decBox B bw G A n cap f).T ≠ 84 ∧ (decBox B bw G A n cap f).T ≠ 3 := ⟨fun e => absurd (show (90 : Nat) = 84 from e) (by decide), fun e => absurd (show (90 : Nat) = 3 from e) (by decide)⟩
/-- The bits of an input. -/
def inBit (n : Nat) (f : Nat → Nat) (a : Nat) : Nat := if a < 8 * n then f (a / 8) / 2 ^ (7 - a % 8) % 2 else 0
theorem dec_bit (B bw : Nat) (G : List Nat) (A : Option Addr) (n cap : Nat) (f : Nat → Nat) : (decBox B bw G A n cap f).bit = inBit n f := rfl
section
variable {w0 w : World} {l : List Part}
theorem Ses.dec {A : Option Addr} {n cap : Nat} {f : Nat → Nat} (h : Ses w0 w l) (hr : BRow w A n f) (hn : n ≤ 1000000) (hby : ∀ i, i < n → f i < 256) (hnil : A = none → n = 0 ∧ cap = 0) :
    Calls Try.prog 21 #[.slice A n cap] w fun e w' => ∃ B bw G A' cap' F, e = .returned (.pointer (some ⟨bw, 0, none⟩)) ∧ Ses w0 w' (decPart B bw G A' n cap' f F (decAt (inBit n f) 32) :: l) := by
  refine (NewDecoder_ok A n cap f w hr hn hby hnil).mono ?_
  rintro e w' ⟨G, A', cap', rfl, he, hG, hb⟩
  refine ⟨_, _, G, A', cap', _, rfl, h.new hb (dpart he) ?_⟩
  intro q hq
  simp [decPart] at hq
  rcases hq with rfl | hq
  · exact Nat.le_refl _
  · exact hG q hq
theorem Ses.get {B bw bm g n cap : Nat} {G F fr : List Nat} {A : Option Addr} {f : Nat → Nat} {s : St} (h : Ses w0 w (decPart B bw G A n cap f F s :: mPart bm g fr :: l)) (hc : s.cnt < 32768) (hiv : InIv s) :
    Calls Try.prog 38 #[.pointer (some ⟨bw, 0, none⟩), .pointer (some ⟨bm, 0, none⟩)] w fun e w' => e = .returned (.tuple #[.int .i64 (decSym fr s : Nat), .int .i64 0]) ∧ ∃ F', Ses w0 w' (decPart B bw G A n cap f F' (codeSt (inBit n f) fr (decSym fr s) s) :: mPart bm g (learn fr (decSym fr s)) :: l) ∧ InIv (codeSt (inBit n f) fr (decSym fr s) s) := by
  have he : EOk (decBox B bw G A n cap f) w F s := h.sep.head
  have hm : MOk w bm g fr := h.sep.tail.head
  have hF := no_model he.c hm (dec_types _ _ _ _ _ _ _)
  have hap := (List.pairwise_cons.1 h.sep.2).1 (mPart bm g fr) (by simp)
  have hG : bm ∉ (decBox B bw G A n cap f).G ∧ g ∉ (decBox B bw G A n cap f).G := ⟨fun hq => hap bm (List.mem_append_right _ hq) (by simp [mPart]), fun hq => hap g (List.mem_append_right _ hq) (by simp [mPart])⟩
  refine (Get_d w he rfl hiv hc hm hF hG).mono ?_
  rintro e w' ⟨rfl, F', h1, h2, h3, h4⟩
  have hF' := no_model h1.c h3 (dec_types _ _ _ _ _ _ _)
  refine ⟨rfl, F', h.step2 (p' := decPart B bw G A n cap f F' _) (r' := mPart bm g _) ?_ (dpart h1) h3.part ?_, h2⟩
  · show Fr ((F ++ G) ++ [bm, g]) w ((F' ++ G) ++ [bm, g]) w'
    refine ⟨h4.os, h4.tape, h4.output, h4.size, fun q hq hn => h4.block q hq (fun e => hn ?_), fun q hq => ?_⟩
    · rcases List.mem_append.1 e with e | e
      · exact List.mem_append_left _ (List.mem_append_left _ e)
      · exact List.mem_append_right _ e
    · rcases List.mem_append.1 hq with hq | hq
      · rcases List.mem_append.1 hq with hq | hq
        · rcases h4.own q (List.mem_append_left _ hq) with h5 | h5
          · rcases List.mem_append.1 h5 with h5 | h5
            · exact Or.inl (List.mem_append_left _ (List.mem_append_left _ h5))
            · exact Or.inl (List.mem_append_right _ h5)
          · exact Or.inr h5
        · exact Or.inl (List.mem_append_left _ (List.mem_append_right _ hq))
      · exact Or.inl (List.mem_append_right _ hq)
  · intro q hq hq2
    simp [mPart] at hq2
    rcases List.mem_append.1 hq with hq | hq
    · rcases hq2 with rfl | rfl
      · exact hF'.1 hq
      · exact hF'.2 hq
    · rcases hq2 with rfl | rfl
      · exact hG.1 hq
      · exact hG.2 hq
theorem Ses.end_ {B bw n cap : Nat} {G F : List Nat} {A : Option Addr} {f : Nat → Nat} {s : St} (r : Int) (h : Ses w0 w (decPart B bw G A n cap f F s :: l)) (hc : s.cnt ≤ 32768) (hr : (if listF (nbytes (endBits s)) (M.byteOf (endBits s)) = listF n f then 0 else 220 : Int) = r) :
    Calls Try.prog 26 #[.pointer (some ⟨bw, 0, none⟩)] w fun e w' => e = .returned (.int .i64 r) ∧ Ses w0 w' (decPart B bw G A n cap f F s :: l) := by
  subst hr
  have he : EOk (decBox B bw G A n cap f) w F s := h.sep.head
  refine (End_ok w he rfl hc).mono ?_
  rintro e w' ⟨rfl, hb⟩
  exact ⟨rfl, h.below hb⟩
end
end Go.Proofs.Ytdekcilfkelhlaa
