/- bytes.Equal, End. -/
import Derived.Test.YtdekcilfkelhlaaASym
import Derived.Laws.BytesArg
import Derived.Lib.Bytes
set_option linter.unusedVariables false
namespace Go.Proofs.Ytdekcilfkelhlaa
open Go.RowKit

/-- A row of bytes at an address without a spot, or none. -/
def Flat (w : World) (A : Option Addr) (n : Nat) (f : Nat → Nat) : Prop := n = 0 ∨ ∃ g o, A = some ⟨g, o, none⟩ ∧ ∀ i, i < n → w.cell? ⟨g, o + i, none⟩ = some (.int .u8 ((f i : Nat) : Int))
theorem Row.flat {w : World} {F : List Nat} {A : Option Addr} {n : Nat} {f : Nat → Nat} (h : Row w F A n f) : Flat w A n f := by
  rcases h with h | ⟨g, cur, rfl, _, hh, hc⟩
  · exact Or.inl h
  · exact Or.inr ⟨g, 0, rfl, fun i hi => by rw [Nat.zero_add, cell_of_block hh i]; exact hc i hi⟩
def strF (n : Nat) (f : Nat → Nat) : ByteArray := strOfNums ((List.range n).map fun i => ((f i : Nat) : Int))
theorem conv_ok {w : World} {A : Option Addr} {n : Nat} {f : Nat → Nat} (h : Flat w A n f) (c : Nat) :
    (convert 22 9 (.slice A n c)).run Try.prog w = .ok (.string (strF n f)) w := by
  have hs : Try.prog.underlying 22 = some (.slice 5) := Try.underlying22
  have he : Try.prog.underlying 5 = some (.int .u8) := Try.underlying5
  have hd : Try.prog.underlying 9 = some .string := Try.underlying9
  rcases h with rfl | ⟨g, o, rfl, hc⟩
  · rw [run_convert_bytes_string w 22 9 5 _ 0 c hs he hd]
    cases A <;> simp [Conv.bytesToString, loadCells, strF]
    all_goals rfl
  · refine run_convert_bytes_arg (P := Try.prog) w 22 5 hs he g o n c _ (by simp) ?_ 9 hd
    intro i hi
    rw [hc i hi]
    simp [List.getD_eq_getElem?_getD, hi]
def listF (n : Nat) (f : Nat → Nat) : List UInt8 := (List.range n).map fun i => UInt8.ofNat (f i)
theorem strF_list (n : Nat) (f : Nat → Nat) : (strF n f).toList = listF n f := by
  unfold strF listF
  rw [Lib.strOfNums_toList]
  unfold Lib.bytesOf
  rw [List.map_map]
  rfl
theorem u8_inj {a b : Nat} (ha : a < 256) (hb : b < 256) (h : UInt8.ofNat a = UInt8.ofNat b) : a = b := by
  have := congrArg UInt8.toNat h
  simp at this
  omega
theorem listF_eq {n m : Nat} {f g : Nat → Nat} (hf : ∀ i, i < n → f i < 256) (hg : ∀ i, i < m → g i < 256) : listF n f = listF m g ↔ n = m ∧ ∀ i, i < n → f i = g i := by
  constructor
  · intro h
    have hl := congrArg List.length h
    simp [listF] at hl
    subst hl
    refine ⟨rfl, fun i hi => ?_⟩
    have := congrArg (fun l : List UInt8 => l[i]?) h
    simp [listF, hi] at this
    exact u8_inj (hf i hi) (hg i hi) (by simpa using this)
  · rintro ⟨rfl, h⟩
    unfold listF
    refine List.map_congr_left fun i hi => ?_
    rw [h i (List.mem_range.1 hi)]
theorem Equal_ok {A C : Option Addr} {n m ca cc : Nat} {f g : Nat → Nat} (w : World) (hA : Flat w A n f) (hC : Flat w C m g) :
    Calls Try.prog 34 #[.slice A n ca, .slice C m cc] w fun e w' => e = .returned (.bool (listF n f == listF m g)) ∧ w = w' := by
  rw [← strF_list, ← strF_list]
  have h1 := conv_ok hA ca
  have h2 := conv_ok hC cc
  generalize strF n f = S at *
  generalize strF m g = T at *
  clear hA hC
  go_enter Try.func34, Try.ntmps34
  go_wp2_with fail
  go_ret
  exact ⟨rfl, rfl⟩

theorem End_there {X : Box} {F : List Nat} {s : St} {sh : Nat} (w : World) (h : COk X w F s sh) (h9 : X.x9 = some (.bool true)) :
    Calls Try.prog 54 #[.pointer (some ⟨X.bw, 0, none⟩)] w fun e w' => e = .returned (.bool true) ∧ w = w' := by
  have c9 : w.cell? ⟨X.bw, 9, none⟩ = some (.bool true) := by
    obtain ⟨cs, h⟩ := h
    exact (h.cell 9).trans (h.c9.trans h9)
  clear h h9
  go_enter Try.func54, Try.ntmps54
  go_wp2_with fail
  go_ret
  exact ⟨rfl, rfl⟩
theorem Get_d {X : Box} {F : List Nat} {st : St} {bm g : Nat} {fr : List Nat} (w : World) (h : EOk X w F st) (h9 : X.x9 = some (.bool true)) (hiv : InIv st) (hc : st.cnt < 32768) (hm : MOk w bm g fr) (hF : bm ∉ F ∧ g ∉ F) (hG : bm ∉ X.G ∧ g ∉ X.G) :
    Calls Try.prog 38 #[.pointer (some ⟨X.bw, 0, none⟩), .pointer (some ⟨bm, 0, none⟩)] w fun e w' => e = .returned (.tuple #[.int .i64 (decSym fr st : Nat), .int .i64 0]) ∧ ∃ F', EOk X w' F' (codeSt X.bit fr (decSym fr st) st) ∧ InIv (codeSt X.bit fr (decSym fr st) st) ∧ MOk w' bm g (learn fr (decSym fr st)) ∧ Fr (F ++ [bm, g]) w (F' ++ [bm, g]) w' := by
  obtain ⟨_, _, _, k3, _⟩ := h.c.cells
  have hs := symbol_ok w h hiv hc hm hF hG
  have ht := End_there w h.c h9
  have hth := there_ok w hm
  have d1 : decide ((32768 : Int) ≤ (st.cnt : Nat)) = false := decide_eq_false (by omega)
  have H := Lib.hid (And.intro hs (And.intro ht hth))
  clear h hm hs ht hth hiv h9
  go_enter Try.func38, Try.ntmps38
  go_wp2_with fail
  refine H.out.2.1.mono ?_
  rintro e w' ⟨rfl, rfl⟩
  go_wp2_with fail
  refine H.out.2.2.mono ?_
  rintro e w' ⟨rfl, rfl⟩
  go_wp2_with fail
  refine H.out.1.mono ?_
  rintro e w' ⟨rfl, hq⟩
  have HQ := Lib.hid hq; clear hq
  go_wp2_with fail
  go_ret2
  exact ⟨rfl, HQ.out⟩
theorem Get_full {X : Box} {F : List Nat} {st : St} {bm g : Nat} {fr : List Nat} (w : World) (h : EOk X w F st) (h9 : X.x9 = some (.bool true)) (hc : 32768 ≤ st.cnt) (hm : MOk w bm g fr) :
    Calls Try.prog 38 #[.pointer (some ⟨X.bw, 0, none⟩), .pointer (some ⟨bm, 0, none⟩)] w fun e w' => e = .returned (.tuple #[.int .i64 0, .int .i64 4]) ∧ w = w' := by
  obtain ⟨_, _, _, k3, _⟩ := h.c.cells
  have ht := End_there w h.c h9
  have hth := there_ok w hm
  have d1 : decide ((32768 : Int) ≤ (st.cnt : Nat)) = true := decide_eq_true (by omega)
  have H := Lib.hid (And.intro ht hth)
  clear h hm ht hth h9
  go_enter Try.func38, Try.ntmps38
  go_wp2_with fail
  refine H.out.1.mono ?_
  rintro e w' ⟨rfl, rfl⟩
  go_wp2_with fail
  refine H.out.2.mono ?_
  rintro e w' ⟨rfl, rfl⟩
  go_wp2_with fail
  go_ret2
  exact ⟨rfl, rfl⟩
/-- End: the code that the decoder would write, against its input. -/
theorem End_ok {X : Box} {F : List Nat} {st : St} (w : World) (h : EOk X w F st) (h9 : X.x9 = some (.bool true)) (hc : st.cnt ≤ 32768) :
    Calls Try.prog 26 #[.pointer (some ⟨X.bw, 0, none⟩)] w fun e w' => e = .returned (.int .i64 (if listF (nbytes (endBits st)) (M.byteOf (endBits st)) = listF X.n X.f then 0 else 220)) ∧ Below w.heap.size w w' := by
  have := h.live.at_
  have := h.live.good.out
  have hb := fun n => bytes_ok _ (w.drewN n) (h.c.drewN n) (by omega)
  have ht := End_there w h.c h9
  obtain ⟨r, er⟩ : ∃ r : Int, r = if listF (nbytes (endBits st)) (M.byteOf (endBits st)) = listF X.n X.f then 0 else 220 := ⟨_, rfl⟩
  rw [← er]
  have H := Lib.hid (And.intro h (And.intro hb ht))
  have HR := Lib.hid er
  clear h hb ht h9 er
  go_enter Try.func26, Try.ntmps26
  go_wp2_with fail
  refine H.out.2.2.mono ?_
  rintro e w' ⟨rfl, rfl⟩
  go_upto_region 3 with fail
  obtain ⟨_, _, _, _, _, k7, _, _⟩ := H.out.1.c.cells
  have hb7 : ∀ m w1, Below (w.drewN m).heap.size (w.drewN m) w1 → w1.cell? ⟨X.bw, 7, none⟩ = some (.slice X.A X.n X.cap) ∧ Flat w1 X.A X.n X.f := by
    intro m w1 hb
    have h1 := (H.out.1.c.drewN m).below hb
    obtain ⟨_, _, _, _, _, k7, _, _⟩ := h1.cells
    obtain ⟨cs, h1⟩ := h1
    exact ⟨k7, h1.row.flat⟩
  obtain ⟨N, eN⟩ : ∃ N, N = nbytes (endBits st) := ⟨_, rfl⟩
  have H7 := Lib.hid (And.intro hb7 (And.intro eN (show ∀ m w1, Below (w.drewN m).heap.size (w.drewN m) w1 → Below w.heap.size w w1 from fun m w1 h => (then_drewN (Below.refl w.heap.size w) m).trans h))); clear hb7 eN
  go_cut [7] (fun v wx => v = .bool (!(listF (nbytes (endBits st)) (M.byteOf (endBits st)) == listF X.n X.f)) ∧ Below w.heap.size w wx)
  case first =>
    go_region_with (first
      | ((refine (H.out.2.1 _).mono ?_)
         (rintro e w1 ⟨v, rfl, hv⟩)
         (obtain ⟨⟨F1, A1, cap1, rfl, hrow, _, _⟩, hbel⟩ := hv)
         (obtain ⟨k7', hfl⟩ := H7.out.1 _ _ hbel)
         (have HQ := Lib.hid (And.intro hrow (And.intro hbel hfl)))
         (clear hrow hbel hfl))
      | ((refine (Equal_ok _ (Row.flat HQ.out.1) HQ.out.2.2).mono ?_)
         (rintro e w2 ⟨rfl, rfl⟩)))
    all_goals
      go_wp2_with fail
      go_meet
      refine ⟨?_, ?_⟩
      · rfl
      · exact H7.out.2.2 _ _ HQ.out.2.1
  case rest =>
    obtain ⟨rfl, hbw⟩ := hcut
    have HW := Lib.hid hbw; clear hbw k7
    by_cases hq : listF (nbytes (endBits st)) (M.byteOf (endBits st)) = listF X.n X.f
    · have hr := HR.out
      rw [if_pos hq] at hr
      have HRR := Lib.hid hr; clear hr
      have hd : (listF (nbytes (endBits st)) (M.byteOf (endBits st)) == listF X.n X.f) = true := by rw [beq_iff_eq]; exact hq
      rw [hd]
      clear hd hq
      go_wp2_with fail
      go_ret
      exact ⟨ret_congr (congrArg (Value.int .i64) HRR.out.symm), HW.out⟩
    · have hr := HR.out
      rw [if_neg hq] at hr
      have HRR := Lib.hid hr; clear hr
      have hd : (listF (nbytes (endBits st)) (M.byteOf (endBits st)) == listF X.n X.f) = false := by rw [beq_eq_false_iff_ne]; exact hq
      rw [hd]
      clear hd hq
      go_wp2_with fail
      go_ret
      exact ⟨ret_congr (congrArg (Value.int .i64) HRR.out.symm), HW.out⟩
end Go.Proofs.Ytdekcilfkelhlaa
