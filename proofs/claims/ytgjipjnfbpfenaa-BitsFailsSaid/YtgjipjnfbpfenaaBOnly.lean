/- BitsOnly. -/
import Derived.Test.YtgjipjnfbpfenaaBInverse
set_option linter.unusedVariables false
namespace Go.Proofs.Ytgjipjnfbpfenaa
open Go.RowKit
open M (bitsOf bitsOf_length codeBits codeBits_length zig zag numOf zeros codeA)

theorem byte8_num (a b c d e f g h : Bool) : M.byte8 a b c d e f g h = numOf [a, b, c, d, e, f, g, h] := by
  simp only [numOf, List.foldl, M.byte8]; omega
theorem byte8_of (x : Nat) (h : x < 256) : M.byte8 (x.testBit 7) (x.testBit 6) (x.testBit 5) (x.testBit 4) (x.testBit 3) (x.testBit 2) (x.testBit 1) (x.testBit 0) = x := by
  rw [byte8_num]
  have e : [x.testBit 7, x.testBit 6, x.testBit 5, x.testBit 4, x.testBit 3, x.testBit 2, x.testBit 1, x.testBit 0] = bitsOf x 8 := rfl
  rw [e]; exact M.numOf_bitsOf_lt h
/-- The bits of bytes. -/
def bitsB (f : Nat → Nat) (m : Nat) : List Bool := seg (fun i => bitsOf (f i) 8) 0 m
theorem bitsB_length (f : Nat → Nat) (m : Nat) : (bitsB f m).length = 8 * m := by
  unfold bitsB
  induction m with
  | zero => simp [seg_end]
  | succ m ih => rw [seg_snoc _ (by omega), List.length_append, ih, bitsOf_length]; omega
theorem bitsB_getD (f : Nat → Nat) {m i c : Nat} (hi : i < m) (hc : c < 8) : (bitsB f m).getD (8 * i + c) false = (f i).testBit (7 - c) := by
  induction m with
  | zero => omega
  | succ m ih =>
    have hl := bitsB_length f m
    have e : bitsB f (m + 1) = bitsB f m ++ bitsOf (f m) 8 := by unfold bitsB; rw [seg_snoc _ (by omega)]
    rw [e, List.getD_eq_getElem?_getD]
    rcases Nat.lt_or_ge i m with h | h
    · rw [List.getElem?_append_left (by omega), ← List.getD_eq_getElem?_getD]; exact ih h
    · obtain rfl : i = m := by omega
      rw [List.getElem?_append_right (by omega), hl, show 8 * i + c - 8 * i = c from by omega]
      unfold M.bitsOf M.bitsUpto
      rw [List.getElem?_map, List.getElem?_range hc]
      rfl
theorem byteOf_bitsB (f : Nat → Nat) {m i : Nat} (hi : i < m) (hf : f i < 256) : M.byteOf (bitsB f m) i = f i := by
  unfold M.byteOf
  have k := fun c hc => bitsB_getD f (c := c) hi hc
  rw [show 8 * i = 8 * i + 0 from rfl, k 0 (by omega), k 1 (by omega), k 2 (by omega), k 3 (by omega), k 4 (by omega), k 5 (by omega), k 6 (by omega), k 7 (by omega)]
  exact byte8_of (f i) hf
theorem BRow.congr {w : World} {A : Option Addr} {n : Nat} {f g : Nat → Nat} (h : BRow w A n f) (e : ∀ i, i < n → f i = g i) : BRow w A n g := by
  intro i hi
  obtain ⟨ad, e1, hc⟩ := h i hi
  exact ⟨ad, e1, by rw [← e i hi]; exact hc⟩
theorem getA_one (b : Bool) (t : List Bool) : getA 1 (b :: t) 0 = (b.toNat, 0, t, 0) := by
  unfold getA
  rw [if_neg (by simp), if_neg (by simp)]
  simp [numOf]
theorem bitsOf_bool (b : Bool) : bitsOf b.toNat 1 = [b] := by cases b <;> rfl
theorem nbytes_bits (f : Nat → Nat) (m : Nat) : nbytes (bitsB f m) = m := by unfold nbytes; rw [bitsB_length]; omega
theorem codeBits_pos (n k : Nat) : 1 ≤ (codeBits n k).length := by rw [codeBits_length]; omega

theorem read_z {br : Nat} {F : List Nat} {s : List Bool} {bad : Nat} {kdI kI n : Int} (kind k V E : Nat) (t : List Bool) (b : Nat) {w : World} (h : ROk w br F s bad) (e1 : kdI = kind) (e2 : kI = k) (h0 : kind % 3 = 0 → k ≤ 64) (h3 : kind % 3 ≠ 0 → k ≤ 30) (hk : kind < 256) (e : readA kind k s bad = (V, E, t, b)) :
    Calls Try.prog 23 #[.pointer (some ⟨br, 0, none⟩), .agg #[.int .u8 kdI, .int .u64 n, .int .i64 kI]] w fun e w' =>
      e = .returned (.tuple #[.int .u64 (V : Int), .int .i64 (E : Int)]) ∧ ROk w' br F t b ∧ Fr [br] w [br] w' := by
  subst e1 e2; exact read_to V E t b h h0 h3 hk e
theorem write_z {B bw : Nat} {F : List Nat} {l : List Bool} {kdI nI kI : Int} (kind n k : Nat) {w : World} (h : WOk w B bw F l) (hB : B ≤ w.heap.size) (e1 : kdI = kind) (e2 : nI = n) (e3 : kI = k) (hf : Fit kind n k) (hl : l.length + (itemBits kind n k).length ≤ 1048576) :
    Calls Try.prog 25 #[.pointer (some ⟨bw, 0, none⟩), .agg #[.int .u8 kdI, .int .u64 nI, .int .i64 kI]] w fun e w' => e = .returned (.int .i64 0) ∧ ∃ F', WOk w' B bw F' (l ++ itemBits kind n k) ∧ Fr F w F' w' := by
  subst e1 e2 e3; exact write_ok B bw F l kind n k w h hB hf hl

theorem BRow.fewer {w : World} {A : Option Addr} {n m : Nat} {f : Nat → Nat} (h : BRow w A n f) (hm : m ≤ n) : BRow w A m f := fun i hi => h i (by omega)
theorem ROk.far {w : World} {br : Nat} {F : List Nat} {s : List Bool} {bad : Nat} (h : ROk w br F s bad) {b : Nat} (hb : b ∉ br :: F) (i : Nat) (u : Value) : ROk (w.setCell ⟨b, i, none⟩ u) br F s bad := by
  obtain ⟨bl, a, hr, e⟩ := h
  exact ⟨bl, a, hr.same (fun q hq => Below.heap_setCell _ _ _ _ (fun e => hb (by cases e; exact hq))) (by simp [World.setCell]), e⟩
theorem WOk.far {w : World} {B bw : Nat} {F : List Nat} {l : List Bool} (h : WOk w B bw F l) {b : Nat} (hb : b ∉ F) (i : Nat) (u : Value) : WOk (w.setCell ⟨b, i, none⟩ u) B bw F l :=
  h.same fun q hq => Below.heap_setCell _ _ _ _ (fun e => hb (by cases e; exact hq))

/-- The reading of a code as an item: what comes of it. -/
theorem readA_err {kd K : Nat} {s : List Bool} (hk : kd = 1 ∨ kd = 2) (h : (codeA K s).1 ≠ 0) : readA kd K s 0 = (0, (codeA K s).1, [], (codeA K s).1) := by
  unfold readA getC
  rcases hk with rfl | rfl
  · rw [if_neg (by decide), if_pos rfl, if_neg (by simp), if_neg h]
  · rw [if_neg (by decide), if_neg (by decide), if_neg (by simp), if_neg h]
    show (zag 0, _) = _
    rfl
theorem readA_ok {kd K v : Nat} {s t : List Bool} (hk : kd = 1 ∨ kd = 2) (hK : K ≤ 30) (h : codeA K s = (0, v, t)) :
    ∃ n, readA kd K s 0 = (n, 0, t, 0) ∧ n < 18446744073709551616 ∧ itemBits kd n K = codeBits v K := by
  have hv := (M.codeA_ok K s t v hK h).1
  unfold readA getC itemBits
  rw [h]
  rcases hk with rfl | rfl
  · exact ⟨v, rfl, by simpa using hv, rfl⟩
  · refine ⟨zag v, rfl, by have := M.zag_lt hv; simpa using this, ?_⟩
    rw [if_neg (by decide), if_neg (by decide), M.zig_zag hv]
set_option maxRecDepth 100000 in
set_option maxHeartbeats 4000000 in
theorem only_walk_u (A : Option Addr) (n cap : Nat) (k : Int) (f : Nat → Nat) (w : World) (k0 : 0 ≤ k) (k1 : k ≤ 255) (hA : BRow w A n f) (hf : ∀ i, f i < 256) (hn : n ≤ cap) (hcap : cap ≤ 9223372036854775807) (hnil : A = none → n = 0 ∧ cap = 0) :
    Calls Try.prog 7 #[.slice A n cap, .int .u8 k, .bool false] w fun e w' => e = .returned (.bool true) ∧ Below w.heap.size w w' := by
  obtain ⟨K, hK⟩ : ∃ K : Nat, k % 31 = (K : Int) := ⟨(k % 31).toNat, by omega⟩
  have hK30 : K ≤ 30 := by omega
  obtain ⟨m, hm⟩ : ∃ m : Nat, (if (200 : Int) < (n : Int) then (200 : Int) else (n : Int)) = (m : Int) := ⟨min n 200, by split <;> omega⟩
  have hm2 : m ≤ 200 ∧ m ≤ n := by split at hm <;> omega
  obtain ⟨bl, hbl⟩ : ∃ bl, bl = bitsB f m := ⟨_, rfl⟩
  have hll : bl.length = 8 * m := by rw [hbl, bitsB_length]
  have hrow : BRow w A m (M.byteOf bl) := by
    have hA2 : BRow w A m f := BRow.fewer hA hm2.2
    exact BRow.congr hA2 fun i hi => by rw [hbl, byteOf_bitsB f hi (hf i)]
  have hnb : nbytes bl = m := by rw [hbl, nbytes_bits]
  have hnil2 : A = none → m = 0 ∧ cap = 0 := fun e => by have := hnil e; omega
  have H := Lib.hid (And.intro hrow (And.intro hll (And.intro hnb (And.intro hnil2 hK))))
  clear hA hf hrow hll hnb hnil hnil2 hbl hK
  go_enter Try.func7, Try.ntmps7
  go_wp2_with fail
  refine (NewReader_ok A m cap bl w H.out.1 H.out.2.1 (by omega) H.out.2.2.2.1).mono ?_
  rintro e w1 ⟨br, F, rfl, h1, d1, b1⟩
  have hbr : w.heap.size ≤ br := d1 br (by simp)
  have H1 := Lib.hid (And.intro h1 b1); clear h1 b1 d1
  go_wp2_with fail
  go_loopg [27] 1700 (fun gh i wr => ∃ c : Nat, gh = 1700 - c ∧ c ≤ 1700 ∧ i = .int .i64 c ∧ ∃ s l Fx, (ROk wr br F s 0 ∧ WOk wr w.heap.size w1.heap.size Fx l ∧ bl = l ++ s ∧ c ≤ l.length ∧ (∀ q, q ∈ br :: F → q ∉ Fx) ∧ Below w.heap.size w wr))
  case atStart => exact ⟨0, rfl, by omega, rfl, bl, [], [w1.heap.size], RAt.alloc H1.out.1 _, WOk.new w1 w.heap.size H1.out.2.size, rfl, by simp, fun q hq e => by simp at e; subst e; exact Nat.lt_irrefl _ (H1.out.1.lt _ hq), then_alloc H1.out.2 _⟩
  case round =>
    obtain ⟨c, hgh, hc, rfl, s, l, Fx, hr, hw, hls, hcl, hd, hb⟩ := hrel
    have Hgh := Lib.hid hgh; clear hgh
    have hsum : l.length + s.length = 8 * m := by rw [← H.out.2.1, hls, List.length_append]
    have HR := Lib.hid (And.intro hr (And.intro hw (And.intro hls (And.intro hd hb)))); clear hr hw hls hd hb
    have hc2 : c < 1700 := by omega
    obtain ⟨L, hL⟩ : ∃ L, L = s.length := ⟨_, rfl⟩
    have hL2 : L ≤ 1600 := by omega
    have HL := Lib.hid (And.intro hL hsum); clear hL hsum
    by_cases he : (codeA K s).1 = 0
    · obtain ⟨v, t, hct⟩ : ∃ v t, codeA K s = (0, v, t) := ⟨_, _, by rw [← he]⟩
      have hok := M.codeA_ok K s t v hK30 hct
      obtain ⟨N, hrd, hN, hib⟩ := readA_ok (kd := 1) (by decide) hK30 hct
      have hfit : Fit 1 N K := ⟨by decide, hN, fun h => absurd h (by decide), fun _ => hK30⟩
      have hcb : (codeBits v K).length ≤ 129 := by have := itemBits_le hfit; rw [hib] at this; exact this
      have HS := Lib.hid (And.intro hrd (And.intro hib (And.intro hok.2 (And.intro hfit hcb))))
      clear hct hok hrd hib hfit hcb he
      go_wp2_with fail
      refine (Left_to (L : Int) HR.out.1 (by rw [HL.out.1])).mono ?_
      rintro e w2 ⟨rfl, m2, hw2⟩
      have H2 := Lib.hid (show ROk w2 br F s 0 ∧ WOk w2 w.heap.size w1.heap.size Fx l ∧ Below w.heap.size w w2 from by rw [hw2]; exact ⟨HR.out.1.drewN m2, HR.out.2.1.drewN m2, then_drewN HR.out.2.2.2.2 m2⟩)
      clear hw2
      go_wp2_with fail
      refine (read_z 1 K N 0 t 0 (RAt.alloc H2.out.1 _) rfl H.out.2.2.2.2 (fun h => absurd h (by decide)) (fun _ => hK30) (by decide) HS.out.1).mono ?_
      rintro e w3 ⟨rfl, h3, fr3⟩
      have hlt3 := H2.out.1.lt br (by simp)
      have hx := (fr3.block w2.heap.size (by simp) (by simp; omega)).trans (heap_alloc_new w2 _)
      have y0 := (cell_of_block hx 0).trans rfl
      have y1 := (cell_of_block hx 1).trans rfl
      have y2 := (cell_of_block hx 2).trans rfl
      have f1 := free_of_block hx 1
      have fr3' := fr3.after_alloc
      have dF : ∀ q, q ∈ Fx → q ∉ [br] := fun q hq e => by simp at e; subst e; exact HR.out.2.2.2.1 q (by simp) hq
      have hx0 : w2.heap.size ∉ Fx := fun e => Nat.lt_irrefl _ (H2.out.2.1.lt _ e)
      have hx1 : w2.heap.size ≠ br := by omega
      have h3s := h3.far (b := w2.heap.size) (fun e => Nat.lt_irrefl _ (H2.out.1.lt _ e)) 1 (.int .u64 (N : Int))
      have hw3 := H2.out.2.1.keep fr3' dF
      have H3 := Lib.hid (show ROk (w3.setCell ⟨w2.heap.size, 1, none⟩ (.int .u64 (N : Int))) br F t 0 ∧ WOk (w3.setCell ⟨w2.heap.size, 1, none⟩ (.int .u64 (N : Int))) w.heap.size w1.heap.size Fx l ∧ Below w.heap.size w (w3.setCell ⟨w2.heap.size, 1, none⟩ (.int .u64 (N : Int))) from
        ⟨h3s, hw3.far hx0 1 _, (then_fr H2.out.2.2 fr3' (by intro q hq; simp at hq; subst hq; exact hbr)).setCell (Nat.le_trans H2.out.2.2.size (Nat.le_refl _)) _⟩)
      clear h3 fr3 fr3' hx dF hx0 hx1 h3s hw3 hlt3 H2
      go_wp2_with fail
      refine (write_z 1 N K H3.out.2.1 H3.out.2.2.size rfl rfl H.out.2.2.2.2 HS.out.2.2.2.1 (by rw [HS.out.2.1]; have := HS.out.2.2.2.2; have := HL.out; omega)).mono ?_
      rintro e w4 ⟨rfl, F4, h4, fr4⟩
      rw [HS.out.2.1] at h4
      have hpos := codeBits_pos v K
      have hbl : bl = (l ++ codeBits v K) ++ t := by rw [HR.out.2.2.1, HS.out.2.2.1, List.append_assoc]
      have H4 := Lib.hid (And.intro (H3.out.1.keep fr4 HR.out.2.2.2.1) (And.intro h4 (And.intro hbl (And.intro (show c + 1 ≤ (l ++ codeBits v K).length from by rw [List.length_append]; omega) (And.intro (fr4.apart HR.out.2.2.2.1 H3.out.1.lt) (then_fr H3.out.2.2 fr4 H3.out.2.1.base))))))
      clear h4 fr4 hpos hbl H3
      go_wp2_with fail
      go_roundg (1700 - (c + 1))
      case measure => have := Hgh.out; omega
      case rel => exact ⟨c + 1, rfl, by omega, by go_num, t, l ++ codeBits v K, F4, H4.out⟩
    · rcases (codeA_err K s he).2 with hE | hE
      · have hrd := readA_err (kd := 1) (by decide) he
        rw [hE] at hrd
        have HS := Lib.hid hrd
        clear hrd hE he
        go_wp2_with fail
        refine (Left_to (L : Int) HR.out.1 (by rw [HL.out.1])).mono ?_
        rintro e w2 ⟨rfl, m2, hw2⟩
        have H2 := Lib.hid (show ROk w2 br F s 0 ∧ WOk w2 w.heap.size w1.heap.size Fx l ∧ Below w.heap.size w w2 from by rw [hw2]; exact ⟨HR.out.1.drewN m2, HR.out.2.1.drewN m2, then_drewN HR.out.2.2.2.2 m2⟩)
        clear hw2
        go_wp2_with fail
        refine (read_z 1 K 0 180 [] 180 (RAt.alloc H2.out.1 _) rfl H.out.2.2.2.2 (fun h => absurd h (by decide)) (fun _ => hK30) (by decide) HS.out).mono ?_
        rintro e w3 ⟨rfl, h3, fr3⟩
        have fr3' := fr3.after_alloc
        have dF : ∀ q, q ∈ Fx → q ∉ [br] := fun q hq e => by simp at e; subst e; exact HR.out.2.2.2.1 q (by simp) hq
        have H3 := Lib.hid (And.intro h3 (And.intro (H2.out.2.1.keep fr3' dF) (then_fr H2.out.2.2 fr3' (by intro q hq; simp at hq; subst hq; exact hbr))))
        clear h3 fr3 fr3' dF H2
        go_upto_region 13 with fail
        go_cut [57] (fun v wx => v = .bool false ∧ (WOk wx w.heap.size w1.heap.size Fx l ∧ Below w.heap.size w wx))
        case first =>
          go_wp2_with fail
          all_goals
            refine (Left_to 0 H3.out.1 rfl).mono ?_
            rintro e w4 ⟨rfl, m4, hw4⟩
            have H4 := Lib.hid (show WOk w4 w.heap.size w1.heap.size Fx l ∧ Below w.heap.size w w4 from by rw [hw4]; exact ⟨H3.out.2.1.drewN m4, then_drewN H3.out.2.2 m4⟩)
            clear hw4
            go_wp2_with fail
            go_meet
            exact ⟨rfl, H4.out⟩
        case rest =>
        obtain ⟨rfl, hcut⟩ := hcut
        have H4 := Lib.hid hcut
        obtain ⟨w4, rfl⟩ : ∃ w4 : World, w4 = wc := ⟨_, rfl⟩
        clear hcut H3
        go_wp2_with fail
        refine (NewReader_ok A m cap bl w4 (H.out.1.keepd H4.out.2) H.out.2.1 (by omega) H.out.2.2.2.1).mono ?_
        rintro e w5 ⟨bs, F5, rfl, h5, d5, b5⟩
        have dx : ∀ q, q ∈ bs :: F5 → q ∉ Fx := fun q hq hF => by have := d5 q hq; have := H4.out.1.lt q hF; omega
        have hbs : w.heap.size ≤ bs := Nat.le_trans H4.out.2.size (d5 bs (by simp))
        have H5 := Lib.hid (And.intro h5 (And.intro (H4.out.1.below b5) (And.intro dx (then_ H4.out.2 b5)))); clear h5 d5 b5 dx H4
        obtain ⟨Ll, hLl⟩ : ∃ q, q = l.length := ⟨_, rfl⟩
        have hLl2 : Ll ≤ 1600 := by have := HL.out.2; omega
        have HLl := Lib.hid hLl
        rw [← hLl] at hcl
        clear hLl
        go_wp2_with fail
        refine (Len_to (Ll : Int) H5.out.2.1 (by rw [← HLl.out])).mono ?_
        rintro e w' ⟨rfl, rfl⟩
        go_wp2_with fail
        obtain ⟨wo, rfl⟩ : ∃ wo : World, wo = wr := ⟨_, rfl⟩
        go_loopg [61] Ll (fun gh i wr => ∃ q : Nat, gh = Ll - q ∧ q ≤ Ll ∧ i = .int .i64 q ∧ (ROk wr bs F5 (bl.drop q) 0 ∧ WOk wr w.heap.size w1.heap.size Fx l ∧ Below w.heap.size w wr))
        case atStart => exact ⟨0, rfl, by omega, rfl, by rw [List.drop_zero]; exact H5.out.1, H5.out.2.1, H5.out.2.2.2⟩
        case round =>
          obtain ⟨q, hgh, hq, rfl, hR⟩ := hrel
          have Hg2 := Lib.hid hgh; clear hgh
          have HQ := Lib.hid hR; clear hR
          by_cases hlt : q < Ll
          · have hdl : q < bl.length := by rw [H.out.2.1]; have := HL.out.2; have := HLl.out; omega
            have hds : bl.drop q = bl[q] :: bl.drop (q + 1) := List.drop_eq_getElem_cons hdl
            have hg1 := getA_one bl[q] (bl.drop (q + 1))
            rw [← hds] at hg1
            generalize bl[q] = bq at hg1
            have HG := Lib.hid hg1
            clear hdl hds hg1
            go_wp2_with fail
            refine (Get_z 1 bq.toNat 0 (bq.toNat : Nat) _ 0 HQ.out.1 rfl rfl (by decide) HG.out).mono ?_
            rintro e w6 ⟨rfl, h6, o6⟩
            have H6 := Lib.hid (And.intro h6 (And.intro (HQ.out.2.1.keep (Fr.of_only o6) (fun q hq e => by simp at e; subst e; exact H5.out.2.2.1 _ (by simp) hq)) (then_only HQ.out.2.2 o6 hbs))); clear h6 o6
            go_wp2_with fail
            go_roundg (Ll - (q + 1))
            case measure => have := Hg2.out; omega
            case rel => exact ⟨q + 1, rfl, by omega, by go_num, H6.out⟩
          · obtain rfl : q = Ll := by omega
            have hdr : bl.drop q = s := by rw [HLl.out, HR.out.2.2.1, List.drop_append_of_le_length (Nat.le_refl _), List.drop_length, List.nil_append]
            rw [hdr] at HQ
            clear hdr hq hlt Hg2
            obtain ⟨wp, rfl⟩ : ∃ wp : World, wp = wr := ⟨_, rfl⟩
            go_wp2_with fail
            refine (Left_to (L : Int) HQ.out.1 (by rw [HL.out.1])).mono ?_
            rintro e w6 ⟨rfl, m6, hw6⟩
            have H6 := Lib.hid (show ROk w6 bs F5 s 0 ∧ WOk w6 w.heap.size w1.heap.size Fx l ∧ Below w.heap.size w w6 from by rw [hw6]; exact ⟨HQ.out.1.drewN m6, HQ.out.2.1.drewN m6, then_drewN HQ.out.2.2 m6⟩)
            clear hw6
            go_wp2_with fail
            go_loopg [71] L (fun gh i wr => ∃ p : Nat, gh = L - p ∧ p ≤ L ∧ i = .int .i64 p ∧ ∃ Fp, (ROk wr bs F5 (s.drop p) 0 ∧ WOk wr w.heap.size w1.heap.size Fp (l ++ s.take p) ∧ (∀ q, q ∈ bs :: F5 → q ∉ Fp) ∧ Below w.heap.size w wr))
            case atStart => exact ⟨0, rfl, by omega, rfl, Fx, by rw [List.drop_zero]; exact H6.out.1, by rw [List.take_zero, List.append_nil]; exact H6.out.2.1, H5.out.2.2.1, H6.out.2.2⟩
            case round =>
              obtain ⟨p, hgh, hp, rfl, Fp, hR⟩ := hrel
              have Hg3 := Lib.hid hgh; clear hgh
              have HP := Lib.hid hR; clear hR
              by_cases hlt : p < L
              · have hdl : p < s.length := by rw [← HL.out.1]; exact hlt
                have hds : s.drop p = s[p] :: s.drop (p + 1) := List.drop_eq_getElem_cons hdl
                have hts : s.take (p + 1) = s.take p ++ bitsOf s[p].toNat 1 := by rw [bitsOf_bool, List.take_succ_eq_append_getElem hdl]
                have hg1 := getA_one s[p] (s.drop (p + 1))
                rw [← hds] at hg1
                generalize s[p] = bq at hg1 hts
                have hb2 := Bool.toNat_lt bq
                have hlen : (l ++ s.take p).length ≤ 1600 := by rw [List.length_append, List.length_take]; have := HL.out; omega
                have HG := Lib.hid (And.intro hg1 (And.intro hts hlen))
                clear hdl hds hg1 hts hlen
                go_wp2_with fail
                refine (Get_z 1 bq.toNat 0 (bq.toNat : Nat) _ 0 HP.out.1 rfl rfl (by decide) HG.out.1).mono ?_
                rintro e w7 ⟨rfl, h7, o7⟩
                have H7 := Lib.hid (And.intro h7 (And.intro (HP.out.2.1.keep (Fr.of_only o7) (fun q hq e => by simp at e; subst e; exact HP.out.2.2.1 _ (by simp) hq)) (then_only HP.out.2.2.2 o7 hbs))); clear h7 o7
                go_wp2_with fail
                refine (Put_z bq.toNat 1 H7.out.2.1 H7.out.2.2.size rfl rfl (by have := HG.out.2.2; omega) (by decide) (by omega)).mono ?_
                rintro e w8 ⟨rfl, F8, h8, fr8⟩
                rw [List.append_assoc, ← HG.out.2.1] at h8
                have H8 := Lib.hid (And.intro (H7.out.1.keep fr8 HP.out.2.2.1) (And.intro h8 (And.intro (fr8.apart HP.out.2.2.1 H7.out.1.lt) (then_fr H7.out.2.2 fr8 H7.out.2.1.base)))); clear h8 fr8 H7
                go_wp2_with fail
                go_roundg (L - (p + 1))
                case measure => have := Hg3.out; omega
                case rel => exact ⟨p + 1, rfl, by omega, by go_num, F8, H8.out⟩
              · obtain rfl : p = L := by omega
                have hall : l ++ s.take p = bl := by rw [HL.out.1, List.take_length, ← HR.out.2.2.1]
                rw [hall] at HP
                have hb16 : bl.length ≤ 1600 := by rw [H.out.2.1]; omega
                clear hall hlt hp Hg3
                go_wp2_with fail
                refine (Bytes_to m HP.out.2.1 (by omega) H.out.2.2.1).mono ?_
                rintro e w7 ⟨A7, c7, rfl, r7, b7, _⟩
                have H7 := Lib.hid (And.intro r7 (then_ HP.out.2.2.2 b7)); clear r7 b7
                go_wp2_with fail
                refine (SameBytes_to m _ _ H7.out.1 (H.out.1.keepd H7.out.2) (fun _ _ => rfl) (by omega)).mono ?_
                rintro e w8 ⟨rfl, b8⟩
                have H8 := Lib.hid (then_ H7.out.2 b8); clear b8 H7
                go_wp2_with fail
                refine (awake_calls _).mono ?_
                rintro e w9 ⟨rfl, b9⟩
                have H9 := Lib.hid (then_ H8.out b9); clear b9 H8
                go_wp2_with fail
                go_ret
                exact ⟨rfl, H9.out⟩
      · have hrd := readA_err (kd := 1) (by decide) he
        rw [hE] at hrd
        have HS := Lib.hid hrd
        clear hrd hE he
        go_wp2_with fail
        refine (Left_to (L : Int) HR.out.1 (by rw [HL.out.1])).mono ?_
        rintro e w2 ⟨rfl, m2, hw2⟩
        have H2 := Lib.hid (show ROk w2 br F s 0 ∧ WOk w2 w.heap.size w1.heap.size Fx l ∧ Below w.heap.size w w2 from by rw [hw2]; exact ⟨HR.out.1.drewN m2, HR.out.2.1.drewN m2, then_drewN HR.out.2.2.2.2 m2⟩)
        clear hw2
        go_wp2_with fail
        refine (read_z 1 K 0 181 [] 181 (RAt.alloc H2.out.1 _) rfl H.out.2.2.2.2 (fun h => absurd h (by decide)) (fun _ => hK30) (by decide) HS.out).mono ?_
        rintro e w3 ⟨rfl, h3, fr3⟩
        have fr3' := fr3.after_alloc
        have dF : ∀ q, q ∈ Fx → q ∉ [br] := fun q hq e => by simp at e; subst e; exact HR.out.2.2.2.1 q (by simp) hq
        have H3 := Lib.hid (And.intro h3 (And.intro (H2.out.2.1.keep fr3' dF) (then_fr H2.out.2.2 fr3' (by intro q hq; simp at hq; subst hq; exact hbr))))
        clear h3 fr3 fr3' dF H2
        go_upto_region 13 with fail
        go_cut [57] (fun v wx => v = .bool false ∧ (WOk wx w.heap.size w1.heap.size Fx l ∧ Below w.heap.size w wx))
        case first =>
          go_wp2_with fail
          all_goals
            refine (Left_to 0 H3.out.1 rfl).mono ?_
            rintro e w4 ⟨rfl, m4, hw4⟩
            have H4 := Lib.hid (show WOk w4 w.heap.size w1.heap.size Fx l ∧ Below w.heap.size w w4 from by rw [hw4]; exact ⟨H3.out.2.1.drewN m4, then_drewN H3.out.2.2 m4⟩)
            clear hw4
            go_wp2_with fail
            go_meet
            exact ⟨rfl, H4.out⟩
        case rest =>
        obtain ⟨rfl, hcut⟩ := hcut
        have H4 := Lib.hid hcut
        obtain ⟨w4, rfl⟩ : ∃ w4 : World, w4 = wc := ⟨_, rfl⟩
        clear hcut H3
        go_wp2_with fail
        refine (NewReader_ok A m cap bl w4 (H.out.1.keepd H4.out.2) H.out.2.1 (by omega) H.out.2.2.2.1).mono ?_
        rintro e w5 ⟨bs, F5, rfl, h5, d5, b5⟩
        have dx : ∀ q, q ∈ bs :: F5 → q ∉ Fx := fun q hq hF => by have := d5 q hq; have := H4.out.1.lt q hF; omega
        have hbs : w.heap.size ≤ bs := Nat.le_trans H4.out.2.size (d5 bs (by simp))
        have H5 := Lib.hid (And.intro h5 (And.intro (H4.out.1.below b5) (And.intro dx (then_ H4.out.2 b5)))); clear h5 d5 b5 dx H4
        obtain ⟨Ll, hLl⟩ : ∃ q, q = l.length := ⟨_, rfl⟩
        have hLl2 : Ll ≤ 1600 := by have := HL.out.2; omega
        have HLl := Lib.hid hLl
        rw [← hLl] at hcl
        clear hLl
        go_wp2_with fail
        refine (Len_to (Ll : Int) H5.out.2.1 (by rw [← HLl.out])).mono ?_
        rintro e w' ⟨rfl, rfl⟩
        go_wp2_with fail
        obtain ⟨wo, rfl⟩ : ∃ wo : World, wo = wr := ⟨_, rfl⟩
        go_loopg [61] Ll (fun gh i wr => ∃ q : Nat, gh = Ll - q ∧ q ≤ Ll ∧ i = .int .i64 q ∧ (ROk wr bs F5 (bl.drop q) 0 ∧ WOk wr w.heap.size w1.heap.size Fx l ∧ Below w.heap.size w wr))
        case atStart => exact ⟨0, rfl, by omega, rfl, by rw [List.drop_zero]; exact H5.out.1, H5.out.2.1, H5.out.2.2.2⟩
        case round =>
          obtain ⟨q, hgh, hq, rfl, hR⟩ := hrel
          have Hg2 := Lib.hid hgh; clear hgh
          have HQ := Lib.hid hR; clear hR
          by_cases hlt : q < Ll
          · have hdl : q < bl.length := by rw [H.out.2.1]; have := HL.out.2; have := HLl.out; omega
            have hds : bl.drop q = bl[q] :: bl.drop (q + 1) := List.drop_eq_getElem_cons hdl
            have hg1 := getA_one bl[q] (bl.drop (q + 1))
            rw [← hds] at hg1
            generalize bl[q] = bq at hg1
            have HG := Lib.hid hg1
            clear hdl hds hg1
            go_wp2_with fail
            refine (Get_z 1 bq.toNat 0 (bq.toNat : Nat) _ 0 HQ.out.1 rfl rfl (by decide) HG.out).mono ?_
            rintro e w6 ⟨rfl, h6, o6⟩
            have H6 := Lib.hid (And.intro h6 (And.intro (HQ.out.2.1.keep (Fr.of_only o6) (fun q hq e => by simp at e; subst e; exact H5.out.2.2.1 _ (by simp) hq)) (then_only HQ.out.2.2 o6 hbs))); clear h6 o6
            go_wp2_with fail
            go_roundg (Ll - (q + 1))
            case measure => have := Hg2.out; omega
            case rel => exact ⟨q + 1, rfl, by omega, by go_num, H6.out⟩
          · obtain rfl : q = Ll := by omega
            have hdr : bl.drop q = s := by rw [HLl.out, HR.out.2.2.1, List.drop_append_of_le_length (Nat.le_refl _), List.drop_length, List.nil_append]
            rw [hdr] at HQ
            clear hdr hq hlt Hg2
            obtain ⟨wp, rfl⟩ : ∃ wp : World, wp = wr := ⟨_, rfl⟩
            go_wp2_with fail
            refine (Left_to (L : Int) HQ.out.1 (by rw [HL.out.1])).mono ?_
            rintro e w6 ⟨rfl, m6, hw6⟩
            have H6 := Lib.hid (show ROk w6 bs F5 s 0 ∧ WOk w6 w.heap.size w1.heap.size Fx l ∧ Below w.heap.size w w6 from by rw [hw6]; exact ⟨HQ.out.1.drewN m6, HQ.out.2.1.drewN m6, then_drewN HQ.out.2.2 m6⟩)
            clear hw6
            go_wp2_with fail
            go_loopg [71] L (fun gh i wr => ∃ p : Nat, gh = L - p ∧ p ≤ L ∧ i = .int .i64 p ∧ ∃ Fp, (ROk wr bs F5 (s.drop p) 0 ∧ WOk wr w.heap.size w1.heap.size Fp (l ++ s.take p) ∧ (∀ q, q ∈ bs :: F5 → q ∉ Fp) ∧ Below w.heap.size w wr))
            case atStart => exact ⟨0, rfl, by omega, rfl, Fx, by rw [List.drop_zero]; exact H6.out.1, by rw [List.take_zero, List.append_nil]; exact H6.out.2.1, H5.out.2.2.1, H6.out.2.2⟩
            case round =>
              obtain ⟨p, hgh, hp, rfl, Fp, hR⟩ := hrel
              have Hg3 := Lib.hid hgh; clear hgh
              have HP := Lib.hid hR; clear hR
              by_cases hlt : p < L
              · have hdl : p < s.length := by rw [← HL.out.1]; exact hlt
                have hds : s.drop p = s[p] :: s.drop (p + 1) := List.drop_eq_getElem_cons hdl
                have hts : s.take (p + 1) = s.take p ++ bitsOf s[p].toNat 1 := by rw [bitsOf_bool, List.take_succ_eq_append_getElem hdl]
                have hg1 := getA_one s[p] (s.drop (p + 1))
                rw [← hds] at hg1
                generalize s[p] = bq at hg1 hts
                have hb2 := Bool.toNat_lt bq
                have hlen : (l ++ s.take p).length ≤ 1600 := by rw [List.length_append, List.length_take]; have := HL.out; omega
                have HG := Lib.hid (And.intro hg1 (And.intro hts hlen))
                clear hdl hds hg1 hts hlen
                go_wp2_with fail
                refine (Get_z 1 bq.toNat 0 (bq.toNat : Nat) _ 0 HP.out.1 rfl rfl (by decide) HG.out.1).mono ?_
                rintro e w7 ⟨rfl, h7, o7⟩
                have H7 := Lib.hid (And.intro h7 (And.intro (HP.out.2.1.keep (Fr.of_only o7) (fun q hq e => by simp at e; subst e; exact HP.out.2.2.1 _ (by simp) hq)) (then_only HP.out.2.2.2 o7 hbs))); clear h7 o7
                go_wp2_with fail
                refine (Put_z bq.toNat 1 H7.out.2.1 H7.out.2.2.size rfl rfl (by have := HG.out.2.2; omega) (by decide) (by omega)).mono ?_
                rintro e w8 ⟨rfl, F8, h8, fr8⟩
                rw [List.append_assoc, ← HG.out.2.1] at h8
                have H8 := Lib.hid (And.intro (H7.out.1.keep fr8 HP.out.2.2.1) (And.intro h8 (And.intro (fr8.apart HP.out.2.2.1 H7.out.1.lt) (then_fr H7.out.2.2 fr8 H7.out.2.1.base)))); clear h8 fr8 H7
                go_wp2_with fail
                go_roundg (L - (p + 1))
                case measure => have := Hg3.out; omega
                case rel => exact ⟨p + 1, rfl, by omega, by go_num, F8, H8.out⟩
              · obtain rfl : p = L := by omega
                have hall : l ++ s.take p = bl := by rw [HL.out.1, List.take_length, ← HR.out.2.2.1]
                rw [hall] at HP
                have hb16 : bl.length ≤ 1600 := by rw [H.out.2.1]; omega
                clear hall hlt hp Hg3
                go_wp2_with fail
                refine (Bytes_to m HP.out.2.1 (by omega) H.out.2.2.1).mono ?_
                rintro e w7 ⟨A7, c7, rfl, r7, b7, _⟩
                have H7 := Lib.hid (And.intro r7 (then_ HP.out.2.2.2 b7)); clear r7 b7
                go_wp2_with fail
                refine (SameBytes_to m _ _ H7.out.1 (H.out.1.keepd H7.out.2) (fun _ _ => rfl) (by omega)).mono ?_
                rintro e w8 ⟨rfl, b8⟩
                have H8 := Lib.hid (then_ H7.out.2 b8); clear b8 H7
                go_wp2_with fail
                refine (awake_calls _).mono ?_
                rintro e w9 ⟨rfl, b9⟩
                have H9 := Lib.hid (then_ H8.out b9); clear b9 H8
                go_wp2_with fail
                go_ret
                exact ⟨rfl, H9.out⟩
set_option maxRecDepth 100000 in
set_option maxHeartbeats 4000000 in
theorem only_walk_s (A : Option Addr) (n cap : Nat) (k : Int) (f : Nat → Nat) (w : World) (k0 : 0 ≤ k) (k1 : k ≤ 255) (hA : BRow w A n f) (hf : ∀ i, f i < 256) (hn : n ≤ cap) (hcap : cap ≤ 9223372036854775807) (hnil : A = none → n = 0 ∧ cap = 0) :
    Calls Try.prog 7 #[.slice A n cap, .int .u8 k, .bool true] w fun e w' => e = .returned (.bool true) ∧ Below w.heap.size w w' := by
  obtain ⟨K, hK⟩ : ∃ K : Nat, k % 31 = (K : Int) := ⟨(k % 31).toNat, by omega⟩
  have hK30 : K ≤ 30 := by omega
  obtain ⟨m, hm⟩ : ∃ m : Nat, (if (200 : Int) < (n : Int) then (200 : Int) else (n : Int)) = (m : Int) := ⟨min n 200, by split <;> omega⟩
  have hm2 : m ≤ 200 ∧ m ≤ n := by split at hm <;> omega
  obtain ⟨bl, hbl⟩ : ∃ bl, bl = bitsB f m := ⟨_, rfl⟩
  have hll : bl.length = 8 * m := by rw [hbl, bitsB_length]
  have hrow : BRow w A m (M.byteOf bl) := by
    have hA2 : BRow w A m f := BRow.fewer hA hm2.2
    exact BRow.congr hA2 fun i hi => by rw [hbl, byteOf_bitsB f hi (hf i)]
  have hnb : nbytes bl = m := by rw [hbl, nbytes_bits]
  have hnil2 : A = none → m = 0 ∧ cap = 0 := fun e => by have := hnil e; omega
  have H := Lib.hid (And.intro hrow (And.intro hll (And.intro hnb (And.intro hnil2 hK))))
  clear hA hf hrow hll hnb hnil hnil2 hbl hK
  go_enter Try.func7, Try.ntmps7
  go_wp2_with fail
  refine (NewReader_ok A m cap bl w H.out.1 H.out.2.1 (by omega) H.out.2.2.2.1).mono ?_
  rintro e w1 ⟨br, F, rfl, h1, d1, b1⟩
  have hbr : w.heap.size ≤ br := d1 br (by simp)
  have H1 := Lib.hid (And.intro h1 b1); clear h1 b1 d1
  go_wp2_with fail
  go_loopg [27] 1700 (fun gh i wr => ∃ c : Nat, gh = 1700 - c ∧ c ≤ 1700 ∧ i = .int .i64 c ∧ ∃ s l Fx, (ROk wr br F s 0 ∧ WOk wr w.heap.size w1.heap.size Fx l ∧ bl = l ++ s ∧ c ≤ l.length ∧ (∀ q, q ∈ br :: F → q ∉ Fx) ∧ Below w.heap.size w wr))
  case atStart => exact ⟨0, rfl, by omega, rfl, bl, [], [w1.heap.size], RAt.alloc H1.out.1 _, WOk.new w1 w.heap.size H1.out.2.size, rfl, by simp, fun q hq e => by simp at e; subst e; exact Nat.lt_irrefl _ (H1.out.1.lt _ hq), then_alloc H1.out.2 _⟩
  case round =>
    obtain ⟨c, hgh, hc, rfl, s, l, Fx, hr, hw, hls, hcl, hd, hb⟩ := hrel
    have Hgh := Lib.hid hgh; clear hgh
    have hsum : l.length + s.length = 8 * m := by rw [← H.out.2.1, hls, List.length_append]
    have HR := Lib.hid (And.intro hr (And.intro hw (And.intro hls (And.intro hd hb)))); clear hr hw hls hd hb
    have hc2 : c < 1700 := by omega
    obtain ⟨L, hL⟩ : ∃ L, L = s.length := ⟨_, rfl⟩
    have hL2 : L ≤ 1600 := by omega
    have HL := Lib.hid (And.intro hL hsum); clear hL hsum
    by_cases he : (codeA K s).1 = 0
    · obtain ⟨v, t, hct⟩ : ∃ v t, codeA K s = (0, v, t) := ⟨_, _, by rw [← he]⟩
      have hok := M.codeA_ok K s t v hK30 hct
      obtain ⟨N, hrd, hN, hib⟩ := readA_ok (kd := 2) (by decide) hK30 hct
      have hfit : Fit 2 N K := ⟨by decide, hN, fun h => absurd h (by decide), fun _ => hK30⟩
      have hcb : (codeBits v K).length ≤ 129 := by have := itemBits_le hfit; rw [hib] at this; exact this
      have HS := Lib.hid (And.intro hrd (And.intro hib (And.intro hok.2 (And.intro hfit hcb))))
      clear hct hok hrd hib hfit hcb he
      go_wp2_with fail
      refine (Left_to (L : Int) HR.out.1 (by rw [HL.out.1])).mono ?_
      rintro e w2 ⟨rfl, m2, hw2⟩
      have H2 := Lib.hid (show ROk w2 br F s 0 ∧ WOk w2 w.heap.size w1.heap.size Fx l ∧ Below w.heap.size w w2 from by rw [hw2]; exact ⟨HR.out.1.drewN m2, HR.out.2.1.drewN m2, then_drewN HR.out.2.2.2.2 m2⟩)
      clear hw2
      go_wp2_with fail
      refine (read_z 2 K N 0 t 0 (RAt.alloc H2.out.1 _) rfl H.out.2.2.2.2 (fun h => absurd h (by decide)) (fun _ => hK30) (by decide) HS.out.1).mono ?_
      rintro e w3 ⟨rfl, h3, fr3⟩
      have hlt3 := H2.out.1.lt br (by simp)
      have hx := (fr3.block w2.heap.size (by simp) (by simp; omega)).trans (heap_alloc_new w2 _)
      have y0 := (cell_of_block hx 0).trans rfl
      have y1 := (cell_of_block hx 1).trans rfl
      have y2 := (cell_of_block hx 2).trans rfl
      have f1 := free_of_block hx 1
      have fr3' := fr3.after_alloc
      have dF : ∀ q, q ∈ Fx → q ∉ [br] := fun q hq e => by simp at e; subst e; exact HR.out.2.2.2.1 q (by simp) hq
      have hx0 : w2.heap.size ∉ Fx := fun e => Nat.lt_irrefl _ (H2.out.2.1.lt _ e)
      have hx1 : w2.heap.size ≠ br := by omega
      have h3s := h3.far (b := w2.heap.size) (fun e => Nat.lt_irrefl _ (H2.out.1.lt _ e)) 1 (.int .u64 (N : Int))
      have hw3 := H2.out.2.1.keep fr3' dF
      have H3 := Lib.hid (show ROk (w3.setCell ⟨w2.heap.size, 1, none⟩ (.int .u64 (N : Int))) br F t 0 ∧ WOk (w3.setCell ⟨w2.heap.size, 1, none⟩ (.int .u64 (N : Int))) w.heap.size w1.heap.size Fx l ∧ Below w.heap.size w (w3.setCell ⟨w2.heap.size, 1, none⟩ (.int .u64 (N : Int))) from
        ⟨h3s, hw3.far hx0 1 _, (then_fr H2.out.2.2 fr3' (by intro q hq; simp at hq; subst hq; exact hbr)).setCell (Nat.le_trans H2.out.2.2.size (Nat.le_refl _)) _⟩)
      clear h3 fr3 fr3' hx dF hx0 hx1 h3s hw3 hlt3 H2
      go_wp2_with fail
      refine (write_z 2 N K H3.out.2.1 H3.out.2.2.size rfl rfl H.out.2.2.2.2 HS.out.2.2.2.1 (by rw [HS.out.2.1]; have := HS.out.2.2.2.2; have := HL.out; omega)).mono ?_
      rintro e w4 ⟨rfl, F4, h4, fr4⟩
      rw [HS.out.2.1] at h4
      have hpos := codeBits_pos v K
      have hbl : bl = (l ++ codeBits v K) ++ t := by rw [HR.out.2.2.1, HS.out.2.2.1, List.append_assoc]
      have H4 := Lib.hid (And.intro (H3.out.1.keep fr4 HR.out.2.2.2.1) (And.intro h4 (And.intro hbl (And.intro (show c + 1 ≤ (l ++ codeBits v K).length from by rw [List.length_append]; omega) (And.intro (fr4.apart HR.out.2.2.2.1 H3.out.1.lt) (then_fr H3.out.2.2 fr4 H3.out.2.1.base))))))
      clear h4 fr4 hpos hbl H3
      go_wp2_with fail
      go_roundg (1700 - (c + 1))
      case measure => have := Hgh.out; omega
      case rel => exact ⟨c + 1, rfl, by omega, by go_num, t, l ++ codeBits v K, F4, H4.out⟩
    · rcases (codeA_err K s he).2 with hE | hE
      · have hrd := readA_err (kd := 2) (by decide) he
        rw [hE] at hrd
        have HS := Lib.hid hrd
        clear hrd hE he
        go_wp2_with fail
        refine (Left_to (L : Int) HR.out.1 (by rw [HL.out.1])).mono ?_
        rintro e w2 ⟨rfl, m2, hw2⟩
        have H2 := Lib.hid (show ROk w2 br F s 0 ∧ WOk w2 w.heap.size w1.heap.size Fx l ∧ Below w.heap.size w w2 from by rw [hw2]; exact ⟨HR.out.1.drewN m2, HR.out.2.1.drewN m2, then_drewN HR.out.2.2.2.2 m2⟩)
        clear hw2
        go_wp2_with fail
        refine (read_z 2 K 0 180 [] 180 (RAt.alloc H2.out.1 _) rfl H.out.2.2.2.2 (fun h => absurd h (by decide)) (fun _ => hK30) (by decide) HS.out).mono ?_
        rintro e w3 ⟨rfl, h3, fr3⟩
        have fr3' := fr3.after_alloc
        have dF : ∀ q, q ∈ Fx → q ∉ [br] := fun q hq e => by simp at e; subst e; exact HR.out.2.2.2.1 q (by simp) hq
        have H3 := Lib.hid (And.intro h3 (And.intro (H2.out.2.1.keep fr3' dF) (then_fr H2.out.2.2 fr3' (by intro q hq; simp at hq; subst hq; exact hbr))))
        clear h3 fr3 fr3' dF H2
        go_upto_region 13 with fail
        go_cut [57] (fun v wx => v = .bool false ∧ (WOk wx w.heap.size w1.heap.size Fx l ∧ Below w.heap.size w wx))
        case first =>
          go_wp2_with fail
          all_goals
            refine (Left_to 0 H3.out.1 rfl).mono ?_
            rintro e w4 ⟨rfl, m4, hw4⟩
            have H4 := Lib.hid (show WOk w4 w.heap.size w1.heap.size Fx l ∧ Below w.heap.size w w4 from by rw [hw4]; exact ⟨H3.out.2.1.drewN m4, then_drewN H3.out.2.2 m4⟩)
            clear hw4
            go_wp2_with fail
            go_meet
            exact ⟨rfl, H4.out⟩
        case rest =>
        obtain ⟨rfl, hcut⟩ := hcut
        have H4 := Lib.hid hcut
        obtain ⟨w4, rfl⟩ : ∃ w4 : World, w4 = wc := ⟨_, rfl⟩
        clear hcut H3
        go_wp2_with fail
        refine (NewReader_ok A m cap bl w4 (H.out.1.keepd H4.out.2) H.out.2.1 (by omega) H.out.2.2.2.1).mono ?_
        rintro e w5 ⟨bs, F5, rfl, h5, d5, b5⟩
        have dx : ∀ q, q ∈ bs :: F5 → q ∉ Fx := fun q hq hF => by have := d5 q hq; have := H4.out.1.lt q hF; omega
        have hbs : w.heap.size ≤ bs := Nat.le_trans H4.out.2.size (d5 bs (by simp))
        have H5 := Lib.hid (And.intro h5 (And.intro (H4.out.1.below b5) (And.intro dx (then_ H4.out.2 b5)))); clear h5 d5 b5 dx H4
        obtain ⟨Ll, hLl⟩ : ∃ q, q = l.length := ⟨_, rfl⟩
        have hLl2 : Ll ≤ 1600 := by have := HL.out.2; omega
        have HLl := Lib.hid hLl
        rw [← hLl] at hcl
        clear hLl
        go_wp2_with fail
        refine (Len_to (Ll : Int) H5.out.2.1 (by rw [← HLl.out])).mono ?_
        rintro e w' ⟨rfl, rfl⟩
        go_wp2_with fail
        obtain ⟨wo, rfl⟩ : ∃ wo : World, wo = wr := ⟨_, rfl⟩
        go_loopg [61] Ll (fun gh i wr => ∃ q : Nat, gh = Ll - q ∧ q ≤ Ll ∧ i = .int .i64 q ∧ (ROk wr bs F5 (bl.drop q) 0 ∧ WOk wr w.heap.size w1.heap.size Fx l ∧ Below w.heap.size w wr))
        case atStart => exact ⟨0, rfl, by omega, rfl, by rw [List.drop_zero]; exact H5.out.1, H5.out.2.1, H5.out.2.2.2⟩
        case round =>
          obtain ⟨q, hgh, hq, rfl, hR⟩ := hrel
          have Hg2 := Lib.hid hgh; clear hgh
          have HQ := Lib.hid hR; clear hR
          by_cases hlt : q < Ll
          · have hdl : q < bl.length := by rw [H.out.2.1]; have := HL.out.2; have := HLl.out; omega
            have hds : bl.drop q = bl[q] :: bl.drop (q + 1) := List.drop_eq_getElem_cons hdl
            have hg1 := getA_one bl[q] (bl.drop (q + 1))
            rw [← hds] at hg1
            generalize bl[q] = bq at hg1
            have HG := Lib.hid hg1
            clear hdl hds hg1
            go_wp2_with fail
            refine (Get_z 1 bq.toNat 0 (bq.toNat : Nat) _ 0 HQ.out.1 rfl rfl (by decide) HG.out).mono ?_
            rintro e w6 ⟨rfl, h6, o6⟩
            have H6 := Lib.hid (And.intro h6 (And.intro (HQ.out.2.1.keep (Fr.of_only o6) (fun q hq e => by simp at e; subst e; exact H5.out.2.2.1 _ (by simp) hq)) (then_only HQ.out.2.2 o6 hbs))); clear h6 o6
            go_wp2_with fail
            go_roundg (Ll - (q + 1))
            case measure => have := Hg2.out; omega
            case rel => exact ⟨q + 1, rfl, by omega, by go_num, H6.out⟩
          · obtain rfl : q = Ll := by omega
            have hdr : bl.drop q = s := by rw [HLl.out, HR.out.2.2.1, List.drop_append_of_le_length (Nat.le_refl _), List.drop_length, List.nil_append]
            rw [hdr] at HQ
            clear hdr hq hlt Hg2
            obtain ⟨wp, rfl⟩ : ∃ wp : World, wp = wr := ⟨_, rfl⟩
            go_wp2_with fail
            refine (Left_to (L : Int) HQ.out.1 (by rw [HL.out.1])).mono ?_
            rintro e w6 ⟨rfl, m6, hw6⟩
            have H6 := Lib.hid (show ROk w6 bs F5 s 0 ∧ WOk w6 w.heap.size w1.heap.size Fx l ∧ Below w.heap.size w w6 from by rw [hw6]; exact ⟨HQ.out.1.drewN m6, HQ.out.2.1.drewN m6, then_drewN HQ.out.2.2 m6⟩)
            clear hw6
            go_wp2_with fail
            go_loopg [71] L (fun gh i wr => ∃ p : Nat, gh = L - p ∧ p ≤ L ∧ i = .int .i64 p ∧ ∃ Fp, (ROk wr bs F5 (s.drop p) 0 ∧ WOk wr w.heap.size w1.heap.size Fp (l ++ s.take p) ∧ (∀ q, q ∈ bs :: F5 → q ∉ Fp) ∧ Below w.heap.size w wr))
            case atStart => exact ⟨0, rfl, by omega, rfl, Fx, by rw [List.drop_zero]; exact H6.out.1, by rw [List.take_zero, List.append_nil]; exact H6.out.2.1, H5.out.2.2.1, H6.out.2.2⟩
            case round =>
              obtain ⟨p, hgh, hp, rfl, Fp, hR⟩ := hrel
              have Hg3 := Lib.hid hgh; clear hgh
              have HP := Lib.hid hR; clear hR
              by_cases hlt : p < L
              · have hdl : p < s.length := by rw [← HL.out.1]; exact hlt
                have hds : s.drop p = s[p] :: s.drop (p + 1) := List.drop_eq_getElem_cons hdl
                have hts : s.take (p + 1) = s.take p ++ bitsOf s[p].toNat 1 := by rw [bitsOf_bool, List.take_succ_eq_append_getElem hdl]
                have hg1 := getA_one s[p] (s.drop (p + 1))
                rw [← hds] at hg1
                generalize s[p] = bq at hg1 hts
                have hb2 := Bool.toNat_lt bq
                have hlen : (l ++ s.take p).length ≤ 1600 := by rw [List.length_append, List.length_take]; have := HL.out; omega
                have HG := Lib.hid (And.intro hg1 (And.intro hts hlen))
                clear hdl hds hg1 hts hlen
                go_wp2_with fail
                refine (Get_z 1 bq.toNat 0 (bq.toNat : Nat) _ 0 HP.out.1 rfl rfl (by decide) HG.out.1).mono ?_
                rintro e w7 ⟨rfl, h7, o7⟩
                have H7 := Lib.hid (And.intro h7 (And.intro (HP.out.2.1.keep (Fr.of_only o7) (fun q hq e => by simp at e; subst e; exact HP.out.2.2.1 _ (by simp) hq)) (then_only HP.out.2.2.2 o7 hbs))); clear h7 o7
                go_wp2_with fail
                refine (Put_z bq.toNat 1 H7.out.2.1 H7.out.2.2.size rfl rfl (by have := HG.out.2.2; omega) (by decide) (by omega)).mono ?_
                rintro e w8 ⟨rfl, F8, h8, fr8⟩
                rw [List.append_assoc, ← HG.out.2.1] at h8
                have H8 := Lib.hid (And.intro (H7.out.1.keep fr8 HP.out.2.2.1) (And.intro h8 (And.intro (fr8.apart HP.out.2.2.1 H7.out.1.lt) (then_fr H7.out.2.2 fr8 H7.out.2.1.base)))); clear h8 fr8 H7
                go_wp2_with fail
                go_roundg (L - (p + 1))
                case measure => have := Hg3.out; omega
                case rel => exact ⟨p + 1, rfl, by omega, by go_num, F8, H8.out⟩
              · obtain rfl : p = L := by omega
                have hall : l ++ s.take p = bl := by rw [HL.out.1, List.take_length, ← HR.out.2.2.1]
                rw [hall] at HP
                have hb16 : bl.length ≤ 1600 := by rw [H.out.2.1]; omega
                clear hall hlt hp Hg3
                go_wp2_with fail
                refine (Bytes_to m HP.out.2.1 (by omega) H.out.2.2.1).mono ?_
                rintro e w7 ⟨A7, c7, rfl, r7, b7, _⟩
                have H7 := Lib.hid (And.intro r7 (then_ HP.out.2.2.2 b7)); clear r7 b7
                go_wp2_with fail
                refine (SameBytes_to m _ _ H7.out.1 (H.out.1.keepd H7.out.2) (fun _ _ => rfl) (by omega)).mono ?_
                rintro e w8 ⟨rfl, b8⟩
                have H8 := Lib.hid (then_ H7.out.2 b8); clear b8 H7
                go_wp2_with fail
                refine (awake_calls _).mono ?_
                rintro e w9 ⟨rfl, b9⟩
                have H9 := Lib.hid (then_ H8.out b9); clear b9 H8
                go_wp2_with fail
                go_ret
                exact ⟨rfl, H9.out⟩
      · have hrd := readA_err (kd := 2) (by decide) he
        rw [hE] at hrd
        have HS := Lib.hid hrd
        clear hrd hE he
        go_wp2_with fail
        refine (Left_to (L : Int) HR.out.1 (by rw [HL.out.1])).mono ?_
        rintro e w2 ⟨rfl, m2, hw2⟩
        have H2 := Lib.hid (show ROk w2 br F s 0 ∧ WOk w2 w.heap.size w1.heap.size Fx l ∧ Below w.heap.size w w2 from by rw [hw2]; exact ⟨HR.out.1.drewN m2, HR.out.2.1.drewN m2, then_drewN HR.out.2.2.2.2 m2⟩)
        clear hw2
        go_wp2_with fail
        refine (read_z 2 K 0 181 [] 181 (RAt.alloc H2.out.1 _) rfl H.out.2.2.2.2 (fun h => absurd h (by decide)) (fun _ => hK30) (by decide) HS.out).mono ?_
        rintro e w3 ⟨rfl, h3, fr3⟩
        have fr3' := fr3.after_alloc
        have dF : ∀ q, q ∈ Fx → q ∉ [br] := fun q hq e => by simp at e; subst e; exact HR.out.2.2.2.1 q (by simp) hq
        have H3 := Lib.hid (And.intro h3 (And.intro (H2.out.2.1.keep fr3' dF) (then_fr H2.out.2.2 fr3' (by intro q hq; simp at hq; subst hq; exact hbr))))
        clear h3 fr3 fr3' dF H2
        go_upto_region 13 with fail
        go_cut [57] (fun v wx => v = .bool false ∧ (WOk wx w.heap.size w1.heap.size Fx l ∧ Below w.heap.size w wx))
        case first =>
          go_wp2_with fail
          all_goals
            refine (Left_to 0 H3.out.1 rfl).mono ?_
            rintro e w4 ⟨rfl, m4, hw4⟩
            have H4 := Lib.hid (show WOk w4 w.heap.size w1.heap.size Fx l ∧ Below w.heap.size w w4 from by rw [hw4]; exact ⟨H3.out.2.1.drewN m4, then_drewN H3.out.2.2 m4⟩)
            clear hw4
            go_wp2_with fail
            go_meet
            exact ⟨rfl, H4.out⟩
        case rest =>
        obtain ⟨rfl, hcut⟩ := hcut
        have H4 := Lib.hid hcut
        obtain ⟨w4, rfl⟩ : ∃ w4 : World, w4 = wc := ⟨_, rfl⟩
        clear hcut H3
        go_wp2_with fail
        refine (NewReader_ok A m cap bl w4 (H.out.1.keepd H4.out.2) H.out.2.1 (by omega) H.out.2.2.2.1).mono ?_
        rintro e w5 ⟨bs, F5, rfl, h5, d5, b5⟩
        have dx : ∀ q, q ∈ bs :: F5 → q ∉ Fx := fun q hq hF => by have := d5 q hq; have := H4.out.1.lt q hF; omega
        have hbs : w.heap.size ≤ bs := Nat.le_trans H4.out.2.size (d5 bs (by simp))
        have H5 := Lib.hid (And.intro h5 (And.intro (H4.out.1.below b5) (And.intro dx (then_ H4.out.2 b5)))); clear h5 d5 b5 dx H4
        obtain ⟨Ll, hLl⟩ : ∃ q, q = l.length := ⟨_, rfl⟩
        have hLl2 : Ll ≤ 1600 := by have := HL.out.2; omega
        have HLl := Lib.hid hLl
        rw [← hLl] at hcl
        clear hLl
        go_wp2_with fail
        refine (Len_to (Ll : Int) H5.out.2.1 (by rw [← HLl.out])).mono ?_
        rintro e w' ⟨rfl, rfl⟩
        go_wp2_with fail
        obtain ⟨wo, rfl⟩ : ∃ wo : World, wo = wr := ⟨_, rfl⟩
        go_loopg [61] Ll (fun gh i wr => ∃ q : Nat, gh = Ll - q ∧ q ≤ Ll ∧ i = .int .i64 q ∧ (ROk wr bs F5 (bl.drop q) 0 ∧ WOk wr w.heap.size w1.heap.size Fx l ∧ Below w.heap.size w wr))
        case atStart => exact ⟨0, rfl, by omega, rfl, by rw [List.drop_zero]; exact H5.out.1, H5.out.2.1, H5.out.2.2.2⟩
        case round =>
          obtain ⟨q, hgh, hq, rfl, hR⟩ := hrel
          have Hg2 := Lib.hid hgh; clear hgh
          have HQ := Lib.hid hR; clear hR
          by_cases hlt : q < Ll
          · have hdl : q < bl.length := by rw [H.out.2.1]; have := HL.out.2; have := HLl.out; omega
            have hds : bl.drop q = bl[q] :: bl.drop (q + 1) := List.drop_eq_getElem_cons hdl
            have hg1 := getA_one bl[q] (bl.drop (q + 1))
            rw [← hds] at hg1
            generalize bl[q] = bq at hg1
            have HG := Lib.hid hg1
            clear hdl hds hg1
            go_wp2_with fail
            refine (Get_z 1 bq.toNat 0 (bq.toNat : Nat) _ 0 HQ.out.1 rfl rfl (by decide) HG.out).mono ?_
            rintro e w6 ⟨rfl, h6, o6⟩
            have H6 := Lib.hid (And.intro h6 (And.intro (HQ.out.2.1.keep (Fr.of_only o6) (fun q hq e => by simp at e; subst e; exact H5.out.2.2.1 _ (by simp) hq)) (then_only HQ.out.2.2 o6 hbs))); clear h6 o6
            go_wp2_with fail
            go_roundg (Ll - (q + 1))
            case measure => have := Hg2.out; omega
            case rel => exact ⟨q + 1, rfl, by omega, by go_num, H6.out⟩
          · obtain rfl : q = Ll := by omega
            have hdr : bl.drop q = s := by rw [HLl.out, HR.out.2.2.1, List.drop_append_of_le_length (Nat.le_refl _), List.drop_length, List.nil_append]
            rw [hdr] at HQ
            clear hdr hq hlt Hg2
            obtain ⟨wp, rfl⟩ : ∃ wp : World, wp = wr := ⟨_, rfl⟩
            go_wp2_with fail
            refine (Left_to (L : Int) HQ.out.1 (by rw [HL.out.1])).mono ?_
            rintro e w6 ⟨rfl, m6, hw6⟩
            have H6 := Lib.hid (show ROk w6 bs F5 s 0 ∧ WOk w6 w.heap.size w1.heap.size Fx l ∧ Below w.heap.size w w6 from by rw [hw6]; exact ⟨HQ.out.1.drewN m6, HQ.out.2.1.drewN m6, then_drewN HQ.out.2.2 m6⟩)
            clear hw6
            go_wp2_with fail
            go_loopg [71] L (fun gh i wr => ∃ p : Nat, gh = L - p ∧ p ≤ L ∧ i = .int .i64 p ∧ ∃ Fp, (ROk wr bs F5 (s.drop p) 0 ∧ WOk wr w.heap.size w1.heap.size Fp (l ++ s.take p) ∧ (∀ q, q ∈ bs :: F5 → q ∉ Fp) ∧ Below w.heap.size w wr))
            case atStart => exact ⟨0, rfl, by omega, rfl, Fx, by rw [List.drop_zero]; exact H6.out.1, by rw [List.take_zero, List.append_nil]; exact H6.out.2.1, H5.out.2.2.1, H6.out.2.2⟩
            case round =>
              obtain ⟨p, hgh, hp, rfl, Fp, hR⟩ := hrel
              have Hg3 := Lib.hid hgh; clear hgh
              have HP := Lib.hid hR; clear hR
              by_cases hlt : p < L
              · have hdl : p < s.length := by rw [← HL.out.1]; exact hlt
                have hds : s.drop p = s[p] :: s.drop (p + 1) := List.drop_eq_getElem_cons hdl
                have hts : s.take (p + 1) = s.take p ++ bitsOf s[p].toNat 1 := by rw [bitsOf_bool, List.take_succ_eq_append_getElem hdl]
                have hg1 := getA_one s[p] (s.drop (p + 1))
                rw [← hds] at hg1
                generalize s[p] = bq at hg1 hts
                have hb2 := Bool.toNat_lt bq
                have hlen : (l ++ s.take p).length ≤ 1600 := by rw [List.length_append, List.length_take]; have := HL.out; omega
                have HG := Lib.hid (And.intro hg1 (And.intro hts hlen))
                clear hdl hds hg1 hts hlen
                go_wp2_with fail
                refine (Get_z 1 bq.toNat 0 (bq.toNat : Nat) _ 0 HP.out.1 rfl rfl (by decide) HG.out.1).mono ?_
                rintro e w7 ⟨rfl, h7, o7⟩
                have H7 := Lib.hid (And.intro h7 (And.intro (HP.out.2.1.keep (Fr.of_only o7) (fun q hq e => by simp at e; subst e; exact HP.out.2.2.1 _ (by simp) hq)) (then_only HP.out.2.2.2 o7 hbs))); clear h7 o7
                go_wp2_with fail
                refine (Put_z bq.toNat 1 H7.out.2.1 H7.out.2.2.size rfl rfl (by have := HG.out.2.2; omega) (by decide) (by omega)).mono ?_
                rintro e w8 ⟨rfl, F8, h8, fr8⟩
                rw [List.append_assoc, ← HG.out.2.1] at h8
                have H8 := Lib.hid (And.intro (H7.out.1.keep fr8 HP.out.2.2.1) (And.intro h8 (And.intro (fr8.apart HP.out.2.2.1 H7.out.1.lt) (then_fr H7.out.2.2 fr8 H7.out.2.1.base)))); clear h8 fr8 H7
                go_wp2_with fail
                go_roundg (L - (p + 1))
                case measure => have := Hg3.out; omega
                case rel => exact ⟨p + 1, rfl, by omega, by go_num, F8, H8.out⟩
              · obtain rfl : p = L := by omega
                have hall : l ++ s.take p = bl := by rw [HL.out.1, List.take_length, ← HR.out.2.2.1]
                rw [hall] at HP
                have hb16 : bl.length ≤ 1600 := by rw [H.out.2.1]; omega
                clear hall hlt hp Hg3
                go_wp2_with fail
                refine (Bytes_to m HP.out.2.1 (by omega) H.out.2.2.1).mono ?_
                rintro e w7 ⟨A7, c7, rfl, r7, b7, _⟩
                have H7 := Lib.hid (And.intro r7 (then_ HP.out.2.2.2 b7)); clear r7 b7
                go_wp2_with fail
                refine (SameBytes_to m _ _ H7.out.1 (H.out.1.keepd H7.out.2) (fun _ _ => rfl) (by omega)).mono ?_
                rintro e w8 ⟨rfl, b8⟩
                have H8 := Lib.hid (then_ H7.out.2 b8); clear b8 H7
                go_wp2_with fail
                refine (awake_calls _).mono ?_
                rintro e w9 ⟨rfl, b9⟩
                have H9 := Lib.hid (then_ H8.out b9); clear b9 H8
                go_wp2_with fail
                go_ret
                exact ⟨rfl, H9.out⟩
end Go.Proofs.Ytgjipjnfbpfenaa
