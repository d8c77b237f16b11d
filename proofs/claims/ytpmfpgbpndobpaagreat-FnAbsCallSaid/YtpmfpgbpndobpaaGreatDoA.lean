/- Lemmas and walks of this proof, some texts one behind the other. No condition. -/
import Derived.Test.YtpmfpgbpndobpaaGreatStN
import Derived.WideMake
import Derived.Test.YtpmfpgbpndobpaaGreatRegG
import Derived.Test.YtpmfpgbpndobpaaGreatHas4
import Derived.Test.YtpmfpgbpndobpaaGreatDrG
set_option linter.unusedSimpArgs false
set_option linter.unusedVariables false
/- What is reckoned of bounds within others is within what is reckoned of those: plain. No condition. -/
namespace Go.Proofs.YtpmfpgbpndobpaaGreat
open Go.RowKit
set_option linter.unusedVariables false
set_option linter.unusedSimpArgs false

theorem inI_iff {x y : Itv} : inI x y = true ↔ y.lo ≤ x.lo ∧ x.hi ≤ y.hi := by simp [inI]
theorem inI_refl (x : Itv) : inI x x = true := by rw [inI_iff]; omega
theorem inI_trans {x y z : Itv} (h : inI x y = true) (k : inI y z = true) : inI x z = true := by
  rw [inI_iff] at *
  omega
theorem turn_mono {a b : Int} (h : a ≤ b) : a - w16 a ≤ b - w16 b := by
  unfold w16
  split <;> split <;> omega
theorem fold_mono {lo hi lo' hi' : Int} (h1 : lo' ≤ lo) (h2 : lo ≤ hi) (h3 : hi ≤ hi') : inI (foldI lo hi) (foldI lo' hi') = true := by
  have a1 := turn_mono h1
  have a2 := turn_mono h2
  have a3 := turn_mono h3
  have b1 := w16_le lo
  have b2 := w16_le hi
  rw [inI_iff]
  unfold foldI
  split <;> split <;> simp only <;> omega
theorem doI_mono_of {op : Int} {a b a' b' r : Itv} (h : doI op a b = some r) (hs : ∀ x, x ∈ ressI op a b → (∃ p, p ∈ ressI op a' b' ∧ p ≤ x) ∧ ∃ q, q ∈ ressI op a' b' ∧ x ≤ q) : ∃ r', doI op a' b' = some r' ∧ inI r r' = true := by
  unfold doI at h
  split at h
  · cases h
  rename_i hne
  cases h
  have hm := minL_is hne
  have hM := maxL_is hne
  obtain ⟨⟨p, hp, hp1⟩, _⟩ := hs _ hm.1
  obtain ⟨_, q, hq, hq1⟩ := hs _ hM.1
  have hne' : ressI op a' b' ≠ [] := fun e => by rw [e] at hp; cases hp
  refine ⟨_, by unfold doI; rw [if_neg hne'], fold_mono ?_ ?_ ?_⟩
  · have := (minL_is hne').2 p hp
    omega
  · exact hm.2 _ hM.1
  · have := (maxL_is hne').2 q hq
    omega
theorem mul_btw {p x q : Int} (c : Int) (h1 : p ≤ x) (h2 : x ≤ q) : (p * c ≤ x * c ∧ x * c ≤ q * c) ∨ (q * c ≤ x * c ∧ x * c ≤ p * c) := by
  rcases Int.le_total 0 c with h | h
  · exact .inl ⟨Int.mul_le_mul_of_nonneg_right h1 h, Int.mul_le_mul_of_nonneg_right h2 h⟩
  · exact .inr ⟨Int.mul_le_mul_of_nonpos_right h2 h, Int.mul_le_mul_of_nonpos_right h1 h⟩
theorem div_up {a b c : Int} (hc : 0 < c) (h : a ≤ b) : a.tdiv c ≤ b.tdiv c := Int.tdiv_le_tdiv hc h
theorem div_btw {p x q : Int} {c : Int} (hc : c ≠ 0) (h1 : p ≤ x) (h2 : x ≤ q) : (p.tdiv c ≤ x.tdiv c ∧ x.tdiv c ≤ q.tdiv c) ∨ (q.tdiv c ≤ x.tdiv c ∧ x.tdiv c ≤ p.tdiv c) := by
  rcases Int.lt_or_gt_of_ne hc with h | h
  · obtain ⟨d, rfl⟩ : ∃ d, c = -d := ⟨-c, by omega⟩
    have a1 := div_up (show 0 < d by omega) h1
    have a2 := div_up (show 0 < d by omega) h2
    simp only [Int.tdiv_neg]
    omega
  · exact .inl ⟨div_up h h1, div_up h h2⟩
theorem div_down {n p m : Int} (hn : 0 ≤ n) (hp : 0 < p) (h : p ≤ m) : n.tdiv m ≤ n.tdiv p := by
  obtain ⟨k, rfl⟩ := Int.eq_ofNat_of_zero_le hn
  obtain ⟨i, rfl⟩ := Int.eq_ofNat_of_zero_le (show 0 ≤ p by omega)
  obtain ⟨j, rfl⟩ := Int.eq_ofNat_of_zero_le (show 0 ≤ m by omega)
  have := Nat.div_le_div_left (a := k) (show i ≤ j by omega) (show 0 < i by omega)
  rw [Int.tdiv_eq_ediv_of_nonneg (by omega), Int.tdiv_eq_ediv_of_nonneg (by omega)]
  omega
theorem by_btw_pos (n : Int) {l m h : Int} (h0 : 0 < l) (h1 : l ≤ m) (h2 : m ≤ h) : (n.tdiv l ≤ n.tdiv m ∧ n.tdiv m ≤ n.tdiv h) ∨ (n.tdiv h ≤ n.tdiv m ∧ n.tdiv m ≤ n.tdiv l) := by
  rcases Int.le_total 0 n with hn | hn
  · exact .inr ⟨div_down hn (by omega) h2, div_down hn h0 h1⟩
  · obtain ⟨k, rfl⟩ : ∃ k, n = -k := ⟨-n, by omega⟩
    have a1 := div_down (show 0 ≤ k by omega) h0 h1
    have a2 := div_down (show 0 ≤ k by omega) (show 0 < m by omega) h2
    simp only [Int.neg_tdiv]
    omega
theorem by_btw (n : Int) {l m h : Int} (h0 : 0 < l ∨ h < 0) (h1 : l ≤ m) (h2 : m ≤ h) : (n.tdiv l ≤ n.tdiv m ∧ n.tdiv m ≤ n.tdiv h) ∨ (n.tdiv h ≤ n.tdiv m ∧ n.tdiv m ≤ n.tdiv l) := by
  rcases h0 with h0 | h0
  · exact by_btw_pos n h0 h1 h2
  · obtain ⟨l', rfl⟩ : ∃ k, l = -k := ⟨-l, by omega⟩
    obtain ⟨m', rfl⟩ : ∃ k, m = -k := ⟨-m, by omega⟩
    obtain ⟨h', rfl⟩ : ∃ k, h = -k := ⟨-h, by omega⟩
    have := by_btw_pos n (show 0 < h' by omega) (show h' ≤ m' by omega) (show m' ≤ l' by omega)
    simp only [Int.tdiv_neg]
    omega
theorem sec_around {b : Itv} {m : Int} (hm0 : m ≠ 0) (h1 : b.lo ≤ m) (h2 : m ≤ b.hi) : ∃ l h, l ∈ secI 4 b ∧ h ∈ secI 4 b ∧ l ≤ m ∧ m ≤ h ∧ (0 < l ∨ h < 0) := by
  obtain ⟨bl, bh⟩ := b
  simp only at h1 h2
  rcases Int.lt_or_gt_of_ne hm0 with h | h
  · refine ⟨bl, if bh ≤ -1 then bh else -1, ?_, ?_, h1, ?_, .inr ?_⟩
    · rw [sec4]; omega
    · rw [sec4]; split <;> omega
    · split <;> omega
    · split <;> omega
  · refine ⟨if 1 ≤ bl then bl else 1, bh, ?_, ?_, ?_, h2, .inl ?_⟩
    · rw [sec4]; split <;> omega
    · rw [sec4]; omega
    · split <;> omega
    · split <;> omega
/-- What is reckoned within bounds lies between corners. -/
theorem op_corner {op : Int} (hop : op = 1 ∨ op = 3 ∨ op = 4) {a b : Itv} {n m : Int} (hm0 : op = 4 → m ≠ 0) (h1 : a.lo ≤ n) (h2 : n ≤ a.hi) (h3 : b.lo ≤ m) (h4 : m ≤ b.hi) :
    (∃ p, p ∈ ressI op a b ∧ p ≤ opI op n m) ∧ ∃ q, q ∈ ressI op a b ∧ opI op n m ≤ q := by
  have key : ∀ (l h : Int), l ∈ secI op b → h ∈ secI op b → (∀ c, c = a.lo ∨ c = a.hi → (opI op c l ≤ opI op c m ∧ opI op c m ≤ opI op c h) ∨ (opI op c h ≤ opI op c m ∧ opI op c m ≤ opI op c l)) →
      ((opI op a.lo m ≤ opI op n m ∧ opI op n m ≤ opI op a.hi m) ∨ (opI op a.hi m ≤ opI op n m ∧ opI op n m ≤ opI op a.lo m)) →
      (∃ p, p ∈ ressI op a b ∧ p ≤ opI op n m) ∧ ∃ q, q ∈ ressI op a b ∧ opI op n m ≤ q := by
    intro l h hl hh hc hn
    have ne2 : op ≠ 2 := by omega
    have m1 : opI op a.lo l ∈ ressI op a b := (mem_ress ne2 _).2 ⟨l, hl, .inl rfl⟩
    have m2 : opI op a.hi l ∈ ressI op a b := (mem_ress ne2 _).2 ⟨l, hl, .inr rfl⟩
    have m3 : opI op a.lo h ∈ ressI op a b := (mem_ress ne2 _).2 ⟨h, hh, .inl rfl⟩
    have m4 : opI op a.hi h ∈ ressI op a b := (mem_ress ne2 _).2 ⟨h, hh, .inr rfl⟩
    have c1 := hc _ (.inl rfl)
    have c2 := hc _ (.inr rfl)
    have lowest : ∀ c, c = a.lo ∨ c = a.hi → (∃ p, p ∈ ressI op a b ∧ p ≤ opI op c m) ∧ ∃ q, q ∈ ressI op a b ∧ opI op c m ≤ q := by
      rintro c (rfl | rfl)
      · rcases c1 with ⟨x, y⟩ | ⟨x, y⟩
        · exact ⟨⟨_, m1, x⟩, _, m3, y⟩
        · exact ⟨⟨_, m3, x⟩, _, m1, y⟩
      · rcases c2 with ⟨x, y⟩ | ⟨x, y⟩
        · exact ⟨⟨_, m2, x⟩, _, m4, y⟩
        · exact ⟨⟨_, m4, x⟩, _, m2, y⟩
    obtain ⟨⟨p1, hp1, hp2⟩, q1, hq1, hq2⟩ := lowest _ (.inl rfl)
    obtain ⟨⟨p3, hp3, hp4⟩, q3, hq3, hq4⟩ := lowest _ (.inr rfl)
    rcases hn with ⟨x, y⟩ | ⟨x, y⟩
    · exact ⟨⟨p1, hp1, by omega⟩, q3, hq3, by omega⟩
    · exact ⟨⟨p3, hp3, by omega⟩, q1, hq1, by omega⟩
  rcases hop with rfl | rfl | rfl
  · refine key b.lo b.hi (by simp [secI]) (by simp [secI]) (fun c _ => ?_) ?_
    · simp only [opI, if_true]; omega
    · simp only [opI, if_true]; omega
  · refine key b.lo b.hi (by simp [secI]) (by simp [secI]) (fun c _ => ?_) ?_
    · have := mul_btw c h3 h4
      simp only [Int.mul_comm _ c] at this
      simpa [opI] using this
    · have := mul_btw m h1 h2
      simpa [opI] using this
  · obtain ⟨l, h, hl, hh, l1, l2, l3⟩ := sec_around (hm0 rfl) h3 h4
    refine key l h hl hh (fun c _ => ?_) ?_
    · simpa [opI] using by_btw c l3 l1 l2
    · simpa [opI] using div_btw (hm0 rfl) h1 h2
theorem sec_in {op : Int} {b : Itv} {n : Int} (hb : b.lo ≤ b.hi) (h : n ∈ secI op b) : b.lo ≤ n ∧ n ≤ b.hi ∧ (op = 4 → n ≠ 0) := by
  by_cases h4 : op = 4
  · subst h4
    obtain ⟨bl, bh⟩ := b
    rw [sec4] at h
    exact ⟨h.2.1, h.2.2.1, fun _ => h.1⟩
  · simp only [secI, h4, if_false, List.mem_cons, List.not_mem_nil, or_false] at h
    refine ⟨?_, ?_, fun e => absurd e h4⟩ <;> omega
/-- Of less comes less. -/
theorem doI_mono {op : Int} (h1 : 1 ≤ op) (h2 : op ≤ 4) {a b a' b' r : Itv} (ha : a.lo ≤ a.hi) (hb : b.lo ≤ b.hi) (ia : inI a a' = true) (ib : inI b b' = true) (h : doI op a b = some r) : ∃ r', doI op a' b' = some r' ∧ inI r r' = true := by
  rw [inI_iff] at ia ib
  refine doI_mono_of h (fun x hx => ?_)
  by_cases ho : op = 2
  · subst ho
    simp only [ressI, if_true, List.mem_cons, List.not_mem_nil, or_false] at hx ⊢
    exact ⟨⟨a'.lo - b'.hi, .inl rfl, by omega⟩, a'.hi - b'.lo, .inr rfl, by omega⟩
  · obtain ⟨n, hn, hx⟩ := (mem_ress ho x).1 hx
    obtain ⟨b1, b2, b3⟩ := sec_in hb hn
    rcases hx with rfl | rfl
    · exact op_corner (by omega) b3 (by omega) (by omega) (by omega) (by omega)
    · exact op_corner (by omega) b3 (by omega) (by omega) (by omega) (by omega)
theorem woI_mono {a b a' b' : Itv} (hb : b.lo ≤ b.hi) (ia : inI a a' = true) (ib : inI b b' = true) (hn : (woI a b).lo ≤ (woI a b).hi) : inI (woI a b) (woI a' b') = true := by
  rw [inI_iff] at ia ib ⊢
  unfold woI at hn ⊢
  (repeat' split at hn) <;> (repeat' split) <;> (first | omega | (simp only at *; omega))
theorem cut_mono {a a' : Itv} {lo hi lo' hi' : Int} (ia : inI a a' = true) (h1 : lo' ≤ lo) (h2 : hi ≤ hi') : inI (cutI a lo hi) (cutI a' lo' hi') = true := by
  rw [inI_iff] at *
  simp only [cutI]
  omega
theorem ok_of_in {x x' : Itv} (h : itvB x = true) (hi : inI x x' = true) (hb : -32768 ≤ x'.lo ∧ x'.hi ≤ 32767) : itvB x' = true := by
  rw [itvB_iff] at *
  rw [inI_iff] at hi
  omega
theorem meetI_mono {a a' t t' x : Itv} (ia : inI a a' = true) (it : inI t t' = true) (ha : itvB a' = true) (h : meetI a t = some x) : ∃ x', meetI a' t' = some x' ∧ inI x x' = true := by
  unfold meetI at h
  split at h
  · rename_i hx
    cases h
    have hm := cut_mono ia ((inI_iff.1 it).1) ((inI_iff.1 it).2)
    have hb := itvB_iff.1 ha
    refine ⟨cutI a' t'.lo t'.hi, ?_, hm⟩
    rw [meetI, if_pos (ok_of_in hx hm ?_)]
    simp only [cutI]
    omega
  · cases h
theorem woI_sub (a b : Itv) : a.lo ≤ (woI a b).lo ∧ (woI a b).hi ≤ a.hi := by
  unfold woI
  repeat' split
  all_goals (first | omega | (simp only; omega))
theorem relI_mono {rel : Int} {a b a' b' x y : Itv} (ha : itvB a = true) (hb : itvB b = true) (ha' : itvB a' = true) (hb' : itvB b' = true) (ia : inI a a' = true) (ib : inI b b' = true) (h : relI rel a b = some (x, y)) :
    ∃ x' y', relI rel a' b' = some (x', y') ∧ inI x x' = true ∧ inI y y' = true := by
  have hr : resI rel a b = (x, y) ∧ itvB x = true ∧ itvB y = true := by
    unfold relI at h
    split at h
    · rename_i hx
      rw [Bool.and_eq_true] at hx
      simp only [Option.some.injEq] at h
      rw [h] at hx
      exact ⟨h, hx⟩
    · cases h
  obtain ⟨h1, hx, hy⟩ := hr
  have ex : (resI rel a b).1 = x := by rw [h1]
  have ey : (resI rel a b).2 = y := by rw [h1]
  have key : inI x (resI rel a' b').1 = true ∧ inI y (resI rel a' b').2 = true ∧ (-32768 ≤ (resI rel a' b').1.lo ∧ (resI rel a' b').1.hi ≤ 32767) ∧ (-32768 ≤ (resI rel a' b').2.lo ∧ (resI rel a' b').2.hi ≤ 32767) := by
    rw [itvB_iff] at ha' hb'
    rw [← ex] at hx ⊢
    rw [← ey] at hy ⊢
    clear h1 ex ey h
    by_cases r4 : rel = 1 ∨ rel = 2 ∨ rel = 3
    · rw [itvB_iff] at ha hb hx hy
      rw [inI_iff] at ia ib ⊢
      rw [inI_iff]
      rcases r4 with rfl | rfl | rfl
      · simp only [resI, if_true, cutI] at hx hy ⊢
        omega
      · simp only [resI, if_true, cutI, Int.reduceEq, if_false] at hx hy ⊢
        omega
      · simp only [resI, if_true, cutI, Int.reduceEq, if_false] at hx hy ⊢
        omega
    · have e1 : ¬ rel = 1 := by omega
      have e2 : ¬ rel = 2 := by omega
      have e3 : ¬ rel = 3 := by omega
      simp only [resI, e1, e2, e3, if_false] at hx hy ⊢
      have s1 := woI_sub a' b'
      have s2 := woI_sub b' a'
      have n1 := (itvB_iff.1 hx).2.2
      have n2 := (itvB_iff.1 hy).2.2
      exact ⟨woI_mono (itvB_iff.1 hb).2.2 ia ib n1, woI_mono (itvB_iff.1 ha).2.2 ib ia n2, by omega, by omega⟩
  exact ⟨_, _, relI_some rfl (ok_of_in hx key.1 key.2.2.1) (ok_of_in hy key.2.1 key.2.2.2), key.1, key.2.1⟩
theorem swap_some {o : Option (Itv × Itv)} {x y : Itv} (h : swapI o = some (x, y)) : o = some (y, x) := by
  unfold swapI at h
  rw [Option.map_eq_some_iff] at h
  obtain ⟨p, rfl, h⟩ := h
  cases h
  rfl
theorem notI_mono {rel : Int} {a b a' b' x y : Itv} (ha : itvB a = true) (hb : itvB b = true) (ha' : itvB a' = true) (hb' : itvB b' = true) (ia : inI a a' = true) (ib : inI b b' = true) (h : notI rel a b = some (x, y)) :
    ∃ x' y', notI rel a' b' = some (x', y') ∧ inI x x' = true ∧ inI y y' = true := by
  unfold notI at h ⊢
  by_cases r1 : rel = 1
  · rw [if_pos r1] at h ⊢
    obtain ⟨x', y', h1, h2, h3⟩ := relI_mono hb ha hb' ha' ib ia (swap_some h)
    exact ⟨y', x', by rw [h1]; rfl, h3, h2⟩
  rw [if_neg r1] at h ⊢
  by_cases r2 : rel = 2
  · rw [if_pos r2] at h ⊢
    obtain ⟨x', y', h1, h2, h3⟩ := relI_mono hb ha hb' ha' ib ia (swap_some h)
    exact ⟨y', x', by rw [h1]; rfl, h3, h2⟩
  rw [if_neg r2] at h ⊢
  by_cases r3 : rel = 3
  · rw [if_pos r3] at h ⊢
    exact relI_mono ha hb ha' hb' ia ib h
  rw [if_neg r3] at h ⊢
  exact relI_mono ha hb ha' hb' ia ib h
end Go.Proofs.YtpmfpgbpndobpaaGreat

/- What a relation leaves of two bounds: the program's side. No condition. -/
namespace Go.Proofs.YtpmfpgbpndobpaaGreat
open Go.RowKit
set_option linter.unusedVariables false
set_option linter.unusedSimpArgs false
attribute [local go_sem] ext_cell ext_frozen ext_lt ext_le ext_le1 lt_s2 lt_s3 lt_s4 lt_s5 lt_s6 ext_lt1 ext_lt2 ext_lt3

theorem implCutItv (x : Itv) (lo hi : Int) (w : World) : Calls Tryz.prog 131 #[x.v, .int .i64 lo, .int .i64 hi] w fun e w' => e = .returned (cutI x lo hi).v ∧ Grew w w' := by
  obtain ⟨a, b⟩ := x
  go_enter Tryz.func131, Tryz.ntmps131
  go_wp2
  all_goals
    go_returns
    refine ⟨by (simp [cutI]; try omega), ?_⟩
    exact gr
theorem implWithout (x y : Itv) (w : World) (hx : itvB x = true) (hy : itvB y = true) : Calls Tryz.prog 133 #[x.v, y.v] w fun e w' => e = .returned (woI x y).v ∧ Grew w w' := by
  obtain ⟨a, b⟩ := x
  obtain ⟨c, d⟩ := y
  rw [itvB_iff] at hx hy
  simp only at hx hy
  by_cases h1 : c = d
  · subst h1
    by_cases h2 : a = c
    · go_enter Tryz.func133, Tryz.ntmps133
      go_wp2
      go_returns
      refine ⟨by simp [woI, h2], ?_⟩
      exact gr
    · by_cases h3 : b = c
      · go_enter Tryz.func133, Tryz.ntmps133
        go_wp2
        go_returns
        refine ⟨by simp [woI, h2, h3], ?_⟩
        exact gr
      · go_enter Tryz.func133, Tryz.ntmps133
        go_wp2
        go_returns
        refine ⟨by simp [woI, h2, h3], ?_⟩
        exact gr
  · go_enter Tryz.func133, Tryz.ntmps133
    go_wp2
    go_returns
    refine ⟨by simp [woI, h1], ?_⟩
    exact gr
theorem bothOkG (a b : Itv) (w : World) :
    Calls Tryz.prog 130 #[a.v, b.v] w fun e w' => e = .returned (.bool (itvB a && itvB b)) ∧ Grew w w' := by
  obtain ⟨a1, a2⟩ := a
  obtain ⟨b1, b2⟩ := b
  show Calls _ _ _ _ fun e w' => e = .returned (.bool (itvOkB a1 a2 && itvOkB b1 b2)) ∧ Grew w w'
  have C := fun w => itvOk a1 a2 w
  have D := fun w => itvOk b1 b2 w
  generalize itvOkB b1 b2 = B at *
  cases h1 : itvOkB a1 a2
  · rw [h1] at C
    have HC := Lib.hid C
    clear C D h1
    go_enter Tryz.func130, Tryz.ntmps130
    go_wp2_with ((with_reducible refine (HC.out _).mono ?_); rintro e w' ⟨rfl, g'⟩; (first | obtain ⟨y, rfl⟩ := ext_cold g' | obtain ⟨y, rfl⟩ := ext_col g' | obtain ⟨y, rfl⟩ := ext_of g'); clear g')
    go_ret
    refine ⟨rfl, ?_⟩
    exact gr
  · rw [h1] at C
    have HC := Lib.hid C
    have HD := Lib.hid D
    clear C D h1
    go_enter Tryz.func130, Tryz.ntmps130
    go_wp2_with (first | ((with_reducible refine (HC.out _).mono ?_); rintro e w' ⟨rfl, g'⟩; (first | obtain ⟨y, rfl⟩ := ext_cold g' | obtain ⟨y, rfl⟩ := ext_col g' | obtain ⟨y, rfl⟩ := ext_of g'); clear g') | ((with_reducible refine (HD.out _).mono ?_); rintro e w' ⟨rfl, g'⟩; (first | obtain ⟨z, rfl⟩ := ext_cold g' | obtain ⟨z, rfl⟩ := ext_col g' | obtain ⟨z, rfl⟩ := ext_of g'); clear g'))
    go_ret
    refine ⟨by simp, ?_⟩
    exact gr
theorem mapSet (w : World) (o o' : Obj) : ({ w.alloc o with heap := (w.alloc o).heap.setIfInBounds w.heap.size o' } : World) = w.alloc o' := by
  have e : (w.heap.push o).setIfInBounds w.heap.size o' = w.heap.push o' := by
    apply Array.ext_getElem?
    intro i
    simp only [Array.getElem?_setIfInBounds, Array.getElem?_push, Array.size_push]
    by_cases h : w.heap.size = i
    · subst h
      simp
    · rw [if_neg h]
      by_cases h2 : i = w.heap.size
      · omega
      · simp [h2]
  simp only [World.alloc, e]
theorem mapPut {P : Program} (w : World) (mty kt et clock : Nat) (k : Int) (es : Array MapEntry) (val : Value) (hm : P.underlying mty = some (.map kt et)) (hk : P.underlying kt = some (.int .i64)) (hf : Instr.findNow (.int .i64) (.int .i64 k) es.toList 0 = some none) :
    (Instr.mapUpdate mty (.map (some w.heap.size)) (.int .i64 k) val).run P (w.alloc (.map es clock)) = .ok () (w.alloc (.map (es.push { key := .int .i64 k, val := val, born := clock }) (clock + 1))) := by
  have hb : (w.alloc (.map es clock)).heap[w.heap.size]? = some (.map es clock) := heap_alloc_new w _
  have hc : (Instr.checkKey false 10000 kt (.int .i64 k)).run P (w.alloc (.map es clock)) = .ok () (w.alloc (.map es clock)) := MapKept.run_checkKey (k := .int .i64 k) hk (by simp [MapKept.IsKey]) false 9999
  simp [Instr.mapUpdate, run_underlying hm, MapKept.run_getObj_map hb, hc, MapKept.run_findKey hk hf, MapKept.run_setObj_map _ hb, Result.andThen]
  exact mapSet w _ _
def entR (k : Int) (t : TypeId) (b : Nat) : MapEntry := { key := .int .i64 k, val := .iface t (.agg #[]), born := b }
def relMap : Obj := .map #[entR 1 217 0, entR 2 218 1, entR 3 197 2, entR 4 219 3] 4
theorem implRelations (w : World) : Calls Tryz.prog 129 #[] w fun e w' => e = .returned (.map (some w.heap.size)) ∧ w' = w.alloc relMap := by
  have hmm := run_makeMap (P := Tryz.prog) 194 w
  have p1 := mapPut (P := Tryz.prog) w 194 3 192 0 1 #[] (.iface 217 (.agg #[])) (by kernel_rfl) (by kernel_rfl) rfl
  have p2 := mapPut (P := Tryz.prog) w 194 3 192 1 2 (#[entR 1 217 0]) (.iface 218 (.agg #[])) (by kernel_rfl) (by kernel_rfl) rfl
  have p3 := mapPut (P := Tryz.prog) w 194 3 192 2 3 (#[entR 1 217 0, entR 2 218 1]) (.iface 197 (.agg #[])) (by kernel_rfl) (by kernel_rfl) rfl
  have p4 := mapPut (P := Tryz.prog) w 194 3 192 3 4 (#[entR 1 217 0, entR 2 218 1, entR 3 197 2]) (.iface 219 (.agg #[])) (by kernel_rfl) (by kernel_rfl) rfl
  obtain ⟨w1, h1⟩ : ∃ x, w.alloc (.map #[] 0) = x := ⟨_, rfl⟩
  obtain ⟨w2, h2⟩ : ∃ x, w.alloc (.map #[entR 1 217 0] 1) = x := ⟨_, rfl⟩
  obtain ⟨w3, h3⟩ : ∃ x, w.alloc (.map #[entR 1 217 0, entR 2 218 1] 2) = x := ⟨_, rfl⟩
  obtain ⟨w4, h4⟩ : ∃ x, w.alloc (.map #[entR 1 217 0, entR 2 218 1, entR 3 197 2] 3) = x := ⟨_, rfl⟩
  obtain ⟨w5, h5⟩ : ∃ x, w.alloc relMap = x := ⟨_, rfl⟩
  have q1 : (Instr.mapUpdate 194 (.map (some w.heap.size)) (.int .i64 1) (.iface 217 (.agg #[]))).run Tryz.prog w1 = .ok () w2 := by rw [← h1, ← h2]; exact p1
  have q2 : (Instr.mapUpdate 194 (.map (some w.heap.size)) (.int .i64 2) (.iface 218 (.agg #[]))).run Tryz.prog w2 = .ok () w3 := by rw [← h2, ← h3]; exact p2
  have q3 : (Instr.mapUpdate 194 (.map (some w.heap.size)) (.int .i64 3) (.iface 197 (.agg #[]))).run Tryz.prog w3 = .ok () w4 := by rw [← h3, ← h4]; exact p3
  have q4 : (Instr.mapUpdate 194 (.map (some w.heap.size)) (.int .i64 4) (.iface 219 (.agg #[]))).run Tryz.prog w4 = .ok () w5 := by rw [← h4, ← h5]; exact p4
  rw [h1] at hmm
  clear p1 p2 p3 p4 h1 h2 h3 h4
  have H5 := Lib.hid h5
  clear h5
  generalize hg : w.heap.size = g at *
  clear hg
  go_enter Tryz.func129, Tryz.ntmps129
  go_wp2
  go_ret
  exact ⟨rfl, H5.out.symm⟩
end Go.Proofs.YtpmfpgbpndobpaaGreat

/- What an operation makes of numbers: the program's small functions. No condition. -/
namespace Go.Proofs.YtpmfpgbpndobpaaGreat
open Go.RowKit
set_option linter.unusedVariables false
set_option linter.unusedSimpArgs false
attribute [local go_sem] ext_cell ext_frozen ext_lt ext_le ext_le1 lt_s2 lt_s3 lt_s4 lt_s5 lt_s6 ext_lt1 ext_lt2 ext_lt3

theorem i64in {n : Int} (h1 : -9223372036854775808 ≤ n) (h2 : n ≤ 9223372036854775807) : IntKind.i64.wrap n = n := by
  simp [IntKind.wrap, IntKind.bits, IntKind.signed]
  split <;> omega
theorem implNumWrap (n : Int) (w : World) : Calls Tryz.prog 168 #[.int .i64 n] w fun e w' => e = .returned (.int .i64 (w16 n)) ∧ w = w' := by
  have e : IntKind.i64.wrap (IntKind.i16.wrap n) = w16 n := by
    rw [w16_wrap]
    have := w16_le n
    exact i64in (by omega) (by omega)
  go_enter Tryz.func168, Tryz.ntmps168
  go_wp2
  go_ret
  exact ⟨by first | (rw [← e]; done) | (simp [← e]; done), rfl⟩
theorem implItvAll (w : World) : Calls Tryz.prog 169 #[] w fun e w' => e = .returned (.agg #[.int .i64 (-32768), .int .i64 32767]) ∧ Grew w w' := by
  go_enter Tryz.func169, Tryz.ntmps169
  go_wp2
  go_returns
  exact ⟨rfl, by unfold Grew; go_grown⟩
theorem implSingle (n : Int) (w : World) : Calls Tryz.prog 134 #[.int .i64 n] w fun e w' => e = .returned (.agg #[.int .i64 n, .int .i64 n]) ∧ Grew w w' := by
  go_enter Tryz.func134, Tryz.ntmps134
  go_wp2
  go_returns
  exact ⟨rfl, by unfold Grew; go_grown⟩
set_option maxHeartbeats 1000000 in
theorem implItvFold (lo hi : Int) (w : World) (h1 : lo ≤ hi) (h2 : -2147483648 ≤ lo) (h3 : hi ≤ 2147483648) :
    Calls Tryz.prog 155 #[.int .i64 lo, .int .i64 hi] w fun e w' => e = .returned (foldI lo hi).v ∧ Grew w w' := by
  have HL := Lib.hid (fun W => implNumWrap lo W)
  have HH := Lib.hid (fun W => implNumWrap hi W)
  have HA := Lib.hid (fun W => implItvAll W)
  have b1 := w16_le lo
  have b2 := w16_le hi
  rw [foldI]
  obtain ⟨p, hp⟩ : ∃ p, w16 lo = p := ⟨_, rfl⟩
  obtain ⟨q, hq⟩ : ∃ p, w16 hi = p := ⟨_, rfl⟩
  rw [hp] at HL b1 ⊢
  rw [hq] at HH b2 ⊢
  clear hp hq
  have a1 : ¬ hi < lo := by omega
  have a2 : ¬ lo < -1099511627776 := by omega
  have a3 : ¬ 1099511627776 < hi := by omega
  by_cases h : lo - p = hi - q
  · rw [if_pos h]
    have hb : (lo - p != hi - q) = false := by simp [h]
    clear h
    go_enter Tryz.func155, Tryz.ntmps155
    go_wp2_with (first | ((with_reducible refine (HL.out _).mono ?_); rintro e w' ⟨rfl, rfl⟩) | ((with_reducible refine (HH.out _).mono ?_); rintro e w' ⟨rfl, rfl⟩))
    go_returns
    exact ⟨rfl, gr⟩
  · rw [if_neg h]
    have hb : (lo - p != hi - q) = true := by simp [h]
    clear h
    go_enter Tryz.func155, Tryz.ntmps155
    go_wp2_with (first | ((with_reducible refine (HL.out _).mono ?_); rintro e w' ⟨rfl, rfl⟩) | ((with_reducible refine (HH.out _).mono ?_); rintro e w' ⟨rfl, rfl⟩) | ((with_reducible refine (HA.out _).mono ?_); rintro e w' ⟨rfl, g'⟩; (first | obtain ⟨z, rfl⟩ := ext_cold g' | obtain ⟨z, rfl⟩ := ext_col g' | obtain ⟨z, rfl⟩ := ext_of g'); clear g'))
    refine bodyPost_ret (by simp [results, Tryz.results155, go_sem]; try rfl) rfl ?_
    exact ⟨rfl, gr⟩
theorem implAdd (a b : Int) (w : World) (h : -9223372036854775808 ≤ a + b ∧ a + b ≤ 9223372036854775807) : Calls Tryz.prog 174 #[.int .i64 a, .int .i64 b] w fun e w' => e = .returned (.int .i64 (a + b)) ∧ Grew w w' := by
  have e := i64in h.1 h.2
  go_enter Tryz.func174, Tryz.ntmps174
  go_wp2
  go_ret
  exact ⟨by simp [e], gr⟩
theorem implSub (a b : Int) (w : World) (h : -9223372036854775808 ≤ a - b ∧ a - b ≤ 9223372036854775807) : Calls Tryz.prog 175 #[.int .i64 a, .int .i64 b] w fun e w' => e = .returned (.int .i64 (a - b)) ∧ Grew w w' := by
  have e := i64in h.1 h.2
  go_enter Tryz.func175, Tryz.ntmps175
  go_wp2
  go_ret
  exact ⟨by simp [e], gr⟩
theorem implMul (a b : Int) (w : World) (h : -9223372036854775808 ≤ a * b ∧ a * b ≤ 9223372036854775807) : Calls Tryz.prog 176 #[.int .i64 a, .int .i64 b] w fun e w' => e = .returned (.int .i64 (a * b)) ∧ Grew w w' := by
  have e := i64in h.1 h.2
  go_enter Tryz.func176, Tryz.ntmps176
  go_wp2
  go_ret
  exact ⟨by simp [e], gr⟩
theorem implDiv (a b : Int) (w : World) (h : -9223372036854775808 ≤ a.tdiv b ∧ a.tdiv b ≤ 9223372036854775807) (hb : ¬ b = 0) : Calls Tryz.prog 177 #[.int .i64 a, .int .i64 b] w fun e w' => e = .returned (.int .i64 (a.tdiv b)) ∧ Grew w w' := by
  have e := i64in h.1 h.2
  go_enter Tryz.func177, Tryz.ntmps177
  go_wp2
  go_ret
  exact ⟨by simp [e], gr⟩
/-- The operations of a number. -/
theorem implOps (a : Int) (w : World) : Calls Tryz.prog 167 #[.int .i64 a] w fun e w' => ∃ g, e = .returned (.slice (some ⟨g, 0, none⟩) 4 4) ∧
    (w'.cell? ⟨g, 0, none⟩ = some (.func (.func 174) #[.int .i64 a] #[]) ∧ w'.cell? ⟨g, 1, none⟩ = some (.func (.func 175) #[.int .i64 a] #[]) ∧
      w'.cell? ⟨g, 2, none⟩ = some (.func (.func 176) #[.int .i64 a] #[]) ∧ w'.cell? ⟨g, 3, none⟩ = some (.func (.func 177) #[.int .i64 a] #[])) ∧ g < w'.heap.size ∧ Grew w w' := by
  go_enter Tryz.func167, Tryz.ntmps167
  go_wp2
  go_ret
  exact ⟨_, rfl, by simp [go_sem], by simp, gr⟩
end Go.Proofs.YtpmfpgbpndobpaaGreat
