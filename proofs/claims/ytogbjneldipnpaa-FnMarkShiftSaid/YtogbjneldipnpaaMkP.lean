/- Marks: the plain laws. -/
import Derived.Test.YtogbjneldipnpaaT0
namespace Go.Proofs.Ytogbjneldipnpaa

def gp (ms : List T2) (k : Nat) : Int := (ms[k]?.getD (0, 0)).1
def gn (ms : List T2) (k : Nat) : Int := (ms[k]?.getD (0, 0)).2
theorem gp_of {ms : List T2} {k : Nat} {x y : Int} (h : ms[k]? = some (x, y)) : gp ms k = x ∧ gn ms k = y := by simp [gp, gn, h]
def okAt (ms : List T2) (k : Nat) : Bool :=
  (inB (gp ms k) 0 100000 && inB (gn ms k) 0 200000) && (decide (k = 0) || (decide (gp ms (k - 1) < gp ms k) && decide (gn ms (k - 1) < gn ms k)))
theorem okAt_iff {ms : List T2} {k : Nat} : okAt ms k = true ↔ ((0 ≤ gp ms k ∧ gp ms k ≤ 100000) ∧ (0 ≤ gn ms k ∧ gn ms k ≤ 200000)) ∧ (k = 0 ∨ (gp ms (k - 1) < gp ms k ∧ gn ms (k - 1) < gn ms k)) := by
  simp [okAt, inB_iff]
def mvB (ms : List T2) : Bool := inB ms.length 2 10 && (List.range ms.length).all (okAt ms)
theorem mvB_iff {ms : List T2} : mvB ms = true ↔ (2 ≤ ms.length ∧ ms.length ≤ 10) ∧ ∀ k, k < ms.length → okAt ms k = true := by
  simp only [mvB, Bool.and_eq_true, inB_iff, List.all_eq_true, List.mem_range]
  constructor <;> rintro ⟨h, h'⟩ <;> exact ⟨by omega, h'⟩
theorem mvB_false {ms : List T2} {k : Nat} (hk : k < ms.length) (h : okAt ms k = false) : mvB ms = false := by
  rw [← Bool.not_eq_true, mvB_iff]
  rintro ⟨_, h'⟩
  rw [h' k hk] at h; cases h
theorem mvB_len {ms : List T2} (h : ¬ (2 ≤ ms.length ∧ ms.length ≤ 10)) : mvB ms = false := by
  rw [← Bool.not_eq_true, mvB_iff]
  exact fun h' => h h'.1

/-- Strictly rising. -/
def MV (ms : List T2) : Prop := ∀ i j, i < j → j < ms.length → gp ms i < gp ms j ∧ gn ms i < gn ms j
theorem mvB_rises {ms : List T2} (h : mvB ms = true) : MV ms := by
  rw [mvB_iff] at h
  intro i j hij hj
  induction j with
  | zero => omega
  | succ j ih =>
    have h1 := (okAt_iff.1 (h.2 (j + 1) hj)).2
    rcases h1 with h1 | h1
    · omega
    · simp only [Nat.add_sub_cancel] at h1
      rcases Nat.lt_or_ge i j with hlt | hge
      · have := ih hlt (by omega); omega
      · obtain rfl : i = j := by omega
        exact h1
theorem mvB_bd {ms : List T2} (h : mvB ms = true) {k : Nat} (hk : k < ms.length) : (0 ≤ gp ms k ∧ gp ms k ≤ 100000) ∧ (0 ≤ gn ms k ∧ gn ms k ≤ 200000) :=
  (okAt_iff.1 ((mvB_iff.1 h).2 k hk)).1

/-! The number at a position. -/
def At (ms : List T2) (k : Nat) (x : Int) : Prop := k < ms.length ∧ gp ms k ≤ x ∧ (k + 1 < ms.length → x < gp ms (k + 1))
def ip (a b c d x : Int) : Int := b + (x - a) * (d - b) / (c - a)
def numI (ms : List T2) (k : Nat) (x : Int) : Int := if k + 1 < ms.length then ip (gp ms k) (gn ms k) (gp ms (k + 1)) (gn ms (k + 1)) x else gn ms k
def kA (ms : List T2) (x : Int) : Nat → Nat
  | 0 => 0
  | k + 1 => if gp ms (k + 1) ≤ x then k + 1 else kA ms x k
def numF (ms : List T2) (x : Int) : Int := numI ms (kA ms x (ms.length - 1)) x
theorem kA_at {ms : List T2} {x : Int} (h0 : gp ms 0 ≤ x) (m : Nat) : kA ms x m ≤ m ∧ gp ms (kA ms x m) ≤ x ∧ (kA ms x m + 1 ≤ m → x < gp ms (kA ms x m + 1)) := by
  induction m with
  | zero => exact ⟨Nat.le_refl _, h0, fun h => by simp [kA] at h⟩
  | succ m ih =>
    simp only [kA]
    by_cases h : gp ms (m + 1) ≤ x
    · rw [if_pos h]; exact ⟨Nat.le_refl _, h, fun h => by omega⟩
    · rw [if_neg h]
      refine ⟨by omega, ih.2.1, fun _ => ?_⟩
      rcases Nat.lt_or_ge (kA ms x m) m with hlt | hge
      · exact ih.2.2 hlt
      · have : kA ms x m = m := by omega
        rw [this]; omega
theorem at_some {ms : List T2} {x : Int} (hn : 1 ≤ ms.length) (h0 : gp ms 0 ≤ x) : At ms (kA ms x (ms.length - 1)) x := by
  obtain ⟨h1, h2, h3⟩ := kA_at h0 (ms.length - 1)
  exact ⟨by omega, h2, fun h => h3 (by omega)⟩
theorem at_uniq {ms : List T2} (hm : MV ms) {i j : Nat} {x : Int} (hi : At ms i x) (hj : At ms j x) : i = j := by
  rcases Nat.lt_trichotomy i j with h | h | h
  · have h1 := hi.2.2 (by have := hj.1; omega)
    have h2 := hj.2.1
    rcases Nat.lt_or_ge (i + 1) j with h3 | h3
    · have := (hm (i + 1) j h3 hj.1).1; omega
    · obtain rfl : i + 1 = j := by omega
      omega
  · exact h
  · have h1 := hj.2.2 (by have := hi.1; omega)
    have h2 := hi.2.1
    rcases Nat.lt_or_ge (j + 1) i with h3 | h3
    · have := (hm (j + 1) i h3 hi.1).1; omega
    · obtain rfl : j + 1 = i := by omega
      omega
theorem numF_at {ms : List T2} (hm : MV ms) {k : Nat} {x : Int} (h : At ms k x) (h0 : gp ms 0 ≤ x) : numF ms x = numI ms k x := by
  unfold numF
  rw [at_uniq hm (at_some (by have := h.1; omega) h0) h]

theorem ip_lo {a b c d x : Int} (h1 : a ≤ x) (h3 : a < c) (h4 : b < d) : b ≤ ip a b c d x := by
  unfold ip
  have := Int.ediv_nonneg (Int.mul_nonneg (show 0 ≤ x - a by omega) (show 0 ≤ d - b by omega)) (show 0 ≤ c - a by omega)
  omega
theorem ip_hi {a b c d x : Int} (h2 : x < c) (h3 : a < c) (h4 : b < d) : ip a b c d x < d := by
  unfold ip
  have h : (x - a) * (d - b) < (d - b) * (c - a) := by
    rw [Int.mul_comm (d - b)]
    exact Int.mul_lt_mul_of_pos_right (by omega) (by omega)
  have := Int.ediv_lt_of_lt_mul (show 0 < c - a by omega) h
  omega
theorem ip_mono {a b c d x y : Int} (h : x ≤ y) (h3 : a < c) (h4 : b < d) : ip a b c d x ≤ ip a b c d y := by
  unfold ip
  have h' : (x - a) * (d - b) ≤ (y - a) * (d - b) := Int.mul_le_mul_of_nonneg_right (by omega) (by omega)
  have := Int.ediv_le_ediv (show 0 < c - a by omega) h'
  omega
theorem ip_at (a b c d : Int) : ip a b c d a = b := by simp [ip]
theorem numI_lo {ms : List T2} (hm : MV ms) {k : Nat} {x : Int} (h : At ms k x) : gn ms k ≤ numI ms k x := by
  unfold numI
  split
  · rename_i hk
    have := hm k (k + 1) (by omega) hk
    exact ip_lo h.2.1 this.1 this.2
  · exact Int.le_refl _
theorem numI_hi {ms : List T2} (hm : MV ms) {k : Nat} {x : Int} (h : At ms k x) (hk : k + 1 < ms.length) : numI ms k x < gn ms (k + 1) := by
  unfold numI
  rw [if_pos hk]
  have := hm k (k + 1) (by omega) hk
  exact ip_hi (h.2.2 hk) this.1 this.2
theorem numI_mono {ms : List T2} (hm : MV ms) {i j : Nat} {x y : Int} (hi : At ms i x) (hj : At ms j y) (h : x ≤ y) : numI ms i x ≤ numI ms j y := by
  rcases Nat.lt_trichotomy i j with hlt | rfl | hlt
  · have h1 := numI_hi hm hi (by have := hj.1; omega)
    have h2 := numI_lo hm hj
    rcases Nat.lt_or_ge (i + 1) j with h3 | h3
    · have := (hm (i + 1) j h3 hj.1).2; omega
    · obtain rfl : i + 1 = j := by omega
      omega
  · unfold numI
    split
    · rename_i hk
      have := hm i (i + 1) (by omega) hk
      exact ip_mono h this.1 this.2
    · exact Int.le_refl _
  · have h1 := hj.2.2 (by have := hi.1; omega)
    have h2 := hi.2.1
    rcases Nat.lt_or_ge (j + 1) i with h3 | h3
    · have := (hm (j + 1) i h3 hi.1).1; omega
    · obtain rfl : j + 1 = i := by omega
      omega
theorem numF_mono {ms : List T2} (hm : MV ms) (hn : 1 ≤ ms.length) {x y : Int} (h0 : gp ms 0 ≤ x) (h : x ≤ y) : numF ms x ≤ numF ms y :=
  numI_mono hm (at_some hn h0) (at_some hn (by omega)) h
theorem at_mark {ms : List T2} (hm : MV ms) {k : Nat} (hk : k < ms.length) : At ms k (gp ms k) := ⟨hk, Int.le_refl _, fun h => (hm k (k + 1) (by omega) h).1⟩
theorem gp_zero_le {ms : List T2} (hm : MV ms) {k : Nat} (hk : k < ms.length) : gp ms 0 ≤ gp ms k ∧ gn ms 0 ≤ gn ms k := by
  rcases Nat.eq_zero_or_pos k with rfl | h
  · exact ⟨Int.le_refl _, Int.le_refl _⟩
  · have := hm 0 k h hk; omega
theorem gp_le_last {ms : List T2} (hm : MV ms) {k : Nat} (hk : k < ms.length) : gp ms k ≤ gp ms (ms.length - 1) ∧ gn ms k ≤ gn ms (ms.length - 1) := by
  rcases Nat.lt_or_ge k (ms.length - 1) with h | h
  · have := hm k (ms.length - 1) h (by omega); omega
  · obtain rfl : k = ms.length - 1 := by omega
    exact ⟨Int.le_refl _, Int.le_refl _⟩
theorem numF_mark {ms : List T2} (hm : MV ms) {k : Nat} (hk : k < ms.length) : numF ms (gp ms k) = gn ms k := by
  rw [numF_at hm (at_mark hm hk) (gp_zero_le hm hk).1]
  unfold numI
  split
  · exact ip_at _ _ _ _
  · rfl
theorem numF_bd {ms : List T2} (hm : MV ms) (hn : 1 ≤ ms.length) {x : Int} (h0 : gp ms 0 ≤ x) (h1 : x ≤ gp ms (ms.length - 1)) : gn ms 0 ≤ numF ms x ∧ numF ms x ≤ gn ms (ms.length - 1) := by
  have a := numF_mono hm hn (Int.le_refl _) h0
  have b := numF_mono hm hn h0 h1
  rw [numF_mark hm (by omega)] at a b
  exact ⟨a, b⟩

/-- The least position with at least a number. -/
def Least (ms : List T2) (y v : Int) : Prop := (gp ms 0 ≤ v ∧ v ≤ gp ms (ms.length - 1)) ∧ y ≤ numF ms v ∧ ∀ z, gp ms 0 ≤ z → z < v → numF ms z < y
theorem least_some {ms : List T2} (hm : MV ms) (hn : 1 ≤ ms.length) {y : Int} (h1 : y ≤ gn ms (ms.length - 1)) : ∃ v, Least ms y v := by
  have key : ∀ m : Nat, ∀ x : Int, gp ms 0 ≤ x → x ≤ gp ms (ms.length - 1) → y ≤ numF ms x → (x - gp ms 0).toNat ≤ m → ∃ v, Least ms y v := by
    intro m
    induction m with
    | zero => intro x h0 h2 h3 h4; exact ⟨x, ⟨h0, h2⟩, h3, fun z h5 h6 => by omega⟩
    | succ m ih =>
      intro x h0 h2 h3 h4
      by_cases h : ∃ z, gp ms 0 ≤ z ∧ z < x ∧ y ≤ numF ms z
      · obtain ⟨z, z1, z2, z3⟩ := h
        exact ih z z1 (by omega) z3 (by omega)
      · refine ⟨x, ⟨h0, h2⟩, h3, fun z h5 h6 => ?_⟩
        rcases Int.lt_or_le (numF ms z) y with h7 | h7
        · exact h7
        · exact absurd ⟨z, h5, h6, h7⟩ h
  refine key _ (gp ms (ms.length - 1)) (gp_zero_le hm (by omega)).1 (Int.le_refl _) ?_ (Nat.le_refl _)
  rw [numF_mark hm (by omega)]; exact h1
theorem least_uniq {ms : List T2} {y u v : Int} (hu : Least ms y u) (hv : Least ms y v) : u = v := by
  rcases Int.lt_trichotomy u v with h | h | h
  · have := hv.2.2 u hu.1.1 h; have := hu.2.1; omega
  · exact h
  · have := hu.2.2 v hv.1.1 h; have := hv.2.1; omega
noncomputable def posF (ms : List T2) (y : Int) : Int := by
  classical
  exact if h : ∃ v, Least ms y v then h.choose else 0
theorem posF_least {ms : List T2} (hm : MV ms) (hn : 1 ≤ ms.length) {y : Int} (h1 : y ≤ gn ms (ms.length - 1)) : Least ms y (posF ms y) := by
  have h := least_some hm hn h1
  unfold posF
  rw [dif_pos h]
  exact h.choose_spec

/-! Derived lists. -/
theorem gp_take {ms : List T2} {k m : Nat} (h : k < m) : gp (ms.take m) k = gp ms k ∧ gn (ms.take m) k = gn ms k := by
  simp [gp, gn, List.getElem?_take, h]
theorem okAt_take {ms : List T2} {k m : Nat} (h : k < m) : okAt (ms.take m) k = okAt ms k := by
  unfold okAt
  rw [(gp_take h).1, (gp_take h).2, (gp_take (show k - 1 < m by omega)).1, (gp_take (show k - 1 < m by omega)).2]
theorem mvB_take {ms : List T2} (h : mvB ms = true) {m : Nat} (h2 : 2 ≤ m) (hm : m ≤ ms.length) : mvB (ms.take m) = true := by
  rw [mvB_iff] at h ⊢
  have hl : (ms.take m).length = m := by simp; omega
  rw [hl]
  exact ⟨by omega, fun k hk => by rw [okAt_take hk]; exact h.2 k (by omega)⟩
theorem numF_take {ms : List T2} (h : mvB ms = true) {m : Nat} (h2 : 2 ≤ m) (hm : m ≤ ms.length) {x : Int} (h0 : gp ms 0 ≤ x) (h1 : x ≤ gp ms (m - 1)) : numF (ms.take m) x = numF ms x := by
  have hr := mvB_rises h
  have hl : (ms.take m).length = m := by simp; omega
  have hr' := mvB_rises (mvB_take h h2 hm)
  have g0 := (gp_take (ms := ms) (show 0 < m by omega)).1
  rcases Int.lt_or_le x (gp ms (m - 1)) with hlt | hge
  · have ha := at_some (ms := ms) (by omega) h0
    generalize kA ms x (ms.length - 1) = k at ha
    have hk : k + 1 < m := by
      rcases Nat.lt_or_ge (k + 1) m with h3 | h3
      · exact h3
      · have h4 : m - 1 ≤ k := by omega
        have := ha.2.1
        rcases Nat.lt_or_ge (m - 1) k with h5 | h5
        · have := (hr (m - 1) k h5 ha.1).1; omega
        · obtain rfl : m - 1 = k := by omega
          omega
    have ha' : At (ms.take m) k x := ⟨by omega, by rw [(gp_take (by omega)).1]; exact ha.2.1, fun _ => by rw [(gp_take hk).1]; exact ha.2.2 (by omega)⟩
    rw [numF_at hr ha h0, numF_at hr' ha' (by rw [g0]; exact h0)]
    unfold numI
    rw [if_pos (by omega), if_pos (by omega), (gp_take hk).1, (gp_take hk).2, (gp_take (show k < m by omega)).1, (gp_take (show k < m by omega)).2]
  · obtain rfl : x = gp ms (m - 1) := by omega
    rw [numF_mark hr (by omega)]
    have := numF_mark hr' (k := m - 1) (by omega)
    rw [(gp_take (show m - 1 < m by omega)).1, (gp_take (show m - 1 < m by omega)).2] at this
    exact this

def shf (ms : List T2) (b : Int) : List T2 := ms.map fun t => (t.1 + b, t.2)
theorem gp_shf {ms : List T2} {b : Int} {k : Nat} (h : k < ms.length) : gp (shf ms b) k = gp ms k + b ∧ gn (shf ms b) k = gn ms k := by
  simp [gp, gn, shf, List.getElem?_map, List.getElem?_eq_getElem h]
theorem numF_shf {ms : List T2} (h : mvB ms = true) {b : Int} (h' : mvB (shf ms b) = true) {x : Int} (h0 : gp ms 0 ≤ x) : numF (shf ms b) (x + b) = numF ms x := by
  have hr := mvB_rises h
  have hr' := mvB_rises h'
  have hl : (shf ms b).length = ms.length := by simp [shf]
  have hn := (mvB_iff.1 h).1
  have ha := at_some (ms := ms) (by omega) h0
  generalize kA ms x (ms.length - 1) = k at ha
  have hk := ha.1
  have g1 := gp_shf (b := b) hk
  have ha' : At (shf ms b) k (x + b) := ⟨by omega, by rw [g1.1]; have := ha.2.1; omega, fun h => by rw [(gp_shf (by omega)).1]; have := ha.2.2 (by omega); omega⟩
  rw [numF_at hr ha h0, numF_at hr' ha' (by rw [(gp_shf (by omega)).1]; omega)]
  unfold numI
  rw [hl]
  split
  · rename_i hk1
    rw [(gp_shf hk1).1, (gp_shf hk1).2, g1.1, g1.2]
    unfold ip
    rw [show x + b - (gp ms k + b) = x - gp ms k by omega, show gp ms (k + 1) + b - (gp ms k + b) = gp ms (k + 1) - gp ms k by omega]
  · exact g1.2

def dbl (ms : List T2) : List T2 := ms.map fun t => (t.1, 2 * t.2)
theorem gp_dbl {ms : List T2} {k : Nat} : gp (dbl ms) k = gp ms k ∧ gn (dbl ms) k = 2 * gn ms k := by
  unfold gp gn dbl
  rw [List.getElem?_map]
  cases ms[k]? <;> simp
theorem dbl_valid {ms : List T2} (h : mvB ms = true) : mvB (dbl ms) = decide (2 * gn ms (ms.length - 1) ≤ 200000) := by
  have hr := mvB_rises h
  have hl : (dbl ms).length = ms.length := by simp [dbl]
  have hn := (mvB_iff.1 h).1
  by_cases hc : 2 * gn ms (ms.length - 1) ≤ 200000
  · rw [decide_eq_true hc, mvB_iff, hl]
    refine ⟨hn, fun k hk => ?_⟩
    rw [okAt_iff, gp_dbl.1, gp_dbl.2, gp_dbl.1, gp_dbl.2]
    have h1 := okAt_iff.1 ((mvB_iff.1 h).2 k hk)
    have h2 := (gp_le_last hr hk).2
    refine ⟨⟨h1.1.1, by omega⟩, ?_⟩
    rcases h1.2 with h3 | h3
    · exact .inl h3
    · exact .inr (by omega)
  · rw [decide_eq_false hc]
    refine mvB_false (k := ms.length - 1) (by omega) ?_
    rw [← Bool.not_eq_true, okAt_iff, gp_dbl.2]
    omega
theorem numF_dbl {ms : List T2} (h : mvB ms = true) (h' : mvB (dbl ms) = true) {x : Int} (h0 : gp ms 0 ≤ x) : numF (dbl ms) x = 2 * numF ms x ∨ numF (dbl ms) x = 2 * numF ms x + 1 := by
  have hr := mvB_rises h
  have hr' := mvB_rises h'
  have hl : (dbl ms).length = ms.length := by simp [dbl]
  have hn := (mvB_iff.1 h).1
  have ha := at_some (ms := ms) (by omega) h0
  generalize kA ms x (ms.length - 1) = k at ha
  have hk := ha.1
  have ha' : At (dbl ms) k x := ⟨by omega, by rw [gp_dbl.1]; exact ha.2.1, fun h => by rw [gp_dbl.1]; exact ha.2.2 (by omega)⟩
  rw [numF_at hr ha h0, numF_at hr' ha' (by rw [gp_dbl.1]; exact h0)]
  unfold numI
  rw [hl]
  split
  · rename_i hk1
    rw [gp_dbl.1, gp_dbl.2, gp_dbl.1, gp_dbl.2]
    unfold ip
    have hd := (hr k (k + 1) (by omega) hk1).1
    rw [show (x - gp ms k) * (2 * gn ms (k + 1) - 2 * gn ms k) = 2 * ((x - gp ms k) * (gn ms (k + 1) - gn ms k)) by rw [← Int.mul_sub, Int.mul_left_comm]]
    generalize (x - gp ms k) * (gn ms (k + 1) - gn ms k) = q
    generalize gn ms k = b
    generalize hD : gp ms (k + 1) - gp ms k = D
    have hD0 : 0 < D := by omega
    have e1 := Int.mul_ediv_add_emod q D
    have e2 := Int.emod_nonneg q (show D ≠ 0 by omega)
    have e3 := Int.emod_lt_of_pos q hD0
    generalize q / D = u at *
    generalize q % D = r at *
    rcases Int.lt_or_le (2 * r) D with h5 | h5
    · left
      have : 2 * q / D = 2 * u := by
        rw [← e1, show 2 * (D * u + r) = 2 * r + D * (2 * u) by rw [Int.mul_add, Int.mul_left_comm]; omega, Int.add_mul_ediv_left _ _ (by omega), Int.ediv_eq_zero_of_lt (by omega) h5]; omega
      omega
    · right
      have : 2 * q / D = 2 * u + 1 := by
        rw [← e1, show 2 * (D * u + r) = (2 * r - D) + D * (2 * u + 1) by rw [Int.mul_add D (2 * u), Int.mul_add, Int.mul_left_comm]; omega, Int.add_mul_ediv_left _ _ (by omega), Int.ediv_eq_zero_of_lt (by omega) (by omega)]; omega
      omega
  · left; exact gp_dbl.2
/-- Two marks: a line between. -/
theorem numF_line {ms : List T2} (h : mvB ms = true) (h2 : ms.length = 2) {x : Int} (h0 : gp ms 0 ≤ x) (h1 : x ≤ gp ms 1) :
    (numF ms x - gn ms 0) * (gp ms 1 - gp ms 0) ≤ (x - gp ms 0) * (gn ms 1 - gn ms 0) ∧ (x - gp ms 0) * (gn ms 1 - gn ms 0) - (numF ms x - gn ms 0) * (gp ms 1 - gp ms 0) < gp ms 1 - gp ms 0 := by
  have hr := mvB_rises h
  have hd := hr 0 1 (by omega) (by omega)
  rcases Int.lt_or_le x (gp ms 1) with hlt | hge
  · rw [numF_at hr (k := 0) ⟨by omega, h0, fun _ => hlt⟩ h0]
    unfold numI
    rw [if_pos (by omega)]
    unfold ip
    rw [show (0 : Nat) + 1 = 1 from rfl]
    generalize (x - gp ms 0) * (gn ms 1 - gn ms 0) = q
    rw [show gn ms 0 + q / (gp ms 1 - gp ms 0) - gn ms 0 = q / (gp ms 1 - gp ms 0) by omega]
    generalize hD : gp ms 1 - gp ms 0 = D
    have e1 := Int.mul_ediv_add_emod q D
    have e2 := Int.emod_nonneg q (show D ≠ 0 by omega)
    have e3 := Int.emod_lt_of_pos q (show 0 < D by omega)
    rw [Int.mul_comm] at e1
    omega
  · obtain rfl : x = gp ms 1 := by omega
    rw [numF_mark hr (by omega), Int.mul_comm (gp ms 1 - gp ms 0)]
    omega
end Go.Proofs.Ytogbjneldipnpaa
