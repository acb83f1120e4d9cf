/-
  The plain side: the bounds on the number of derivatives.
-/
import Derived.Test.Qxb6500848aGreatDoorPlainO
namespace Go.Proofs.Qxb6500848aGreatDoor.Pl

def lessZ (a : Int) : Int := if a = TM then a else a - 1
def twoZ (n : Int) : Int := if 62 ≤ n then TM else 2 ^ n.toNat

/-- n bounds the number of derivatives of x by nonempty words, 0 not counted. -/
def Bp (A : List Nd) (x n : Int) : Prop := 0 ≤ n ∧ n ≤ TM ∧ (n < TM → ∀ A2, Le A A2 → Wf A2 → ∃ B L, Le A2 B ∧ Wf B ∧ Cov B x L ∧ (L.length : Int) ≤ n)

theorem times_lt {a b : Int} (ha : 0 ≤ a) (hb : 0 ≤ b) (ha1 : a ≤ TM) (hb1 : b ≤ TM) : 0 ≤ timesZ a b ∧ timesZ a b ≤ TM ∧ (timesZ a b < TM → timesZ a b = a * b ∧ (a ≠ 0 → b < TM) ∧ (b ≠ 0 → a < TM)) := by
  unfold timesZ
  split
  · exact ⟨by unfold TM; omega, Int.le_refl _, fun h => absurd h (by omega)⟩
  · rename_i h
    have key : a ≠ 0 → b * a ≤ TM - 1 := fun h0 => by
      have h3 : b < (TM + a - 1) / a := by
        by_cases h4 : b < (TM + a - 1) / a
        · exact h4
        · exact absurd ⟨h0, by omega⟩ h
      have h5 : (TM + a - 1) / a * a ≤ TM + a - 1 := Int.ediv_mul_le _ h0
      have h6 : (b + 1) * a ≤ (TM + a - 1) / a * a := Int.mul_le_mul_of_nonneg_right (by omega) ha
      rw [Int.add_mul] at h6
      omega
    refine ⟨Int.mul_nonneg ha hb, ?_, fun hlt => ⟨rfl, fun h0 => ?_, fun h0 => ?_⟩⟩
    · by_cases h0 : a = 0
      · rw [h0]; unfold TM; omega
      · have := key h0
        rw [Int.mul_comm] at this
        omega
    · have := key h0
      have h7 : b * 1 ≤ b * a := Int.mul_le_mul_of_nonneg_left (by omega) hb
      omega
    · by_cases ha0 : a = 0
      · rw [ha0]; unfold TM; omega
      · have := key ha0
        have h7 : 1 * a ≤ b * a := Int.mul_le_mul_of_nonneg_right (by omega) ha
        omega
theorem plus_lt {a : Int} (ha : 0 ≤ a) : 1 ≤ plusZ a 1 ∧ plusZ a 1 ≤ TM ∧ (plusZ a 1 < TM → plusZ a 1 = a + 1 ∧ a < TM) := by
  unfold plusZ
  split
  · exact ⟨by unfold TM; omega, Int.le_refl _, fun h => absurd h (by omega)⟩
  · exact ⟨by omega, by omega, fun _ => ⟨rfl, by omega⟩⟩
theorem two_lt {n : Int} (hn : 0 ≤ n) : 1 ≤ twoZ n ∧ twoZ n ≤ TM ∧ (twoZ n < TM → n < 62 ∧ twoZ n = 2 ^ n.toNat) := by
  unfold twoZ
  split
  · exact ⟨by unfold TM; omega, Int.le_refl _, fun h => absurd h (by omega)⟩
  · have h1 : (2 : Int) ^ n.toNat = ((2 ^ n.toNat : Nat) : Int) := by simp
    have h2 : 0 < 2 ^ n.toNat := Nat.pow_pos (by omega)
    have h3 : 2 ^ n.toNat ≤ 2 ^ 61 := Nat.pow_le_pow_right (by omega) (by omega)
    rw [h1]
    exact ⟨by omega, by unfold TM; omega, fun _ => ⟨by omega, rfl⟩⟩
theorem less_lt {a : Int} (ha : 1 ≤ a) (ha1 : a ≤ TM) : 0 ≤ lessZ a ∧ lessZ a ≤ TM ∧ (lessZ a < TM → lessZ a = a - 1 ∧ a < TM) := by
  unfold lessZ
  split
  · exact ⟨by omega, by omega, fun h => by omega⟩
  · exact ⟨by omega, by omega, fun _ => ⟨rfl, by omega⟩⟩

section
variable {A : List Nd} {x : Int}
theorem Bp.low (hx : Valid A x) (h : (nodeAt A x).kind = 0 ∨ (nodeAt A x).kind = 1) : Bp A x 0 :=
  ⟨by omega, by unfold TM; omega, fun _ A2 h2 w2 => ⟨A2, [], Le.refl _, w2, cov_low (h2.valid hx) (by rw [h2.node hx]; exact h), by simp⟩⟩
theorem Bp.one (hx : Valid A x) (h : (nodeAt A x).kind = 2 ∨ (nodeAt A x).kind = 3) : Bp A x 1 :=
  ⟨by omega, by unfold TM; omega, fun _ A2 h2 w2 => by
    rcases h with h | h
    · exact ⟨A2, [2], Le.refl _, w2, cov_all w2 (h2.valid hx) (by rw [h2.node hx]; exact h), by simp⟩
    · exact ⟨A2, [1], Le.refl _, w2, cov_cls w2 (h2.valid hx) (by rw [h2.node hx]; exact h), by simp⟩⟩
theorem Bp.comp (hx : Valid A x) (h : (nodeAt A x).kind = 7) {n : Int} (hn : Bp A (kid (nodeAt A x) 0) n) : Bp A x (plusZ n 1) := by
  obtain ⟨n0, n1, n2⟩ := hn
  obtain ⟨p0, p1, p2⟩ := plus_lt n0
  refine ⟨by omega, p1, fun hlt A2 h2 w2 => ?_⟩
  obtain ⟨e, hlt'⟩ := p2 hlt
  obtain ⟨B, L, q1, q2, q3, q4⟩ := n2 hlt' A2 h2 w2
  have h2B := h2.trans q1
  obtain ⟨B', L', r1, r2, r3, r4⟩ := cov_comp q2 (h2B.valid hx) (by rw [h2B.node hx]; exact h) (by rw [h2B.node hx]; exact q3)
  exact ⟨B', L', q1.trans r1, r2, r3, by rw [e]; omega⟩
theorem Bp.cat (hx : Valid A x) (h : (nodeAt A x).kind = 4) {n m : Int} (hn : Bp A (kid (nodeAt A x) 0) n) (hm : Bp A (kid (nodeAt A x) 1) m) : Bp A x (lessZ (timesZ (plusZ n 1) (twoZ m))) := by
  obtain ⟨n0, n1, n2⟩ := hn
  obtain ⟨m0, m1, m2⟩ := hm
  obtain ⟨p0, p1, p2⟩ := plus_lt n0
  obtain ⟨t0, t1, t2⟩ := two_lt m0
  obtain ⟨s0, s1, s2⟩ := times_lt (a := plusZ n 1) (b := twoZ m) (by omega) (by omega) p1 t1
  have s3 : 1 ≤ timesZ (plusZ n 1) (twoZ m) := by
    by_cases e : timesZ (plusZ n 1) (twoZ m) < TM
    · rw [(s2 e).1]
      have : 1 * twoZ m ≤ plusZ n 1 * twoZ m := Int.mul_le_mul_of_nonneg_right p0 (by omega)
      omega
    · unfold TM at e; omega
  obtain ⟨l0, l1, l2⟩ := less_lt s3 s1
  refine ⟨l0, l1, fun hlt A2 h2 w2 => ?_⟩
  obtain ⟨e1, e2⟩ := l2 hlt
  obtain ⟨e3, e4, e5⟩ := s2 e2
  obtain ⟨e6, e7⟩ := p2 (e5 (by omega))
  obtain ⟨e8, e9⟩ := t2 (e4 (by omega))
  obtain ⟨B1, L0, q1, q2, q3, q4⟩ := n2 e7 A2 h2 w2
  obtain ⟨B2, L1, r1, r2, r3, r4⟩ := m2 (by unfold TM; omega) B1 (h2.trans q1) q2
  have h2B := (h2.trans q1).trans r1
  obtain ⟨B', L', u1, u2, u3, u4⟩ := cov_cat r2 (h2B.valid hx) (by rw [h2B.node hx]; exact h) (by rw [h2B.node hx]; exact q3.le r1) (by rw [h2B.node hx]; exact r3)
  refine ⟨B', L', (q1.trans r1).trans u1, u2, u3, ?_⟩
  rw [e1, e3, e6, e9]
  obtain ⟨n', rfl⟩ := Int.eq_ofNat_of_zero_le n0
  obtain ⟨m', rfl⟩ := Int.eq_ofNat_of_zero_le m0
  have v1 : (L0.length + 1) * 2 ^ L1.length ≤ (n' + 1) * 2 ^ m' := Nat.mul_le_mul (by omega) (Nat.pow_le_pow_right (by omega) (by omega))
  have v2 : L'.length + 1 ≤ (n' + 1) * 2 ^ m' := Nat.le_trans u4 v1
  have v3 : (((n' : Int) + 1) * 2 ^ (m' : Int).toNat) = (((n' + 1) * 2 ^ m' : Nat) : Int) := by simp
  rw [v3]
  omega
theorem Bp.rep {n m : Int} {b : Int} (hn : Bp A b n) (hm : 1 ≤ m) (hm5 : m ≤ 5) (hR : ∀ A2, Le A A2 → Wf A2 → ∃ B, Le A2 B ∧ Wf B ∧ ∃ rs : List Int, (rs.length : Int) = m ∧ Rests B x b rs) (hx : Valid A x) : Bp A x (lessZ (twoZ (timesZ n m))) := by
  obtain ⟨n0, n1, n2⟩ := hn
  obtain ⟨s0, s1, s2⟩ := times_lt n0 (b := m) (by omega) n1 (by unfold TM; omega)
  obtain ⟨t0, t1, t2⟩ := two_lt s0
  obtain ⟨l0, l1, l2⟩ := less_lt t0 t1
  refine ⟨l0, l1, fun hlt A2 h2 w2 => ?_⟩
  obtain ⟨e1, e2⟩ := l2 hlt
  obtain ⟨e3, e4⟩ := t2 e2
  obtain ⟨e5, _, e6⟩ := s2 (by unfold TM; omega)
  obtain ⟨B1, hB1, w1, rs, hrs, R⟩ := hR A2 h2 w2
  obtain ⟨B2, L, q1, q2, q3, q4⟩ := n2 (e6 (by omega)) B1 (h2.trans hB1) w1
  have R2 : Rests B2 x b rs := ⟨q1.valid R.vb, fun r hr => q1.valid (R.val r hr), fun C hC wC => R.st C (q1.trans hC) wC⟩
  obtain ⟨B', L', u1, u2, u3, u4⟩ := cov_rep q2 (((h2.trans hB1).trans q1).valid hx) R2 q3
  refine ⟨B', L', (hB1.trans q1).trans u1, u2, u3, ?_⟩
  rw [e1, e4, e5]
  obtain ⟨n', rfl⟩ := Int.eq_ofNat_of_zero_le n0
  obtain ⟨m', rfl⟩ := Int.eq_ofNat_of_zero_le (show 0 ≤ m by omega)
  have v0 : L.length * rs.length ≤ n' * m' := Nat.mul_le_mul (by omega) (by omega)
  have v1 : 2 ^ (L.length * rs.length) ≤ 2 ^ (n' * m') := Nat.pow_le_pow_right (by omega) v0
  have v3 : ((n' : Int) * (m' : Int)).toNat = n' * m' := by
    rw [← Int.natCast_mul]
    exact Int.toNat_natCast _
  have v4 : (2 : Int) ^ (n' * m') = ((2 ^ (n' * m') : Nat) : Int) := by simp
  rw [v3, v4]
  omega
theorem Bp.star (hx : Valid A x) (h : (nodeAt A x).kind = 8) {n : Int} (hn : Bp A (kid (nodeAt A x) 0) n) : Bp A x (lessZ (twoZ n)) := by
  have h1 := Bp.rep (x := x) (m := 1) hn (by omega) (by omega) (fun A2 h2 w2 => ⟨A2, Le.refl _, w2, [x], by simp, by have := rests_star w2 (h2.valid hx) (by rw [h2.node hx]; exact h); rw [h2.node hx] at this; exact this⟩) hx
  have e : timesZ n 1 = n := by
    unfold timesZ
    split
    · rename_i hh
      have h3 : (TM + n - 1) / n * n ≤ TM + n - 1 := Int.ediv_mul_le _ hh.1
      have n0 := hn.1
      have n1 := hn.2.1
      have h4 : n * ((TM + n - 1) / n) + (TM + n - 1) % n = TM + n - 1 := Int.mul_ediv_add_emod _ _
      have h5 : (TM + n - 1) % n < n := Int.emod_lt_of_pos _ (by omega)
      have h6 : n * ((TM + n - 1) / n) ≤ n * 1 := Int.mul_le_mul_of_nonneg_left hh.2 n0
      omega
    · omega
  rw [e] at h1
  exact h1
theorem Bp.loop (hA : Wf A) (hx : Valid A x) (h : (nodeAt A x).kind = 9) {n : Int} (hn : Bp A (kid (nodeAt A x) 0) n) : Bp A x (lessZ (twoZ (timesZ n (rnd (nodeAt A x))))) := by
  have hlp := (hA.at hx).loop h
  refine Bp.rep hn (by unfold rnd; split <;> omega) (by unfold rnd; split <;> omega) (fun A2 h2 w2 => ?_) hx
  have := rests_loop w2 (h2.valid hx) (by rw [h2.node hx]; exact h)
  rw [h2.node hx] at this
  exact this

/-! ### the parts of a union, of an intersection -/
theorem prodL_snoc : ∀ (ls : List (List Int)) (l : List Int), (prodL (ls ++ [l])).length = (prodL ls).length * l.length
  | [], l => by rw [List.nil_append, prodL_len]; simp [prodL]
  | a :: ls, l => by rw [List.cons_append, prodL_len, prodL_snoc ls l, prodL_len, Nat.mul_assoc]
theorem prodL_zero : ∀ (ls : List (List Int)), (prodL ls).length = 0 → ∃ j, j < ls.length ∧ ls.getD j [] = []
  | [], h => by simp [prodL] at h
  | a :: ls, h => by
    rw [prodL_len] at h
    rcases Nat.mul_eq_zero.1 h with h | h
    · exact ⟨0, by simp, by simpa using h⟩
    · obtain ⟨j, h1, h2⟩ := prodL_zero ls h
      exact ⟨j + 1, by simpa using h1, by simpa using h2⟩
theorem getD_snoc {Ls : List (List Int)} {L : List Int} {P : Nat → List Int → Prop} {i : Nat} (hl : Ls.length = i) (h : ∀ j, j < i → P j (Ls.getD j [])) (hL : P i L) : ∀ j, j < i + 1 → P j ((Ls ++ [L]).getD j []) := fun j hj => by
  by_cases e : j < i
  · have e4 : (Ls ++ [L]).getD j [] = Ls.getD j [] := by
      simp only [List.getD]
      rw [List.getElem?_append_left (by omega)]
    rw [e4]
    exact h j e
  · have e5 : j = i := by omega
    subst e5
    have e4 : (Ls ++ [L]).getD j [] = L := by rw [← hl]; simp [List.getD]
    rw [e4]
    exact hL

def Bu (A : List Nd) (nd : Nd) (i : Nat) (n : Int) : Prop := 1 ≤ n ∧ n ≤ TM ∧ (n < TM → ∀ A2, Le A A2 → Wf A2 → ∃ (B : List Nd) (Ls : List (List Int)), Le A2 B ∧ Wf B ∧ Ls.length = i ∧ (∀ j, j < i → Cov B (kid nd j) (Ls.getD j [])) ∧ ((prodL (Ls.map (0 :: ·))).length : Int) ≤ n)
theorem Bu.zero (A : List Nd) (nd : Nd) : Bu A nd 0 1 := ⟨by omega, by unfold TM; omega, fun _ A2 _ w2 => ⟨A2, [], Le.refl _, w2, rfl, fun j hj => by omega, by simp [prodL]⟩⟩
theorem Bu.next {nd : Nd} {i : Nat} {n m : Int} (h : Bu A nd i n) (hm : Bp A (kid nd i) m) : Bu A nd (i + 1) (timesZ n (plusZ m 1)) := by
  obtain ⟨n0, n1, n2⟩ := h
  obtain ⟨m0, m1, m2⟩ := hm
  obtain ⟨p0, p1, p2⟩ := plus_lt m0
  obtain ⟨s0, s1, s2⟩ := times_lt (a := n) (b := plusZ m 1) (by omega) (by omega) n1 p1
  refine ⟨?_, s1, fun hlt A2 h2 w2 => ?_⟩
  · by_cases e : timesZ n (plusZ m 1) < TM
    · rw [(s2 e).1]
      have : n * 1 ≤ n * plusZ m 1 := Int.mul_le_mul_of_nonneg_left p0 (by omega)
      omega
    · unfold TM at e; omega
  · obtain ⟨e3, e4, e5⟩ := s2 hlt
    obtain ⟨e6, e7⟩ := p2 (e4 (by omega))
    obtain ⟨B1, Ls, q1, q2, q3, q4, q5⟩ := n2 (e5 (by omega)) A2 h2 w2
    obtain ⟨B2, L, r1, r2, r3, r4⟩ := m2 e7 B1 (h2.trans q1) q2
    refine ⟨B2, Ls ++ [L], q1.trans r1, r2, by simp [q3], getD_snoc (P := fun j l => Cov B2 (kid nd j) l) q3 (fun j hj => (q4 j hj).le r1) r3, ?_⟩
    rw [List.map_append, List.map_cons, List.map_nil, prodL_snoc, e3, e6]
    have v : ((prodL (Ls.map (0 :: ·))).length : Int) * ((0 :: L).length : Int) ≤ n * (m + 1) := Int.mul_le_mul q5 (by simp; omega) (by omega) (by omega)
    rw [Int.natCast_mul]
    exact v
theorem Bu.done (hx : Valid A x) (h : (nodeAt A x).kind = 5) {n : Int} (hn : Bu A (nodeAt A x) (nodeAt A x).kids.length n) : Bp A x (lessZ n) := by
  obtain ⟨n0, n1, n2⟩ := hn
  obtain ⟨l0, l1, l2⟩ := less_lt n0 n1
  refine ⟨l0, l1, fun hlt A2 h2 w2 => ?_⟩
  obtain ⟨e1, e2⟩ := l2 hlt
  obtain ⟨B, Ls, q1, q2, q3, q4, q5⟩ := n2 e2 A2 h2 w2
  have h2B := h2.trans q1
  obtain ⟨B', L', u1, u2, u3, u4⟩ := cov_uni q2 (h2B.valid hx) (by rw [h2B.node hx]; exact h) (Ls := Ls) (by rw [h2B.node hx]; exact q3) (by rw [h2B.node hx]; exact q4)
  exact ⟨B', L', q1.trans u1, u2, u3, by rw [e1]; omega⟩

def Bi (A : List Nd) (nd : Nd) (i : Nat) (n : Int) : Prop := 0 ≤ n ∧ n ≤ TM ∧ (n < TM → ∀ A2, Le A A2 → Wf A2 → ∃ B, Le A2 B ∧ Wf B ∧ ((∃ j, j < i ∧ Cov B (kid nd j) []) ∨ ∃ Ls : List (List Int), Ls.length = i ∧ (∀ j, j < i → Cov B (kid nd j) (Ls.getD j [])) ∧ ((prodL Ls).length : Int) ≤ n))
theorem Bi.zero (A : List Nd) (nd : Nd) : Bi A nd 0 1 := ⟨by omega, by unfold TM; omega, fun _ A2 _ w2 => ⟨A2, Le.refl _, w2, Or.inr ⟨[], rfl, fun j hj => by omega, by simp [prodL]⟩⟩⟩
theorem Bi.next {nd : Nd} {i : Nat} {n m : Int} (h : Bi A nd i n) (hm : Bp A (kid nd i) m) : Bi A nd (i + 1) (timesZ n m) := by
  obtain ⟨n0, n1, n2⟩ := h
  obtain ⟨m0, m1, m2⟩ := hm
  obtain ⟨s0, s1, s2⟩ := times_lt n0 m0 n1 m1
  refine ⟨s0, s1, fun hlt A2 h2 w2 => ?_⟩
  obtain ⟨e3, e4, e5⟩ := s2 hlt
  by_cases hm0 : m = 0
  · obtain ⟨B, L, r1, r2, r3, r4⟩ := m2 (by rw [hm0]; unfold TM; omega) A2 h2 w2
    have : L = [] := List.length_eq_zero_iff.1 (by omega)
    rw [this] at r3
    exact ⟨B, r1, r2, Or.inl ⟨i, by omega, r3⟩⟩
  · obtain ⟨B1, q1, q2, q3⟩ := n2 (e5 hm0) A2 h2 w2
    rcases q3 with ⟨j, hj, hc⟩ | ⟨Ls, q3, q4, q5⟩
    · exact ⟨B1, q1, q2, Or.inl ⟨j, by omega, hc⟩⟩
    · by_cases hn0 : n = 0
      · obtain ⟨j, hj, ej⟩ := prodL_zero Ls (by omega)
        have := q4 j (by omega)
        rw [ej] at this
        exact ⟨B1, q1, q2, Or.inl ⟨j, by omega, this⟩⟩
      · obtain ⟨B2, L, r1, r2, r3, r4⟩ := m2 (e4 hn0) B1 (h2.trans q1) q2
        refine ⟨B2, q1.trans r1, r2, Or.inr ⟨Ls ++ [L], by simp [q3], getD_snoc (P := fun j l => Cov B2 (kid nd j) l) q3 (fun j hj => (q4 j hj).le r1) r3, ?_⟩⟩
        rw [prodL_snoc, e3, Int.natCast_mul]
        exact Int.mul_le_mul q5 r4 (by omega) (by omega)
theorem Bi.done (hx : Valid A x) (h : (nodeAt A x).kind = 6) {n : Int} (hn : Bi A (nodeAt A x) (nodeAt A x).kids.length n) : Bp A x n := by
  obtain ⟨n0, n1, n2⟩ := hn
  refine ⟨n0, n1, fun hlt A2 h2 w2 => ?_⟩
  obtain ⟨B, q1, q2, q3⟩ := n2 hlt A2 h2 w2
  have h2B := h2.trans q1
  rcases q3 with ⟨j, hj, hc⟩ | ⟨Ls, q3, q4, q5⟩
  · exact ⟨B, [], q1, q2, cov_int0 (h2B.valid hx) (by rw [h2B.node hx]; exact h) (j := j) (by rw [h2B.node hx]; exact hj) (by rw [h2B.node hx]; exact hc), by simp; exact n0⟩
  · obtain ⟨B', L', u1, u2, u3, u4⟩ := cov_int q2 (h2B.valid hx) (by rw [h2B.node hx]; exact h) (Ls := Ls) (by rw [h2B.node hx]; exact q3) (by rw [h2B.node hx]; exact q4)
    exact ⟨B', L', q1.trans u1, u2, u3, by omega⟩

/-- What is reached by derivatives is few. -/
theorem Bp.reached (hA : Wf A) (hx : Valid A x) {n : Int} (hb : Bp A x n) {K : List Int} (hn : K.Nodup) (hK : ∀ z ∈ K, z = x ∨ Rd A x z) (hl : K.length ≤ 1000000) : (K.length : Int) ≤ plusZ n 2 := by
  unfold plusZ
  split
  · unfold TM; omega
  · rename_i h
    obtain ⟨B, L, q1, q2, q3, q4⟩ := hb.2.2 (by omega) A (Le.refl _) hA
    have := nodup_sub (m := x :: 0 :: L) hn (fun z hz => by
      rcases hK z hz with rfl | h
      · exact List.mem_cons_self ..
      · by_cases e : z = 0
        · rw [e]; simp
        · exact List.mem_cons_of_mem _ (List.mem_cons_of_mem _ (q3.all B (Le.refl _) q2 z (h.le hA q2 q1 hx) e)))
    simp at this
    omega
end
end Go.Proofs.Qxb6500848aGreatDoor.Pl
