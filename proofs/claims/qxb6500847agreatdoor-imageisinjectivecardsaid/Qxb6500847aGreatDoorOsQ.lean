/-
  The tree of entries, plainly.
-/
import Derived.Test.Qxb6500847aGreatDoorOsO
namespace Go.Proofs.Qxb6500847aGreatDoor.Os
open Go.RowKit FloorA
set_option maxRecDepth 100000
/-- A live region. -/
def IsReg (s : Av) (p : Nat) : Prop := 256 ≤ p ∧ p < 320 ∧ (s.hd p).typ = 1
def hOr : List Nat → Int → Int
  | [], x => x
  | c :: _, _ => (c : Int)
def lOr : List Nat → Int → Int
  | [], x => x
  | c :: r, _ => lOr r (c : Int)
/-- The entries of the list are linked, in this order. -/
def Lk (s : Av) (p : Nat) : Int → List Nat → Int → Prop
  | _, [], _ => True
  | pv, c :: r, nx => (c < 320 ∧ (s.hd c).typ ≠ 0 ∧ (s.hd c).par = (p : Int) ∧ (s.hd c).prv = pv ∧ (s.hd c).nxt = hOr r nx) ∧ Lk s p (c : Int) r nx
theorem hOr_append (l1 l2 : List Nat) (x : Int) : hOr (l1 ++ l2) x = hOr l1 (hOr l2 x) := by cases l1 <;> rfl
theorem lOr_append : ∀ (l1 l2 : List Nat) (x : Int), lOr (l1 ++ l2) x = lOr l2 (lOr l1 x)
  | [], _, _ => rfl
  | c :: r, l2, _ => lOr_append r l2 (c : Int)
theorem lOr_snoc (l : List Nat) (c : Nat) (x : Int) : lOr (l ++ [c]) x = (c : Int) := by rw [lOr_append]; rfl
theorem Lk.append {s : Av} {p : Nat} {nx : Int} : ∀ {l1 l2 : List Nat} {pv : Int}, Lk s p pv (l1 ++ l2) nx ↔ Lk s p pv l1 (hOr l2 nx) ∧ Lk s p (lOr l1 pv) l2 nx
  | [], l2, pv => by simp [Lk, lOr]
  | c :: r, l2, pv => by
    show ((c < 320 ∧ (s.hd c).typ ≠ 0 ∧ (s.hd c).par = (p : Int) ∧ (s.hd c).prv = pv ∧ (s.hd c).nxt = hOr (r ++ l2) nx) ∧ Lk s p (c : Int) (r ++ l2) nx) ↔ (_ ∧ Lk s p (c : Int) r (hOr l2 nx)) ∧ Lk s p (lOr r (c : Int)) l2 nx
    rw [Lk.append (l1 := r), hOr_append]
    exact ⟨fun q => ⟨⟨q.1, q.2.1⟩, q.2.2⟩, fun q => ⟨q.1.1, q.1.2, q.2⟩⟩
theorem Lk.congr {s s' : Av} {p : Nat} {nx : Int} : ∀ {l : List Nat} {pv : Int}, (∀ c ∈ l, s'.hd c = s.hd c) → Lk s p pv l nx → Lk s' p pv l nx
  | [], _, _, _ => trivial
  | c :: r, pv, hc, h => by
    refine ⟨?_, Lk.congr (fun d hd => hc d (List.mem_cons_of_mem _ hd)) h.2⟩
    rw [hc c (List.mem_cons_self ..)]
    exact h.1
theorem Lk.mem {s : Av} {p : Nat} {nx : Int} : ∀ {l : List Nat} {pv : Int}, Lk s p pv l nx → ∀ c ∈ l, c < 320 ∧ (s.hd c).typ ≠ 0 ∧ (s.hd c).par = (p : Int)
  | [], _, _, c, hc => absurd hc (by simp)
  | d :: r, pv, h, c, hc => by
    rcases List.mem_cons.1 hc with e | e
    · subst e; exact ⟨h.1.1, h.1.2.1, h.1.2.2.1⟩
    · exact h.2.mem c e
theorem Lk.lOr_lt {s : Av} {p : Nat} {nx : Int} : ∀ {l : List Nat} {pv : Int}, Lk s p pv l nx → l ≠ [] → ∃ c : Nat, c ∈ l ∧ lOr l pv = (c : Int)
  | [], _, _, h => absurd rfl h
  | [c], _, _, _ => ⟨c, by simp, rfl⟩
  | c :: d :: r, _, h, _ => by
    obtain ⟨x, hx, e⟩ := (h.2).lOr_lt (by simp)
    exact ⟨x, List.mem_cons_of_mem _ hx, e⟩

theorem pigeon : ∀ (n : Nat) (l : List Nat), l.Nodup → (∀ x ∈ l, x < n) → l.length ≤ n
  | 0, l, _, h => by
    cases l with
    | nil => simp
    | cons a r => exact absurd (h a (List.mem_cons_self ..)) (Nat.not_lt_zero _)
  | n + 1, l, hd, h => by
    by_cases hn : n ∈ l
    · have h1 := pigeon n (l.erase n) (hd.erase n) (fun x hx => by
        have h2 := h x (List.mem_of_mem_erase hx)
        have h3 : x ≠ n := fun e => by
          subst e
          exact (List.Nodup.not_mem_erase hd) hx
        omega)
      rw [List.length_erase_of_mem hn] at h1
      omega
    · exact Nat.le_succ_of_le (pigeon n l hd (fun x hx => by
        have h2 := h x hx
        have h3 : x ≠ n := fun e => hn (e ▸ hx)
        omega))
/-- The links of the entries of D. -/
structure Tr (s : Av) (D : Nat → Prop) (L : Nat → List Nat) : Prop where
  lk : ∀ p, IsReg s p → Lk s p 65535 (L p) 65535
  fst : ∀ p, IsReg s p → (s.rg (p - 256)).fst = hOr (L p) 65535
  lst : ∀ p, IsReg s p → (s.rg (p - 256)).lst = lOr (L p) 65535
  kds : ∀ p, IsReg s p → (s.rg (p - 256)).kds = ((L p).length : Int)
  nd : ∀ p, IsReg s p → (L p).Nodup
  sub : ∀ p, IsReg s p → ∀ c ∈ L p, D c
  all : ∀ c, c < 320 → D c → (s.hd c).typ ≠ 0 ∧ ((s.hd c).par = 65535 ∨ ∃ p, IsReg s p ∧ (s.hd c).par = (p : Int) ∧ c ∈ L p)
def updL (L : Nat → List Nat) (p : Nat) (l : List Nat) (q : Nat) : List Nat := if q = p then l else L q
theorem updL_at (L : Nat → List Nat) (p : Nat) (l : List Nat) : updL L p l p = l := by simp [updL]
theorem updL_ne {L : Nat → List Nat} {p q : Nat} {l : List Nat} (h : q ≠ p) : updL L p l q = L q := by simp [updL, h]
section
variable {s : Av} {D : Nat → Prop} {L : Nat → List Nat} {p c : Nat}
theorem Tr.mem (h : Tr s D L) (hp : IsReg s p) {d : Nat} (hd : d ∈ L p) : d < 320 ∧ (s.hd d).typ ≠ 0 ∧ (s.hd d).par = (p : Int) := (h.lk p hp).mem d hd
theorem Tr.len (h : Tr s D L) (hp : IsReg s p) : (L p).length ≤ 320 := pigeon 320 _ (h.nd p hp) (fun _ hd => (h.mem hp hd).1)
theorem Lk.reN {s s' : Av} {p a : Nat} {m : List Nat} {pv nx nx' : Int} (h : Lk s p pv (m ++ [a]) nx) (h1 : ∀ x ∈ m, s'.hd x = s.hd x) (h2 : s'.hd a = (s.hd a).setN nx') : Lk s' p pv (m ++ [a]) nx' := by
  rw [Lk.append] at h ⊢
  refine ⟨h.1.congr h1, ?_, trivial⟩
  rw [h2]
  exact ⟨h.2.1.1, h.2.1.2.1, h.2.1.2.2.1, h.2.1.2.2.2.1, rfl⟩
theorem Lk.reP {s s' : Av} {p b : Nat} {r : List Nat} {pv pv' nx : Int} (h : Lk s p pv (b :: r) nx) (h1 : ∀ x ∈ r, s'.hd x = s.hd x) (h2 : s'.hd b = (s.hd b).setP pv') : Lk s' p pv' (b :: r) nx := by
  refine ⟨?_, h.2.congr h1⟩
  rw [h2]
  exact ⟨h.1.1, h.1.2.1, h.1.2.2.1, rfl, h.1.2.2.2.2⟩
theorem snoc_cases (l : List Nat) : l = [] ∨ ∃ m a, l = m ++ [a] := by
  rcases List.eq_nil_or_concat l with h | ⟨m, a, h⟩
  · exact Or.inl h
  · exact Or.inr ⟨m, a, by simpa using h⟩
theorem Tr.par_ne (h : Tr s D L) {q x y : Nat} (hp : IsReg s p) (hq : IsReg s q) (hne : q ≠ p) (hx : x ∈ L q) (hy : y ∈ L p) : x ≠ y := fun e => by
  subst e
  have a := (h.mem hq hx).2.2
  have b := (h.mem hp hy).2.2
  omega
/-- One region's list turns. -/
theorem Tr.relink {s' : Av} {D' : Nat → Prop} {l' : List Nat} {top : Int} (h : Tr s D L) (ht : ∀ x, (s'.hd x).typ = (s.hd x).typ)
    (ho : ∀ q, IsReg s q → q ≠ p → s'.rg (q - 256) = s.rg (q - 256) ∧ ∀ x ∈ L q, s'.hd x = s.hd x ∧ D' x)
    (hl : Lk s' p 65535 l' 65535) (hr : s'.rg (p - 256) = ⟨hOr l' 65535, lOr l' 65535, (l'.length : Int), top⟩) (hn : l'.Nodup) (hs : ∀ x ∈ l', D' x)
    (ha : ∀ x, x < 320 → D' x → (s.hd x).typ ≠ 0 ∧ ((s'.hd x).par = 65535 ∨ ∃ q, IsReg s q ∧ (s'.hd x).par = (q : Int) ∧ x ∈ updL L p l' q)) : Tr s' D' (updL L p l') := by
  have rg : ∀ q, IsReg s' q → IsReg s q := fun q hq => ⟨hq.1, hq.2.1, by rw [← ht q]; exact hq.2.2⟩
  have gr : ∀ q, IsReg s q → IsReg s' q := fun q hq => ⟨hq.1, hq.2.1, by rw [ht q]; exact hq.2.2⟩
  refine ⟨fun q hq => ?_, fun q hq => ?_, fun q hq => ?_, fun q hq => ?_, fun q hq => ?_, fun q hq x hx => ?_, fun x hx hD => ?_⟩
  · by_cases e : q = p
    · subst e; rw [updL_at]; exact hl
    · rw [updL_ne e]; exact (h.lk q (rg q hq)).congr (fun x hx => ((ho q (rg q hq) e).2 x hx).1)
  · by_cases e : q = p
    · subst e; rw [updL_at, hr]
    · rw [updL_ne e, (ho q (rg q hq) e).1]; exact h.fst q (rg q hq)
  · by_cases e : q = p
    · subst e; rw [updL_at, hr]
    · rw [updL_ne e, (ho q (rg q hq) e).1]; exact h.lst q (rg q hq)
  · by_cases e : q = p
    · subst e; rw [updL_at, hr]
    · rw [updL_ne e, (ho q (rg q hq) e).1]; exact h.kds q (rg q hq)
  · by_cases e : q = p
    · subst e; rw [updL_at]; exact hn
    · rw [updL_ne e]; exact h.nd q (rg q hq)
  · by_cases e : q = p
    · subst e; rw [updL_at] at hx; exact hs x hx
    · rw [updL_ne e] at hx; exact ((ho q (rg q hq) e).2 x hx).2
  · obtain ⟨a1, a2⟩ := ha x hx hD
    refine ⟨by rw [ht]; exact a1, a2.imp id ?_⟩
    rintro ⟨q, hq, e, hm⟩
    exact ⟨q, gr q hq, e, hm⟩
theorem rg_ne {p q : Nat} (hp : IsReg s p) (hq : IsReg s q) (h : q ≠ p) : q - 256 ≠ p - 256 := by
  have := hp.1
  have := hq.1
  omega
/-- A new child at the end of its parent's list. -/
theorem Tr.attach (h : Tr s D L) (hp : IsReg s p) (hc : c < 320) (ht : (s.hd c).typ ≠ 0) (hD : ¬ D c) : Tr (attS s p c) (fun x => D x ∨ x = c) (updL L p (L p ++ [c])) := by
  have hcl : ∀ q, IsReg s q → c ∉ L q := fun q hq hm => hD (h.sub q hq c hm)
  have hlen := h.len hp
  have kd : wrap64 ((s.rg (p - 256)).kds + 1) = ((L p ++ [c]).length : Int) := by
    rw [h.kds p hp]
    simp only [List.length_append, List.length_cons, List.length_nil]
    unfold wrap64; omega
  have nd : (L p ++ [c]).Nodup := by
    rw [List.nodup_append]
    exact ⟨h.nd p hp, by simp, fun x hx y hy e => by
      have : y = c := by simpa using hy
      subst this; subst e; exact hcl p hp hx⟩
  have al : ∀ s' : Av, (∀ x, x ≠ c → (s'.hd x).par = (s.hd x).par) → (s'.hd c).par = (p : Int) → ∀ x, x < 320 → D x ∨ x = c → (s.hd x).typ ≠ 0 ∧ ((s'.hd x).par = 65535 ∨ ∃ q, IsReg s q ∧ (s'.hd x).par = (q : Int) ∧ x ∈ updL L p (L p ++ [c]) q) := by
    intro s' e1 e2 x hx hd
    by_cases e : x = c
    · subst e
      exact ⟨ht, Or.inr ⟨p, hp, e2, by rw [updL_at]; simp⟩⟩
    · obtain ⟨a1, a2⟩ := h.all x hx (hd.resolve_right e)
      refine ⟨a1, ?_⟩
      rw [e1 x e]
      refine a2.imp id ?_
      rintro ⟨q, hq, e3, hm⟩
      refine ⟨q, hq, e3, ?_⟩
      by_cases e4 : q = p
      · subst e4; rw [updL_at]; exact List.mem_append_left _ hm
      · rw [updL_ne e4]; exact hm
  rcases snoc_cases (L p) with e0 | ⟨m, a, e0⟩
  · have el : (s.rg (p - 256)).lst = 65535 := by rw [h.lst p hp, e0]; rfl
    have es : attS s p c = (s.setHd c ⟨(s.hd c).gen, (s.hd c).typ, (s.hd c).row, p, 65535, 65535, (s.hd c).bas, (s.hd c).siz⟩).setRg (p - 256) ⟨c, c, wrap64 ((s.rg (p - 256)).kds + 1), IntKind.u64.wrap ((s.hd c).bas + (s.hd c).siz)⟩ := by
      unfold attS; simp only [el, if_true]
    rw [es]
    refine h.relink (top := IntKind.u64.wrap ((s.hd c).bas + (s.hd c).siz)) (fun x => ?_) (fun q hq hne => ⟨?_, fun x hx => ⟨?_, Or.inl (h.sub q hq x hx)⟩⟩) ?_ ?_ nd (fun x hx => ?_) (al _ (fun x hx => ?_) ?_)
    · by_cases e : x = c
      · subst e; simp [Av.setRg, Av.setHd]
      · simp [Av.setRg, Av.setHd, e]
    · have := rg_ne hp hq hne
      simp [Av.setRg, Av.setHd, this]
    · have : x ≠ c := fun e => hcl q hq (e ▸ hx)
      simp [Av.setRg, Av.setHd, this]
    · rw [e0]
      refine ⟨⟨hc, ?_⟩, trivial⟩
      simp [Av.setRg, Av.setHd, ht, hOr]
    · rw [kd]
      simp [Av.setRg, e0, hOr, lOr]
    · rcases List.mem_append.1 hx with q | q
      · exact Or.inl (h.sub p hp x q)
      · exact Or.inr (by simpa using q)
    · simp [Av.setRg, Av.setHd, hx]
    · simp [Av.setRg, Av.setHd]
  · have ela : (s.rg (p - 256)).lst = (a : Int) := by rw [h.lst p hp, e0, lOr_snoc]
    have ha : a ∈ L p := by rw [e0]; simp
    have a320 := (h.mem hp ha).1
    have hac : ¬ a = c := fun e => hcl p hp (e ▸ ha)
    have hca : ¬ c = a := fun e => hac e.symm
    have el : ¬ (a : Int) = 65535 := by omega
    have nda : a ∉ m := fun q => by
      have := h.nd p hp
      rw [e0, List.nodup_append] at this
      exact this.2.2 a q a (by simp) rfl
    have es : attS s p c = ((s.setHd c ⟨(s.hd c).gen, (s.hd c).typ, (s.hd c).row, p, a, 65535, (s.hd c).bas, (s.hd c).siz⟩).setHd a ((s.hd a).setN c)).setRg (p - 256) ⟨(s.rg (p - 256)).fst, c, wrap64 ((s.rg (p - 256)).kds + 1), IntKind.u64.wrap ((s.hd c).bas + (s.hd c).siz)⟩ := by
      unfold attS; simp only [ela, el, if_false, Int.toNat_natCast, Hd.setN]
    rw [es]
    refine h.relink (top := IntKind.u64.wrap ((s.hd c).bas + (s.hd c).siz)) (fun x => ?_) (fun q hq hne => ⟨?_, fun x hx => ⟨?_, Or.inl (h.sub q hq x hx)⟩⟩) ?_ ?_ nd (fun x hx => ?_) (al _ (fun x hx => ?_) ?_)
    · by_cases e : x = c
      · subst e; simp [Av.setRg, Av.setHd, hca]
      · by_cases e2 : x = a
        · subst e2; simp [Av.setRg, Av.setHd, Hd.setN]
        · simp [Av.setRg, Av.setHd, e, e2]
    · have := rg_ne hp hq hne
      simp [Av.setRg, Av.setHd, this]
    · have n1 : x ≠ c := fun e => hcl q hq (e ▸ hx)
      have n2 : x ≠ a := h.par_ne hp hq hne hx ha
      simp [Av.setRg, Av.setHd, n1, n2]
    · rw [Lk.append]
      have hl := h.lk p hp
      rw [e0] at hl ⊢
      refine ⟨hl.reN (fun x hx => ?_) ?_, ⟨hc, ?_⟩, trivial⟩
      · have n1 : x ≠ c := fun e => hcl p hp (by rw [e0]; exact List.mem_append_left _ (e ▸ hx))
        have n2 : x ≠ a := fun e => nda (e ▸ hx)
        simp [Av.setRg, Av.setHd, n1, n2]
      · simp [Av.setRg, Av.setHd, hOr]
      · simp [Av.setRg, Av.setHd, hca, ht, hOr, lOr_snoc]
    · rw [kd]
      have e5 := h.fst p hp
      rw [e5, lOr_snoc, e0]
      simp [Av.setRg, hOr]
      cases m <;> rfl
    · rcases List.mem_append.1 hx with q | q
      · exact Or.inl (h.sub p hp x q)
      · exact Or.inr (by simpa using q)
    · by_cases e2 : x = a
      · subst e2; simp [Av.setRg, Av.setHd, Hd.setN]
      · simp [Av.setRg, Av.setHd, hx, e2]
    · simp [Av.setRg, Av.setHd, hca]
/-- All but the links is as it was. -/
structure Fr (s s' : Av) : Prop where
  hd : ∀ x, (s'.hd x).gen = (s.hd x).gen ∧ (s'.hd x).typ = (s.hd x).typ ∧ (s'.hd x).row = (s.hd x).row ∧ (s'.hd x).par = (s.hd x).par ∧ (s'.hd x).bas = (s.hd x).bas ∧ (s'.hd x).siz = (s.hd x).siz
  idl : s'.idl = s.idl
  rts : s'.rts = s.rts
  nrt : s'.nrt = s.nrt
  ti : s'.ti = s.ti
theorem Fr.setN (s : Av) (a i : Nat) (x : Int) (r : Rg) : Fr s ((s.setHd a ((s.hd a).setN x)).setRg i r) :=
  ⟨fun y => by by_cases e : y = a <;> simp [Av.setRg, Av.setHd, Hd.setN, e], rfl, rfl, rfl, rfl⟩
theorem Fr.setP (s : Av) (a i : Nat) (x : Int) (r : Rg) : Fr s ((s.setHd a ((s.hd a).setP x)).setRg i r) :=
  ⟨fun y => by by_cases e : y = a <;> simp [Av.setRg, Av.setHd, Hd.setP, e], rfl, rfl, rfl, rfl⟩
theorem Fr.setNP (s : Av) {a b : Nat} (i : Nat) (x y : Int) (r : Rg) (h : a ≠ b) : Fr s (((s.setHd a ((s.hd a).setN x)).setHd b ((s.hd b).setP y)).setRg i r) :=
  ⟨fun z => by
    by_cases e : z = b
    · subst e; simp [Av.setRg, Av.setHd, Hd.setP]
    · by_cases e2 : z = a
      · subst e2; simp [Av.setRg, Av.setHd, Hd.setN, e]
      · simp [Av.setRg, Av.setHd, e, e2], rfl, rfl, rfl, rfl⟩
theorem Fr.ofR (s : Av) (i : Nat) (r : Rg) : Fr s (s.setRg i r) := ⟨fun _ => ⟨rfl, rfl, rfl, rfl, rfl, rfl⟩, rfl, rfl, rfl, rfl⟩
/-- A child is taken out of its parent's list. -/
theorem Tr.cut {s' : Av} {l1 l2 : List Nat} {top : Int} (h : Tr s D L) (hp : IsReg s p) (hL : L p = l1 ++ c :: l2) (hf : Fr s s')
    (ho : ∀ x, x ∉ l1 → x ∉ l2 → s'.hd x = s.hd x) (hg : ∀ i, i ≠ p - 256 → s'.rg i = s.rg i) (hl : Lk s' p 65535 (l1 ++ l2) 65535)
    (hr : s'.rg (p - 256) = ⟨hOr (l1 ++ l2) 65535, lOr (l1 ++ l2) 65535, wrap64 ((s.rg (p - 256)).kds - 1), top⟩) : Tr s' (fun x => D x ∧ x ≠ c) (updL L p (l1 ++ l2)) := by
  have nd := h.nd p hp
  have hlen := h.len hp
  have kd : wrap64 ((s.rg (p - 256)).kds - 1) = ((l1 ++ l2).length : Int) := by
    rw [h.kds p hp, hL]
    rw [hL] at hlen
    simp only [List.length_append, List.length_cons] at hlen ⊢
    unfold wrap64; omega
  have nd2 : (l1 ++ l2).Nodup ∧ c ∉ l1 ++ l2 := by
    rw [hL, List.nodup_append, List.nodup_cons] at nd
    refine ⟨?_, ?_⟩
    · rw [List.nodup_append]
      exact ⟨nd.1, nd.2.1.2, fun x hx y hy => nd.2.2 x hx y (List.mem_cons_of_mem _ hy)⟩
    · intro q
      rcases List.mem_append.1 q with q | q
      · exact nd.2.2 c q c (List.mem_cons_self ..) rfl
      · exact nd.2.1.1 q
  have inL : ∀ x, x ∈ l1 ++ l2 → x ∈ L p := fun x hx => by
    rw [hL]
    rcases List.mem_append.1 hx with q | q
    · exact List.mem_append_left _ q
    · exact List.mem_append_right _ (List.mem_cons_of_mem _ q)
  have hcL : c ∈ L p := by rw [hL]; simp
  rw [kd] at hr
  refine h.relink (fun x => (hf.hd x).2.1) (fun q hq hne => ⟨hg _ (rg_ne hp hq hne), fun x hx => ⟨ho x (fun k => ?_) (fun k => ?_), h.sub q hq x hx, h.par_ne hp hq hne hx hcL⟩⟩) hl hr nd2.1 (fun x hx => ⟨h.sub p hp x (inL x hx), fun e => nd2.2 (e ▸ hx)⟩) (fun x hx hd => ?_)
  · exact h.par_ne hp hq hne hx (inL x (List.mem_append_left _ k)) rfl
  · exact h.par_ne hp hq hne hx (inL x (List.mem_append_right _ k)) rfl
  · obtain ⟨a1, a2⟩ := h.all x hx hd.1
    refine ⟨a1, ?_⟩
    rw [(hf.hd x).2.2.2.1]
    refine a2.imp id ?_
    rintro ⟨q, hq, e3, hm⟩
    refine ⟨q, hq, e3, ?_⟩
    by_cases e4 : q = p
    · subst e4
      rw [updL_at]
      rw [hL] at hm
      rcases List.mem_append.1 hm with k | k
      · exact List.mem_append_left _ k
      · rcases List.mem_cons.1 k with k | k
        · exact absurd k hd.2
        · exact List.mem_append_right _ k
    · rw [updL_ne e4]; exact hm
end
section
variable {A : Nat} {rb sb : Nat → Nat} {s : Av} {tl : Nat → List Int} {ws : Nat → Nat → Nat → Int} {w : World} {D : Nat → Prop} {L : Nat → List Nat} {p c : Nat} {l1 l2 : List Nat}
def DePost (A : Nat) (rb sb : Nat → Nat) (s : Av) (tl : Nat → List Int) (ws : Nat → Nat → Nat → Int) (D : Nat → Prop) (L : Nat → List Nat) (w : World) (e : Ending) (w' : World) : Prop :=
  ∃ s', MsPost s' A rb sb tl ws w e w' ∧ Tr s' D L ∧ Fr s s'
theorem detach_walk (h : Ms w A rb sb s tl ws) (hT : Tr s D L) (hp : IsReg s p) (hL : L p = l1 ++ c :: l2) :
    Calls Tryz.prog 247 #[.pointer (some ⟨A, 0, none⟩), .int .u16 (c : Int)] w (DePost A rb sb s tl ws (fun x => D x ∧ x ≠ c) (updL L p (l1 ++ l2)) w) := by
  have hk := hT.lk p hp
  have nd := hT.nd p hp
  have ef := hT.fst p hp
  have el := hT.lst p hp
  rw [hL] at hk nd ef el
  rw [Lk.append] at hk
  obtain ⟨k1, ⟨c320, ct, cp, cv, cn⟩, k2⟩ := hk
  rw [List.nodup_append, List.nodup_cons] at nd
  obtain ⟨nd1, ⟨nc2, nd2⟩, nd12⟩ := nd
  have nc1 : c ∉ l1 := fun q => nd12 c q c (List.mem_cons_self ..) rfl
  rcases snoc_cases l1 with rfl | ⟨m, a, rfl⟩
  · cases l2 with
    | nil =>
      refine (det_nn h hp.1 hp.2.1 c320 cp cv cn).mono ?_
      intro e w' q
      exact ⟨_, q, hT.cut (top := (s.hd p).bas) hp hL (Fr.ofR _ _ _) (fun _ _ _ => rfl) (fun i hi => by simp [Av.setRg, hi]) trivial (by simp [Av.setRg, hOr, lOr]), Fr.ofR _ _ _⟩
    | cons b r =>
      have hb := k2.1.1
      refine (det_nb h hp.1 hp.2.1 c320 cp cv cn hb).mono ?_
      intro e w' q
      refine ⟨_, q, hT.cut (top := (s.rg (p - 256)).top) hp hL (Fr.setP _ _ _ _ _) (fun x _ n2 => ?_) (fun i hi => by simp [Av.setRg, Av.setHd, hi]) ?_ ?_, Fr.setP _ _ _ _ _⟩
      · have : x ≠ b := fun e => n2 (e ▸ List.mem_cons_self ..)
        simp [Av.setRg, Av.setHd, this]
      · refine k2.reP (fun x hx => ?_) ?_
        · have : x ≠ b := fun e => (List.nodup_cons.1 nd2).1 (e ▸ hx)
          simp [Av.setRg, Av.setHd, this]
        · simp [Av.setRg, Av.setHd]
      · rw [el]
        simp [Av.setRg, hOr, lOr]
  · have hk1 := k1
    rw [Lk.append] at hk1
    have ha := hk1.2.1.1
    have hac : a ≠ c := fun e => nc1 (by simp [e])
    have hma : a ∉ m := fun q => by
      rw [List.nodup_append] at nd1
      exact nd1.2.2 a q a (by simp) rfl
    rw [lOr_snoc] at cv
    cases l2 with
    | nil =>
      refine (det_an h hp.1 hp.2.1 c320 cp cv cn ha hac).mono ?_
      intro e w' q
      refine ⟨_, q, hT.cut (top := IntKind.u64.wrap ((s.hd a).bas + (s.hd a).siz)) hp hL (Fr.setN _ _ _ _ _) (fun x n1 _ => ?_) (fun i hi => by simp [Av.setRg, Av.setHd, hi]) ?_ ?_, Fr.setN _ _ _ _ _⟩
      · have : x ≠ a := fun e => n1 (by simp [e])
        simp [Av.setRg, Av.setHd, this]
      · rw [List.append_nil]
        refine k1.reN (fun x hx => ?_) ?_
        · have : x ≠ a := fun e => hma (e ▸ hx)
          simp [Av.setRg, Av.setHd, this]
        · simp [Av.setRg, Av.setHd]
      · rw [ef, List.append_nil, lOr_snoc]
        simp [Av.setRg]
        cases m <;> rfl
    | cons b r =>
      have hb := k2.1.1
      have hbc : b ≠ c := fun e => nc2 (e ▸ List.mem_cons_self ..)
      have hab : a ≠ b := fun e => nd12 a (by simp) b (by simp) e
      refine (det_ab h hp.1 hp.2.1 c320 cp cv cn ha hac hb hbc hab).mono ?_
      intro e w' q
      refine ⟨_, q, hT.cut (top := (s.rg (p - 256)).top) hp hL (Fr.setNP _ _ _ _ _ hab) (fun x n1 n2 => ?_) (fun i hi => by simp [Av.setRg, Av.setHd, hi]) ?_ ?_, Fr.setNP _ _ _ _ _ hab⟩
      · have e1 : x ≠ a := fun e => n1 (by simp [e])
        have e2 : x ≠ b := fun e => n2 (by simp [e])
        simp [Av.setRg, Av.setHd, e1, e2]
      · rw [Lk.append, lOr_snoc]
        refine ⟨k1.reN (fun x hx => ?_) ?_, k2.reP (fun x hx => ?_) ?_⟩
        · have e1 : x ≠ a := fun e => hma (e ▸ hx)
          have e2 : x ≠ b := fun e => nd12 x (by simp [hx]) b (by simp) e
          simp [Av.setRg, Av.setHd, e1, e2]
        · simp [Av.setRg, Av.setHd, hab, hOr]
        · have e1 : x ≠ a := fun e => nd12 a (by simp) x (by simp [hx]) e.symm
          have e2 : x ≠ b := fun e => (List.nodup_cons.1 nd2).1 (e ▸ hx)
          simp [Av.setRg, Av.setHd, e1, e2]
        · have : ¬ b = a := fun e => hab e.symm
          simp [Av.setRg, Av.setHd]
      · rw [ef, el]
        simp [Av.setRg, lOr_append, lOr]
        cases m <;> rfl
end
end Go.Proofs.Qxb6500847aGreatDoor.Os
