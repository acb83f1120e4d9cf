/-
  What can be observed of the store, and what each step answers, plainly.
-/
import Derived.Test.Qxb6500847aGreatDoorOsW
import Derived.Test.Qxb6500847aGreatDoorOsY
namespace Go.Proofs.Qxb6500847aGreatDoor.Os
open Go.RowKit FloorA
set_option maxRecDepth 100000
/-- What can be observed of an entry. -/
structure En where
  gen : Int
  typ : Int
  bas : Int
  siz : Int
  par : Int
  wds : List Int
theorem En.ext' {a b : En} (h1 : a.gen = b.gen) (h2 : a.typ = b.typ) (h3 : a.bas = b.bas) (h4 : a.siz = b.siz) (h5 : a.par = b.par) (h6 : a.wds = b.wds) : a = b := by
  cases a; cases b; simp only at h1 h2 h3 h4 h5 h6; subst h1 h2 h3 h4 h5 h6; rfl
/-- The words of m fields. -/
def wlist (m : Nat) (W : Nat → Int) : List Int := (List.range m).map W
def wdsOf (h : Hd) (ws : Nat → Nat → Nat → Int) : List Int := if h.typ < 2 then [] else wlist (nF (h.typ.toNat - 2)) (ws (h.typ.toNat - 2) h.row.toNat)
def en0 : En := ⟨0, 0, 0, 0, 65535, []⟩
/-- The observable state. -/
def ob (s : Av) (ws : Nat → Nat → Nat → Int) (i : Nat) : En := if i < 320 then ⟨(s.hd i).gen, (s.hd i).typ, (s.hd i).bas, (s.hd i).siz, (s.hd i).par, wdsOf (s.hd i) ws⟩ else en0
theorem ob_at (s : Av) (ws : Nat → Nat → Nat → Int) {i : Nat} (hi : i < 320) : ob s ws i = ⟨(s.hd i).gen, (s.hd i).typ, (s.hd i).bas, (s.hd i).siz, (s.hd i).par, wdsOf (s.hd i) ws⟩ := if_pos hi
theorem ob_out (s : Av) (ws : Nat → Nat → Nat → Int) {i : Nat} (hi : ¬ i < 320) : ob s ws i = en0 := if_neg hi
theorem wlist_len (m : Nat) (W : Nat → Int) : (wlist m W).length = m := by unfold wlist; simp
theorem wlist_at (m : Nat) (W : Nat → Int) {f : Nat} (hf : f < m) : (wlist m W)[f]? = some (W f) := by
  unfold wlist
  rw [List.getElem?_map, List.getElem?_range hf]
  rfl
theorem wlist_congr {m : Nat} {W W' : Nat → Int} (h : ∀ f, f < m → W f = W' f) : wlist m W = wlist m W' := by
  unfold wlist
  exact List.map_congr_left (fun f hf => h f (by simpa using hf))
theorem wlist_set {m : Nat} {W : Nat → Int} {f : Nat} {v : Int} : (wlist m W).set f v = wlist m (fun x => if x = f then v else W x) := by
  apply List.ext_getElem?
  intro j
  rw [List.getElem?_set]
  by_cases hj : j < m
  · rw [wlist_at _ _ hj, wlist_at _ _ hj, wlist_len]
    by_cases e : f = j
    · subst e; simp [hj]
    · have e' : ¬ j = f := fun q => e q.symm
      simp [e, e']
  · have h1 : (wlist m W)[j]? = none := List.getElem?_eq_none (by rw [wlist_len]; omega)
    have h2 : (wlist m (fun x => if x = f then v else W x))[j]? = none := List.getElem?_eq_none (by rw [wlist_len]; omega)
    rw [h1, h2, wlist_len]
    by_cases e : f = j
    · subst e; simp [hj]
    · simp [e]
/-- A state that is observed turns at one entry. -/
def updM (M : Nat → En) (i : Nat) (e : En) : Nat → En := fun x => if x = i then e else M x
/-- A step's answer. -/
structure Rs where
  code : Int
  refs : List (Nat × Int)
  vals : List Int
/-- The code with which a reference is met. -/
def chk (M : Nat → En) (i : Nat) (g : Int) : Int := if i < 320 ∧ g ≠ 0 then (if (M i).typ ≠ 0 ∧ (M i).gen = g then 0 else 2) else 1
def chkR (M : Nat → En) (i : Nat) (g : Int) : Int := if chk M i g ≠ 0 then chk M i g else if (M i).typ = 1 then 0 else 3
/-- The table of a live object. -/
def tabOf (M : Nat → En) (i : Nat) : Nat := (M i).typ.toNat - 2
section
variable {s s' : Av} {ws ws' : Nat → Nat → Nat → Int} {i t r : Nat} {g : Int} {tl : Nat → List Int} {L : Nat → List Nat} {n : Nat}
theorem chk_live (h : Live s i g) : chk (ob s ws) i g = 0 := by
  unfold chk
  rw [if_pos ⟨h.1, h.2.1⟩, ob_at _ _ h.1, if_pos ⟨h.2.2.1, h.2.2.2⟩]
theorem chk_dead (h : ¬ Live s i g) : chk (ob s ws) i g = (if i < 320 ∧ g ≠ 0 then 2 else 1) := by
  unfold chk
  by_cases q : i < 320 ∧ g ≠ 0
  · rw [if_pos q, if_pos q, ob_at _ _ q.1, if_neg (fun k => h ⟨q.1, q.2, k.1, k.2⟩)]
  · rw [if_neg q, if_neg q]
theorem chk_stale (h : ¬ Live s i g) : chk (ob s ws) i g = stale i g := chk_dead h
theorem stale_nz (h : ¬ Live s i g) : chk (ob s ws) i g ≠ 0 := by rw [chk_stale h]; exact stale_ne i g
theorem chkR_dead (h : ¬ Live s i g) : chkR (ob s ws) i g = stale i g := by unfold chkR; rw [if_pos (stale_nz h), chk_stale h]
theorem chkR_obj (h : Live s i g) (h1 : (s.hd i).typ ≠ 1) : chkR (ob s ws) i g = 3 := by
  unfold chkR
  rw [chk_live h, if_neg (by simp), ob_at _ _ h.1, if_neg h1]
theorem chkR_reg (h : Live s i g) (h1 : (s.hd i).typ = 1) : chkR (ob s ws) i g = 0 := by
  unfold chkR
  rw [chk_live h, if_neg (by simp), ob_at _ _ h.1, if_pos h1]
theorem wds_obj (hi : i < 320) (ht : (s.hd i).typ = ((t + 2 : Nat) : Int)) (hr : (s.hd i).row = (r : Int)) : (ob s ws i).wds = wlist (nF t) (ws t r) := by
  rw [ob_at _ _ hi]
  show wdsOf (s.hd i) ws = _
  unfold wdsOf
  rw [if_neg (by rw [ht]; omega), ht, hr, Int.toNat_natCast, Int.toNat_natCast, show t + 2 - 2 = t by omega]
theorem wds_reg (hi : i < 320) (ht : (s.hd i).typ < 2) : (ob s ws i).wds = [] := by
  rw [ob_at _ _ hi]
  exact if_pos ht
/-- The words of one row turn. -/
theorem ob_row (hI : IV s tl L n) (hi : i < 320) (ht : (s.hd i).typ = ((t + 2 : Nat) : Int)) (hr : (s.hd i).row = (r : Int)) (W : Nat → Int) :
    ob s (updW ws t r W) = updM (ob s ws) i { ob s ws i with wds := wlist (nF t) W } := by
  funext x
  unfold updM
  by_cases e : x = i
  · subst e
    rw [if_pos rfl, ob_at _ _ hi, ob_at _ _ hi]
    have h1 := wds_obj (ws := updW ws t r W) hi ht hr
    rw [ob_at _ _ hi] at h1
    have e2 : updW ws t r W t r = W := by unfold updW; rw [if_pos ⟨rfl, rfl⟩]
    rw [e2] at h1
    simp only at h1
    rw [h1]
  · rw [if_neg e]
    by_cases hx : x < 320
    · rw [ob_at _ _ hx, ob_at _ _ hx]
      congr 1
      unfold wdsOf
      by_cases q : (s.hd x).typ < 2
      · rw [if_pos q, if_pos q]
      · rw [if_neg q, if_neg q]
        obtain ⟨k, ek, k7, _⟩ := hI.ge.typ x hx
        have k2 : 2 ≤ k := by omega
        obtain ⟨r', er, _, _⟩ := hI.tb.row x k hx k2 k7 ek
        have e3 : updW ws t r W ((s.hd x).typ.toNat - 2) (s.hd x).row.toNat = ws ((s.hd x).typ.toNat - 2) (s.hd x).row.toNat := by
          unfold updW
          rw [if_neg]
          rintro ⟨a, b⟩
          rw [ek, Int.toNat_natCast] at a
          rw [er, Int.toNat_natCast] at b
          have ek' : (s.hd x).typ = ((t + 2 : Nat) : Int) := by rw [ek]; omega
          exact e (hI.tb.inj x i (t + 2) hx hi (by omega) (by omega) ek' ht (by rw [er, hr, b]))
        rw [e3]
    · rw [ob_out _ _ hx, ob_out _ _ hx]
theorem updM_same (M : Nat → En) (i : Nat) : updM M i { M i with wds := (M i).wds } = M := by
  funext x
  unfold updM
  by_cases e : x = i
  · rw [if_pos e, e]
  · rw [if_neg e]
end
/-! ### What steps on payloads answer -/
/-- Store. -/
noncomputable def stoX (M : Nat → En) (i : Nat) (g : Int) (f : Nat) (v : Int) : Int × (Nat → En) :=
  if chk M i g ≠ 0 then (chk M i g, M) else if (M i).wds.length ≤ f then (13, M) else
    open Classical in if fOk (tabOf M i) f v then (0, updM M i { M i with wds := (M i).wds.set f v }) else (14, M)
/-- StoreAll. -/
noncomputable def staX (M : Nat → En) (i : Nat) (g : Int) (l : List Int) : Int × (Nat → En) :=
  if chk M i g ≠ 0 then (chk M i g, M) else if l.length ≠ (M i).wds.length then (13, M) else
    open Classical in if ∀ f x, l[f]? = some x → fOk (tabOf M i) f x then (0, updM M i { M i with wds := l }) else (14, M)
/-- Clear. -/
def clrX (M : Nat → En) (i : Nat) (g : Int) : Int × (Nat → En) :=
  if chk M i g ≠ 0 then (chk M i g, M) else (0, updM M i { M i with wds := List.replicate (M i).wds.length 0 })
/-- Copy. -/
def cpyX (M : Nat → En) (i : Nat) (g : Int) (j : Nat) (gg : Int) : Int × (Nat → En) :=
  if chk M i g ≠ 0 then (chk M i g, M) else if (M i).typ = 1 then (3, M) else if chk M j gg ≠ 0 then (chk M j gg, M) else
    if (M j).typ ≠ (M i).typ then (3, M) else (0, updM M j { M j with wds := (M i).wds })
section
variable {s : Av} {ws : Nat → Nat → Nat → Int} {i t r : Nat} {g : Int} {tl : Nat → List Int} {L : Nat → List Nat} {n : Nat}
theorem tab_obj (hi : i < 320) (ht : (s.hd i).typ = ((t + 2 : Nat) : Int)) : tabOf (ob s ws) i = t := by
  unfold tabOf
  rw [ob_at _ _ hi]
  show (s.hd i).typ.toNat - 2 = t
  rw [ht, Int.toNat_natCast]
  omega
theorem wds_len (hI : IV s tl L n) (hi : i < 320) {k : Nat} (hk : (s.hd i).typ = (k : Int)) : (ob s ws i).wds.length = kFlds k := by
  obtain ⟨k', ek, k7, _⟩ := hI.ge.typ i hi
  have e : k' = k := by omega
  subst e
  by_cases k2 : k' < 2
  · rw [wds_reg hi (by rw [ek]; omega)]
    have : k' = 0 ∨ k' = 1 := by omega
    rcases this with rfl | rfl <;> rfl
  · obtain ⟨t, rfl⟩ : ∃ t, k' = t + 2 := ⟨k' - 2, by omega⟩
    obtain ⟨r, er, _, _⟩ := hI.tb.row i (t + 2) hi (by omega) k7 ek
    rw [wds_obj hi ek er, wlist_len]
    have t6 : t < 6 := by omega
    match t, t6 with
    | 0, _ => rfl
    | 1, _ => rfl
    | 2, _ => rfl
    | 3, _ => rfl
    | 4, _ => rfl
    | 5, _ => rfl
theorem stoX_dead (h : ¬ Live s i g) (f : Nat) (v : Int) : stoX (ob s ws) i g f v = (stale i g, ob s ws) := by
  unfold stoX
  rw [if_pos (stale_nz h), chk_stale h]
theorem stoX_fld (h : Live s i g) {f : Nat} (hf : (ob s ws i).wds.length ≤ f) (v : Int) : stoX (ob s ws) i g f v = (13, ob s ws) := by
  unfold stoX
  rw [chk_live h, if_neg (by simp), if_pos hf]
theorem stoX_bad (h : Live s i g) {f : Nat} (hf : f < (ob s ws i).wds.length) (ht : (s.hd i).typ = ((t + 2 : Nat) : Int)) {v : Int} (hv : ¬ fOk t f v) : stoX (ob s ws) i g f v = (14, ob s ws) := by
  unfold stoX
  rw [chk_live h, if_neg (by simp), if_neg (by omega), tab_obj h.1 ht, if_neg hv]
theorem stoX_ok (hI : IV s tl L n) (h : Live s i g) {f : Nat} (hf : f < (ob s ws i).wds.length) (ht : (s.hd i).typ = ((t + 2 : Nat) : Int)) (hr : (s.hd i).row = (r : Int)) {v : Int} (hv : fOk t f v) : stoX (ob s ws) i g f v = (0, ob s (updW ws t r (fun x => if x = f then v else ws t r x))) := by
  unfold stoX
  rw [chk_live h, if_neg (by simp), if_neg (by omega), tab_obj h.1 ht, if_pos hv, ob_row hI h.1 ht hr, wds_obj h.1 ht hr, wlist_set]
end
/-- The payload of an object of table t turns into F of itself, where that is valid. -/
noncomputable def updS (s : Av) (ws : Nat → Nat → Nat → Int) (i : Nat) (g : Int) (t : Nat) (F : (Nat → Int) → Nat → Int) : Int × (Nat → En) :=
  if Live s i g then (if (s.hd i).typ = ((t + 2 : Nat) : Int) then
    (open Classical in if Wc t (F (ws t (s.hd i).row.toNat)) then (0, updM (ob s ws) i { ob s ws i with wds := wlist (nF t) (F (ws t (s.hd i).row.toNat)) }) else (14, ob s ws)) else (3, ob s ws)) else (stale i g, ob s ws)
section
variable {s : Av} {ws : Nat → Nat → Nat → Int} {i t r : Nat} {g : Int} {F : (Nat → Int) → Nat → Int}
theorem updS_err (h : ¬ (Live s i g ∧ (s.hd i).typ = ((t + 2 : Nat) : Int))) : updS s ws i g t F = ((if Live s i g then 3 else stale i g), ob s ws) := by
  unfold updS
  by_cases q : Live s i g
  · rw [if_pos q, if_pos q, if_neg (fun k => h ⟨q, k⟩)]
  · rw [if_neg q, if_neg q]
theorem updS_bad (h : Live s i g) (ht : (s.hd i).typ = ((t + 2 : Nat) : Int)) (hr : (s.hd i).row = (r : Int)) (hv : ¬ Wc t (F (ws t r))) : updS s ws i g t F = (14, ob s ws) := by
  unfold updS
  rw [if_pos h, if_pos ht, hr, Int.toNat_natCast, if_neg hv]
theorem updS_ok (h : Live s i g) (ht : (s.hd i).typ = ((t + 2 : Nat) : Int)) (hr : (s.hd i).row = (r : Int)) (hv : Wc t (F (ws t r))) : updS s ws i g t F = (0, updM (ob s ws) i { ob s ws i with wds := wlist (nF t) (F (ws t r)) }) := by
  unfold updS
  rw [if_pos h, if_pos ht, hr, Int.toNat_natCast, if_pos hv]
end
end Go.Proofs.Qxb6500847aGreatDoor.Os
