/- Plain facts: the sizes, the marks. -/
import Derived.Test.YtfmeopnankeaeaaDoorTA
set_option linter.unusedSimpArgs false
set_option linter.unusedVariables false
set_option linter.unusedSectionVars false
namespace Go.Proofs.YtfmeopnankeaeaaDoor

/-- What is left of so much, when the weights are taken off one by one. -/
def szW : List Nat → Int → Int
  | [], n => n
  | x :: r, n => if n - x < 0 then -1 else szW r (n - x)
theorem szW_in : ∀ (ws : List Nat) (n : Int), 0 ≤ n → szW ws n = -1 ∨ (0 ≤ szW ws n ∧ szW ws n ≤ n)
  | [], n, h => .inr ⟨h, Int.le_refl _⟩
  | x :: r, n, h => by
    unfold szW
    split
    · exact .inl rfl
    · rcases szW_in r (n - x) (by omega) with h1 | ⟨h1, h2⟩
      · exact .inl h1
      · exact .inr ⟨h1, by omega⟩
theorem szW_app : ∀ (ws vs : List Nat) (n : Int), 0 ≤ n → szW (ws ++ vs) n = if szW ws n < 0 then -1 else szW vs (szW ws n)
  | [], vs, n, h => by rw [List.nil_append, show szW [] n = n from rfl, if_neg (by omega)]
  | x :: r, vs, n, h => by
    rw [List.cons_append]
    show (if n - x < 0 then -1 else szW (r ++ vs) (n - x)) = if (if n - x < 0 then -1 else szW r (n - x)) < 0 then -1 else szW vs (if n - x < 0 then -1 else szW r (n - x))
    by_cases hc : n - x < 0
    · rw [if_pos hc, if_pos hc, if_pos (by decide)]
    · rw [if_neg hc, if_neg hc]
      exact szW_app r vs (n - x) (by omega)
theorem szW_sum : ∀ (ws : List Nat) (n : Int), 0 ≤ szW ws n → ws.sum ≤ n
  | [], n, h => h
  | x :: r, n, h => by
    unfold szW at h
    split at h
    · omega
    · have := szW_sum r _ h
      rw [List.sum_cons]; omega
theorem le_sum : ∀ {ws : List Nat} {x : Nat}, x ∈ ws → x ≤ ws.sum
  | y :: r, x, h => by
    rw [List.sum_cons]
    rcases List.mem_cons.1 h with rfl | h
    · omega
    · have := le_sum h; omega
theorem szW_mem {ws : List Nat} {n : Int} (h : 0 ≤ szW ws n) {x : Nat} (hx : x ∈ ws) : x ≤ n := by
  have h1 := szW_sum ws n h
  have h2 : x ≤ ws.sum := le_sum hx
  omega
def wS (xs : List ByteArray) : List Nat := xs.length :: xs.map (·.size)
def wL (xs : List Late) : List Nat := xs.length :: xs.map (·.text.size)
/-- A number's digits before a text. -/
def digs : Nat → Int → ByteArray → ByteArray
  | 0, _, out => out
  | f + 1, k, out => if k > 0 then digs f (k.tdiv 10) (⟨#[UInt8.ofNat (IntKind.u8.wrap (IntKind.i64.wrap (48 + k.tmod 10))).toNat]⟩ ++ out) else out
def markT (k : Int) : ByteArray := if k ≤ 0 then ⟨#[109, 48]⟩ else ⟨#[109]⟩ ++ digs 64 k ⟨#[]⟩
def markS (n : Nat) (k : Int) : List ByteArray := (List.range n).map fun i : Nat => markT (k + (i : Int))
def markL (n : Nat) (k : Int) : List Late := (List.range n).map fun i : Nat => ⟨k + 3 * (i : Int), k + 3 * (i : Int) + 1, markT (k + 3 * (i : Int) + 2)⟩
def markI (n : Nat) (k : Int) : List Int := (List.range n).map fun i : Nat => k + (i : Int)
@[go_sem] theorem markS_len (n : Nat) (k : Int) : (markS n k).length = n := by simp [markS]
@[go_sem] theorem markL_len (n : Nat) (k : Int) : (markL n k).length = n := by simp [markL]
@[go_sem] theorem markI_len (n : Nat) (k : Int) : (markI n k).length = n := by simp [markI]
@[go_sem] theorem markS_take (n : Nat) (k : Int) : (markS n k).take n = markS n k := List.take_of_length_le (by simp [markS])
@[go_sem] theorem markL_take (n : Nat) (k : Int) : (markL n k).take n = markL n k := List.take_of_length_le (by simp [markL])
@[go_sem] theorem markI_take (n : Nat) (k : Int) : (markI n k).take n = markI n k := List.take_of_length_le (by simp [markI])
theorem getD_lt {α : Type} {xs : List α} {i : Nat} (h : i < xs.length) (d : α) : xs.getD i d = xs[i] := by simp [h]
theorem markS_get {n : Nat} {k : Int} {i : Nat} (h : i < n) (d : ByteArray) : (markS n k).getD i d = markT (k + i) := by simp [markS, h]
theorem markL_get {n : Nat} {k : Int} {i : Nat} (h : i < n) (d : Late) : (markL n k).getD i d = ⟨k + 3 * i, k + 3 * i + 1, markT (k + 3 * i + 2)⟩ := by simp [markL, h]
theorem markI_get {n : Nat} {k : Int} {i : Nat} (h : i < n) (d : Int) : (markI n k).getD i d = k + i := by simp [markI, h]
/-- A list that is filled from another one: so many are done. -/
def mix {α : Type} (a b : List α) (i : Nat) : List α := a.take i ++ b.drop i
theorem mix_len {α : Type} (a b : List α) (i : Nat) (h : a.length = b.length) : (mix a b i).length = b.length := by
  unfold mix; simp; omega
theorem mix_zero {α : Type} (a b : List α) : mix a b 0 = b := by simp [mix]
theorem mix_all {α : Type} (a b : List α) (i : Nat) (h : a.length = b.length) (hi : i = b.length) : mix a b i = a := by
  unfold mix; rw [List.take_of_length_le (by omega), List.drop_of_length_le (by omega), List.append_nil]
theorem mix_set {α : Type} (a b : List α) (i : Nat) (d : α) (h : a.length = b.length) (hi : i < b.length) {x : α} (hx : x = a.getD i d) : (mix a b i).set i x = mix a b (i + 1) := by
  subst hx
  unfold mix
  apply List.ext_getElem?
  intro j
  rw [List.getElem?_set]
  have ha : i < a.length := by omega
  simp only [List.length_append, List.length_take, List.length_drop, List.getElem?_append, List.getElem?_take, List.getElem?_drop]
  rcases Nat.lt_trichotomy j i with hj | hj | hj
  · simp [show i ≠ j by omega, show j < min i a.length by omega, show j < min (i + 1) a.length by omega, hj, show j < i + 1 by omega]
  · subst hj
    simp [ha, show j < min (j + 1) a.length by omega, show j < min j a.length + (b.length - j) by omega]
  · simp [show i ≠ j by omega, show ¬ j < min i a.length by omega, show ¬ j < min (i + 1) a.length by omega]
    congr 1; omega
end Go.Proofs.YtfmeopnankeaeaaDoor
