/- Plain law: acts that are done all at once do what they do cut in two. No program in sight. -/
import Derived.Test.YtneekkdoabpilaaDoorDo
namespace Go.Proofs.YtneekkdoabpilaaDoor
open Go

theorem doAll_append (s : St) (l m : List Act) : doAll s (l ++ m) = doAll (doAll s l) m := by simp [doAll]
/-- Where acts begin does not change what they do but for what was told and put ahead. -/
theorem doOne_from (rs : List Rd) (is put : Bool) (value : List UInt8) (rs' : List Rd) (put' : Bool) (a : Act) :
    (doOne ⟨rs ++ rs', is, put || put', value⟩ a) = ⟨rs ++ (doOne ⟨rs', is, put', value⟩ a).reads, (doOne ⟨rs', is, put', value⟩ a).is, put || (doOne ⟨rs', is, put', value⟩ a).put, (doOne ⟨rs', is, put', value⟩ a).value⟩ := by
  unfold doOne
  split
  · simp
  · split
    · simp
    · split <;> simp
theorem doAll_from (rs : List Rd) (put : Bool) (l : List Act) : ∀ (is : Bool) (value : List UInt8) (rs' : List Rd) (put' : Bool),
    doAll ⟨rs ++ rs', is, put || put', value⟩ l = ⟨rs ++ (doAll ⟨rs', is, put', value⟩ l).reads, (doAll ⟨rs', is, put', value⟩ l).is, put || (doAll ⟨rs', is, put', value⟩ l).put, (doAll ⟨rs', is, put', value⟩ l).value⟩ := by
  induction l with
  | nil => intro is value rs' put'; rfl
  | cons a r ih =>
    intro is value rs' put'
    show doAll (doOne _ a) r = _
    rw [doOne_from]
    have e : doAll ⟨rs', is, put', value⟩ (a :: r) = doAll (doOne ⟨rs', is, put', value⟩ a) r := rfl
    rw [e]
    generalize doOne ⟨rs', is, put', value⟩ a = t
    obtain ⟨a1, a2, a3, a4⟩ := t
    exact ih a2 a4 a1 a3
/-- What is put is there; where nothing was put nothing has turned. -/
theorem doAll_put (l : List Act) : ∀ (s : St), (s.put = true → s.is = true) → ((doAll s l).put = true → (doAll s l).is = true) ∧ ((doAll s l).put = false → (doAll s l).is = s.is ∧ (doAll s l).value = s.value ∧ s.put = false) := by
  induction l with
  | nil => intro s h; exact ⟨h, fun h => ⟨rfl, rfl, h⟩⟩
  | cons a r ih =>
    intro s h
    have e : doAll s (a :: r) = doAll (doOne s a) r := rfl
    rw [e]
    have h1 : (doOne s a).put = true → (doOne s a).is = true := by unfold doOne; split <;> (try exact h) <;> split <;> (try (intro _; rfl)) <;> split <;> (try (intro _; rfl)) <;> exact h
    have := ih (doOne s a) h1
    refine ⟨this.1, fun hp => ?_⟩
    obtain ⟨g1, g2, g3⟩ := this.2 hp
    rw [g1, g2]
    unfold doOne at g3 ⊢
    split at g3 <;> rename_i c1
    · rw [if_pos c1]; exact ⟨rfl, rfl, g3⟩
    · split at g3 <;> rename_i c2
      · cases g3
      · split at g3 <;> rename_i c3
        · cases g3
        · rw [if_neg c1, if_neg c2, if_neg c3]; exact ⟨rfl, rfl, g3⟩

/-- THE LAW: the whole is its two parts. -/
theorem parts (is : Bool) (value : List UInt8) (l : List Act) (k : Nat) :
    let a := doAll (begun is value) (l.take k)
    let b := doAll (begun (if a.put then true else is) (if a.put then a.value else value)) (l.drop k)
    let r := doAll (begun is value) l
    r.reads = a.reads ++ b.reads ∧ r.put = (a.put || b.put) ∧ (b.put = true → r.value = b.value) ∧ (b.put = false → a.put = true → r.value = a.value) := by
  intro a b r
  have ha := doAll_put (l.take k) (begun is value) (by intro h; cases h)
  have hstart : begun (if a.put then true else is) (if a.put then a.value else value) = ⟨[], a.is, false, a.value⟩ := by
    cases hp : a.put
    · obtain ⟨g1, g2, _⟩ := ha.2 hp
      have g1' : a.is = is := g1
      have g2' : a.value = if is then value else [] := g2
      rw [g1', g2']; rfl
    · have g1 : a.is = true := ha.1 hp
      rw [g1]; rfl
  have hr : r = doAll a (l.drop k) := by
    show doAll (begun is value) l = _
    rw [← doAll_append, List.take_append_drop]
  have hb : b = doAll ⟨[], a.is, false, a.value⟩ (l.drop k) := by show doAll (begun _ _) _ = _; rw [hstart]
  have hf := doAll_from a.reads a.put (l.drop k) a.is a.value [] false
  simp only [List.append_nil, Bool.or_false] at hf
  have hr2 : r = ⟨a.reads ++ b.reads, b.is, a.put || b.put, b.value⟩ := by rw [hr, hb]; exact hf
  have hb2 := doAll_put (l.drop k) ⟨[], a.is, false, a.value⟩ (by intro h; cases h)
  rw [← hb] at hb2
  rw [hr2]
  exact ⟨rfl, rfl, fun _ => rfl, fun h _ => (hb2.2 h).2.1⟩
end Go.Proofs.YtneekkdoabpilaaDoor
