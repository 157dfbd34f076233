/-
  What Go's library has laid, in one word; strings.Join at words; how long an act's line is. No conditions.
-/
import Derived.Test.YtlodanjpkjfjiaaGreatDoorScF
import Derived.Test.YtlodanjpkjfjiaaGreatDoorScHc
import Derived.Test.YtlodanjpkjfjiaaGreatDoorScH
namespace Go.Proofs.YtlodanjpkjfjiaaGreatDoor
open Go.RowKit Go.Al
set_option linter.unusedVariables false

/-- what Go's library has laid -/
structure Amb (w : World) : Prop where
  er : Errs w
  sp : Lib.TabIs Tryz.prog w "strings.asciiSpace" .u8 Lib.asciiSpaceTab
  pw : Lib.TabIs Tryz.prog w "internal/strconv.uint64pow10" .u64 Lib.pow10Tab
  mx : ∃ m, w.cell? ⟨0, 0, none⟩ = some (.int .i64 m)
theorem Amb.same {w w' : World} (h : Amb w) (hs : Same w w') : Amb w' :=
  ⟨h.er.same hs, tab_sm h.sp hs, tab_sm h.pw hs, by
    obtain ⟨m, hm⟩ := h.mx
    exact ⟨m, (hs.cell (p := ⟨0, 0, none⟩) (World.block_lt_of_cell? (a := ⟨0, 0, none⟩) w hm) (fun h => h)).trans hm⟩⟩
theorem var_lt {P : Program} {w : World} {name : String} {cs : Array Value} (h : w.var? P name = some cs) {k : Nat} (hk : P.globalNamed name = some k) : k < w.heap.size := by
  unfold World.var? at h
  rw [hk] at h
  simp only [Option.bind_some] at h
  rcases Nat.lt_or_ge k w.heap.size with h' | h'
  · exact h'
  · rw [Array.getElem?_eq_none h'] at h; cases h
theorem Amb.wtab {w w' : World} (h : Amb w) (hs : Same w w') {g : Nat} (hg : w.heap.size ≤ g) : WTab g w' :=
  ⟨(h.same hs).sp, (h.same hs).pw, fun k hk => by
    rcases hk with hk | hk
    · have := var_lt h.sp hk; omega
    · have := var_lt h.pw hk; omega⟩
theorem Amb.rdy {w w' : World} (h : Amb w) (hs : Same w w') {g : Nat} (hg : w.heap.size ≤ g) {ws : List (List UInt8)} (hr : RdrAt w' g ws) (hf : FitW ws) : Rdy g w' ws :=
  ⟨hr, (h.same hs).er, ⟨fun k hk => by obtain ⟨tp, p, h1⟩ := h.er.sy; have := var_lt h1 hk; omega, fun k hk => by obtain ⟨tp, p, h1⟩ := h.er.ra; have := var_lt h1 hk; omega⟩, (h.same hs).sp, hf, fun k hk => by have := var_lt h.sp hk; omega⟩
theorem joinW {A : Option Addr} {c : Nat} (l : List (List UInt8)) (hne : l ≠ []) (w : World) (h : Rd w A (wds l)) (hl : l.length ≤ 64) (hc : l.length ≤ c) (hj : (Lib.join l [32]).length ≤ 10000000) :
    Calls Tryz.prog 64 #[.slice A l.length c, .string ⟨#[32]⟩] w fun e w' => e = .returned (strV (Lib.join l [32])) ∧ Same w w' := by
  obtain ⟨b, off, rfl, hcell⟩ := h (by intro h0; exact hne (List.map_eq_nil_iff.1 h0))
  have hm : (l.map fun x => (⟨x.toArray⟩ : ByteArray)).map (·.data.toList) = l := by rw [List.map_map]; simp [Function.comp_def]
  have hb : b < w.heap.size := by
    obtain ⟨x, r, rfl⟩ := List.exists_cons_of_ne_nil hne
    exact World.block_lt_of_cell? (a := ⟨b, off + 0, none⟩) w (hcell 0 _ rfl)
  have := strings_Join b off c (l.map fun x => (⟨x.toArray⟩ : ByteArray)) ⟨#[32]⟩ w (fun j x hx => by
    rw [List.getElem?_map, Option.map_eq_some_iff] at hx
    obtain ⟨y, hy, rfl⟩ := hx
    exact hcell j _ (by unfold wds; rw [List.getElem?_map, hy]; rfl)) hb (by rw [List.length_map]; omega) (by rw [List.length_map]; exact hc) (by rw [hm]; show (Lib.join l [32]).length ≤ _; omega)
  rw [List.length_map, hm] at this
  exact this.mono fun e w' ⟨he, hs⟩ => ⟨he, below_same hs⟩
theorem join_len : ∀ l : List (List UInt8), (Lib.join l [32]).length ≤ (l.map fun x => x.length + 1).sum
  | [] => by simp [Lib.join]
  | [x] => by rw [Lib.join_one]; simp
  | x :: y :: l => by
    have := join_len (y :: l)
    have e : Lib.join (x :: y :: l) [32] = x ++ 32 :: Lib.join (y :: l) [32] := by simp [Lib.join, List.intercalate, List.intersperse]
    rw [e]
    simp only [List.map_cons, List.sum_cons, List.length_append, List.length_cons] at this ⊢
    omega
theorem wordA_len (k : Int) : (wordAt wordsA k).length ≤ 20 := by
  have : ∀ n : Nat, ((wordsA[n]?).getD []).length ≤ 20 := fun n => by
    rcases Nat.lt_or_ge n 5 with h | h
    · have h5 : ∀ m : Fin 5, ((wordsA[m.val]?).getD []).length ≤ 20 := by decide +kernel
      exact h5 ⟨n, h⟩
    · rw [List.getElem?_eq_none (by exact h)]; simp
  exact this _
theorem wordR_len (k : Int) : (wordAt wordsR k).length ≤ 20 := by
  have : ∀ n : Nat, ((wordsR[n]?).getD []).length ≤ 20 := fun n => by
    rcases Nat.lt_or_ge n 11 with h | h
    · have h5 : ∀ m : Fin 11, ((wordsR[m.val]?).getD []).length ≤ 20 := by decide +kernel
      exact h5 ⟨n, h⟩
    · rw [List.getElem?_eq_none (by exact h)]; simp
  exact this _
theorem hexB_len (l : List UInt8) : (hexB l).length ≤ 2 * l.length + 1 := by
  by_cases h : l = []
  · subst h; simp [hexB]
  · rw [hexB_L h, hexL_len]; omega
theorem sum_itoa : ∀ {l : List Int}, (∀ n ∈ l, inI' n) → ((l.map Lib.itoa).map fun x => x.length + 1).sum ≤ 22 * l.length
  | [], _ => by simp
  | n :: l, h => by
    have h1 := sum_itoa (l := l) fun m hm => h m (List.mem_cons_of_mem _ hm)
    have h2 := itoa_len n (h n List.mem_cons_self).1 (h n List.mem_cons_self).2
    simp only [List.map_cons, List.sum_cons, List.length_cons]
    omega
theorem showW_len {a : Ac} (h : goodA a = true) : (showW a).length ≤ 8 := by
  unfold showW
  rcases goodA_cases h with ⟨hk, hr⟩ | ⟨hk, _⟩ | hk | ⟨hk, _⟩ | ⟨hk, _⟩
  · have := (numsR_len hr).2
    simp [hk]; omega
  all_goals simp [hk]
theorem showB_len {a : Ac} (h : goodA a = true) (hw : WfA a) : (showB a).length ≤ 3000 := by
  refine Nat.le_trans (join_len _) ?_
  have h1 := wordA_len a.k
  have h2 := itoa_len a.id hw.id.1 hw.id.2
  have h3 := itoa_len a.n hw.n.1 hw.n.2
  have h4 := wordR_len (kindR a.r)
  have h5 := hexB_len a.b
  have h6 : goodR a.r = true → ((numsR a.r).map Lib.itoa |>.map fun x => x.length + 1).sum ≤ 22 * 4 := fun hr => Nat.le_trans (sum_itoa (hw.r.nums)) (Nat.mul_le_mul_left _ (numsR_len hr).2)
  unfold showW
  rcases goodA_cases h with ⟨hk, hr⟩ | ⟨hk, _⟩ | hk | ⟨hk, _⟩ | ⟨hk, hb⟩
  · have h7 := h6 hr
    rw [hk] at h1 ⊢
    simp only [List.map_cons, List.sum_cons, List.map_append, List.sum_append, if_true] at h7 ⊢
    simp at h7 ⊢
    omega
  · rw [hk] at h1 ⊢; simp; omega
  · rw [hk] at h1 ⊢; simp; omega
  · rw [hk] at h1 ⊢; simp; omega
  · rw [hk] at h1 ⊢; simp; omega
end Go.Proofs.YtlodanjpkjfjiaaGreatDoor
