/-
  Wrap, and the document's Wrap: both tell what the plain wrapFrom tells. Conditions: the rows are read as lists, lengths are below 2^20.
-/
import Derived.Test.YtdaejdnomlodpaaFrC
namespace Go.Proofs.Ytdaejdnomlodpaa
open Go.RowKit Go.Al Go.Al.Fr
set_option linter.unusedVariables false

/-- what a Wrap tells: the bytes, or that one is too long -/
def WrapTold (w : World) (r : Option (List UInt8)) (e : Ending) (w' : World) : Prop :=
  Same w w' ∧ ((∃ b A c, r = some b ∧ e = .returned (.tuple #[.slice A b.length c, .int .i64 0]) ∧ w'.ownsRow w.heap.size 5 1 (.slice A b.length c) b.length (bs b)) ∨
    (∃ A c, r = none ∧ e = .returned (.tuple #[.slice A 0 c, .int .i64 11])))
/-- what a loop of Wrap holds at its head -/
def WrapRel (w0 : World) (ls : List (List UInt8)) (n k : Nat) (out vi : Value) (wr : World) : Prop :=
  ∃ (i : Nat) (acc : List UInt8) (A : Option Addr) (c : Nat), i ≤ n ∧ k = n - i ∧ vi = .int .i64 i ∧ out = .slice A acc.length c ∧ wr.ownsRow w0.heap.size 5 1 (.slice A acc.length c) acc.length (bs acc) ∧ Same w0 wr ∧
    acc.length ≤ 65536 ∧ wrapFrom [] ls = wrapFrom acc (ls.drop i)

theorem rd_two (w : World) (x y : Value) (t : TypeId) : Rd (w.alloc (.cells #[x, y] t)) (some ⟨w.heap.size, 0, none⟩) [x, y] := fun _ =>
  ⟨_, 0, rfl, fun i z hz => by
    match i, hz with
    | 0, hz => simp at hz; subst hz; simp
    | 1, hz => simp at hz; subst hz; simp⟩
theorem one_two (k k' : IntKind) (x y : Int) : ∀ u ∈ [Value.int k x, Value.int k' y], u.oneCell' = true := by intro u hu; simp at hu; rcases hu with rfl | rfl <;> rfl
theorem bs_head (n : Nat) (hn : n ≤ 65535) : bs (head n) = [Value.int .u8 ((n / 256 : Nat) : Int), Value.int .u8 ((n % 256 : Nat) : Int)] := by
  simp only [bs, head, List.map_cons, List.map_nil, UInt8.toNat_ofNat']
  have h1 : n / 256 % 2 ^ 8 = n / 256 := Nat.mod_eq_of_lt (by omega)
  have h2 : n % 256 % 2 ^ 8 = n % 256 := Nat.mod_eq_of_lt (by omega)
  rw [h1, h2]

set_option maxHeartbeats 1000000 in
theorem Wrap_any (B : Nat) (e5 : TypeId) (A : Option Addr) (n c : Nat) (xs : List Value) (ls : List (List UInt8)) (w : World) (hr : Rd w A xs) (hx : Rows2 B e5 w xs (ls.map bs)) (hn : ls.length = n) (hn2 : n ≤ 1048576) (hl : ∀ l ∈ ls, l.length ≤ 1048576) :
    Calls Try.prog 8 #[.slice A n c] w (WrapTold w (wrapFrom [] ls)) := by
  have Hr := hide hr
  have Hx := hide hx
  have Hn := hide hn
  have Hl := hide hl
  clear hr hx hn hl
  go_enter Try.func8, Try.ntmps8
  go_wp2_with fail
  go_loopg [4, 9] n (fun k out vi wr => WrapRel w ls n k out vi wr)
  case atStart => exact ⟨0, [], none, 0, Nat.zero_le _, rfl, rfl, rfl, World.ownsRow_nil _ _ _ _, Chg.refl _ _, Nat.zero_le _, rfl⟩
  case round =>
    obtain ⟨i, acc, A0, c0, hi, hk, rfl, rfl, hown, hsame, hacc, heq⟩ := hrel
    have Hk := hide hk
    have Hown := hide hown
    have Hsame := hide hsame
    have Heq := hide heq
    have hsz := hsame.size
    clear hk hown hsame heq
    by_cases hlt : i < n
    · have hxl : i < xs.length := by rw [Hx.out.1]; simp [Hn.out]; exact hlt
      obtain ⟨Ai, ci, li, hx, hl, hci, hri, _⟩ := Hx.out.at_ hxl
      obtain ⟨bo, off, rfl, hcell⟩ := (Hr.out.same Hsame.out).at_ hxl
      rw [List.getElem?_eq_getElem hxl] at hx
      rw [Option.some.inj hx] at hcell
      have hil : i < ls.length := by rw [Hn.out]; exact hlt
      rw [List.getElem?_map, List.getElem?_eq_getElem hil] at hl
      obtain rfl := Option.some.inj hl
      have hb := Hl.out ls[i] (List.getElem_mem hil)
      have hg : ls[i]? = some ls[i] := List.getElem?_eq_getElem hil
      rw [bs_length] at hcell hci
      have Hg := hide hg
      have Hri := hide hri
      clear hx hl hg hri
      generalize ls[i] = b at *
      by_cases hbig : 65535 < b.length
      · go_wp2_with fail
        go_ret2
        exact ⟨Hsame.out, .inr ⟨none, 0, by rw [Heq.out]; exact wrapFrom_bad Hg.out (.inl hbig), rfl⟩⟩
      · by_cases hfull : 65536 < acc.length + 2 + b.length
        · go_wp2_with fail
          go_ret2
          exact ⟨Hsame.out, .inr ⟨none, 0, by rw [Heq.out]; exact wrapFrom_bad Hg.out (.inr hfull), rfl⟩⟩
        · go_wp2_with (first
          | (at_builtin; refine wpList_appS rfl (.tmp 25) (.tmp 33) _ rfl slB rfl (Hown.out.alloc _) rfl rfl (rd_two wr _ _ _) (one_two _ _ _ _) (by omega) (by omega) (by simp; omega) ?_
             intro A5 c5 w5 hown5 hchg5 hat5
             have hs5 := Hsame.out.app1 Hown.out (Nat.le_refl _) hchg5
             have hsz5 := hs5.size
             have Hown5 := hide hown5
             have Hs5 := hide hs5
             clear hown5 hchg5 hat5 hs5)
          | (at_builtin; refine wpList_appS rfl (.tmp 34) (.tmp 35) _ rfl slB rfl Hown5.out rfl (by simp) (Hri.out.same Hs5.out) (one_bs b) (by omega) (by omega) hsz5 ?_
             intro A6 c6 w6 hown6 hchg6 hat6
             have hs6 := Hs5.out.app Hown5.out (Nat.le_refl _) hchg6
             have Hown6 := hide hown6
             have Hs6 := hide hs6
             clear hown6 hchg6 hat6 hs6))
          have hl6 : (acc ++ head b.length ++ b).length = acc.length + 2 + b.length := by simp [head_length]; omega
          have hown6 : w6.ownsRow w.heap.size 5 1 (.slice A6 (acc ++ head b.length ++ b).length c6) (acc ++ head b.length ++ b).length (bs (acc ++ head b.length ++ b)) := by
            rw [hl6, bs_append, bs_append, bs_head _ (by omega)]
            have := Hown6.out
            simpa [IntKind.wrap_u8] using this
          go_roundg (n - (i + 1))
          case measure => have := Hk.out; omega
          case rel => exact ⟨i + 1, acc ++ head b.length ++ b, A6, c6, by omega, rfl, by go_num, by rw [hl6], hown6, Hs6.out, by rw [hl6]; omega, by rw [Heq.out]; exact wrapFrom_step Hg.out (by omega) (by omega)⟩
    · go_wp2_with fail
      go_ret2
      have e : ls.drop i = [] := List.drop_of_length_le (by rw [Hn.out]; omega)
      have h := Heq.out
      rw [e, wrapFrom] at h
      exact ⟨Hsame.out, .inl ⟨acc, A0, c0, h, rfl, Hown.out⟩⟩
end Go.Proofs.Ytdaejdnomlodpaa
