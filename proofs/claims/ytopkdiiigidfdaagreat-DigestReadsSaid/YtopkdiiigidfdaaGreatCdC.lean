/-
  Bytes compared, cloned; codec.Int. Conditions: numbers that an int holds; at most 1048576 bytes.
-/
import Derived.Test.YtopkdiiigidfdaaGreatCdB
import Derived.Test.YtopkdiiigidfdaaGreatStr
import Derived.Test.YtopkdiiigidfdaaGreatAp
namespace Go.Proofs.YtopkdiiigidfdaaGreat
open Go.RowKit Go.Al
set_option linter.unusedVariables false

theorem nums_str (l : List UInt8) : strOfNums (l.map fun x => (x.toNat : Int)) = str l := by simp [strOfNums, str, Function.comp_def]
theorem bequal_any {A B : Option Addr} {c d : Nat} (xs ys : List UInt8) (w : World) (hx : Rd w A (bs xs)) (hy : Rd w B (bs ys)) :
    Calls Tryz.prog 95 #[.slice A xs.length c, .slice B ys.length d] w fun e w' => e = .returned (.bool (xs == ys)) ∧ w = w' := by
  have h1 := run_bs_string0 Tryz.underlying58 Tryz.underlying5 Tryz.underlying9 c (n := xs.length) rfl hx
  have h2 := run_bs_string0 Tryz.underlying58 Tryz.underlying5 Tryz.underlying9 d (n := ys.length) rfl hy
  have := bytes_Equal (.slice A xs.length c) (.slice B ys.length d) (xs.map fun x => (x.toNat : Int)) (ys.map fun x => (x.toNat : Int)) w (by rw [nums_str]; exact h1) (by rw [nums_str]; exact h2)
  refine this.mono fun e w' ⟨he, hw⟩ => ⟨?_, hw.symm⟩
  rw [he]
  have e1 : ∀ l : List UInt8, Lib.bytesOf (l.map fun x => (x.toNat : Int)) = l := fun l => by
    unfold Lib.bytesOf
    simp [Function.comp_def]
  rw [e1, e1]
theorem slnil_some (a : Addr) (n c : Nat) (w : World) : (binOp .eql 58 (.slice (some a) n c) (.slice none 0 0)).run Tryz.prog w = .ok (.bool false) w := by
  simp [binOp, run_equal_slice_nil w _ _ _ _ _ Tryz.underlying58]
/-- how a copy of bytes ends -/
def CloneBEnd (w : World) (l : List UInt8) (e : Ending) (w' : World) : Prop :=
  ∃ A c, e = .returned (.slice A l.length c) ∧ w'.ownsRow w.heap.size 5 1 (.slice A l.length c) l.length (bs l) ∧ Same w w'
set_option maxRecDepth 100000 in
set_option maxHeartbeats 2000000 in
theorem cloneb_any {a : Addr} {c : Nat} (l : List UInt8) (w : World) (h : Rd w (some a) (bs l)) (hl : l.length ≤ 1048576) :
    Calls Tryz.prog 145 #[.slice (some a) l.length c] w (CloneBEnd w l) := by
  have H := hide h
  have HO := hide (own_lit (w.alloc (.cells #[] 5)) w.heap.size 5 1 #[] 0 (by simp) (by decide) rfl)
  have HO2 := hide (show (w.alloc (.cells #[] 5)).ownsRow w.heap.size 5 1 (.slice (some ⟨w.heap.size, 0, none⟩) 0 0) 0 [] from own_lit w w.heap.size 5 1 #[] 0 (Nat.le_refl _) (by decide) rfl)
  have hbl : (bs l).length = l.length * 1 := by simp [bs]
  obtain ⟨n, hn⟩ : ∃ n, l.length = n := ⟨_, rfl⟩
  have HE : Hid (∀ A' c' w', w'.ownsRow w.heap.size 5 1 (.slice A' (0 + n) c') (0 + n) ([] ++ bs l) → Same w w' → CloneBEnd w l (.returned (.slice A' n c')) w') := hide fun A' c' w' ho hs => by
    rw [Nat.zero_add, List.nil_append, ← hn] at ho
    rw [← hn]
    exact ⟨A', c', rfl, ho, hs⟩
  rw [hn] at hl hbl ⊢
  have Hbl := hide hbl
  have hnil := slnil_some a n c
  clear h hn hbl HO
  go_enter Tryz.func145, Tryz.ntmps145
  go_wp2_with (first
    | (at_builtin; refine wpList_appS (by rfl) (.tmp 5) (.tmp 6) _ (by rfl) slB (by rfl) (base := w.heap.size) (by exact HO2.out) (by rfl) (by exact Hbl.out) (by exact H.out.alloc _) (one_bs _) (by omega) (by omega) (by simp) ?_; intro A3 c3 w5 hown hc hb; have HE3 := hide (HE.out A3 c3 w5 hown (Chg.fresh (S := fun k => w.heap.size ≤ k) (Chg.trans ((Chg.refl (fun k => w.heap.size ≤ k) w).alloc _) hc (fun k _ e => by simp [blkOf] at e; omega)) (fun _ h => h))); clear hown hc hb)
    | fail)
  go_ret
  exact HE3.out
/-- how Int ends -/
def IntEnd (w : World) (l : List UInt8) (e : Ending) (w' : World) : Prop :=
  ∃ A c, e = .returned (.slice A l.length c) ∧ w'.ownsRow w.heap.size 5 1 (.slice A l.length c) l.length (bs l) ∧ Same w w'
set_option maxRecDepth 100000 in
set_option maxHeartbeats 2000000 in
theorem codecInt_any {a : Addr} {c : Nat} (l : List UInt8) (x : Int) (w : World) (h0 : -9223372036854775808 ≤ x) (h1 : x ≤ 9223372036854775807) (h : Rd w (some a) (bs l)) (hl : l.length ≤ 1048576) :
    Calls Tryz.prog 84 #[.slice (some a) l.length c, .int .i64 x] w (IntEnd w (l ++ encI x)) := by
  have HC := hide (cloneb_any (c := c) l w h hl)
  have HP := hide (fun (w' : World) (A : Option Addr) (c' : Nat) (hs : Same w w') (ho : w'.ownsRow w.heap.size 5 1 (.slice A l.length c') l.length (bs l)) => put_any x w' h0 h1 ho hs.size hl)
  have HE : Hid (∀ w2 w3 A m e, m = l.length + (encI x).length → Same w w2 → (∀ b, blkOf A = some b → w.heap.size ≤ b) → PutEnd w2 w.heap.size A m (l ++ encI x) e w3 → IntEnd w (l ++ encI x) e w3) := hide fun w2 w3 A m e hm hs hA hp => by
    obtain ⟨A', c', he, ho, hc, _⟩ := hp
    subst hm
    rw [← List.length_append] at he ho
    exact ⟨A', c', he, ho, Chg.fresh (S := fun k => w.heap.size ≤ k) (Chg.trans hs.to hc fun k _ e => hA k e) fun _ h => h⟩
  clear h hl h0 h1
  go_enter Tryz.func84, Tryz.ntmps84
  go_wp2_with (first
    | (go_at_call 145; have hF := HC.out; (with_reducible refine hF.mono ?_); rintro e w2 ⟨A, c2, rfl, ho, hs⟩; have Ho := hide ho; have Hs := hide hs; clear ho hs hF)
    | (go_at_call 144; have hF := HP.out _ _ _ Hs.out Ho.out; (with_reducible refine hF.mono ?_); rintro e w3 hp; have HE3 := hide (HE.out w2 w3 A _ e rfl Hs.out (fun b hb => (Ho.out.lt b (by rw [ownBlock_slice]; exact hb)).1) hp); obtain ⟨A5, c5, he5, _, _, _⟩ := hp; subst he5; clear hF)
    | fail)
  go_ret
  exact HE3.out
end Go.Proofs.YtopkdiiigidfdaaGreat
