/-
  Plain words: changes, queries, requests; their cells; which requests are good. Nothing of the program is walked here. No conditions.
  The table's own judgement of a change: id, adds, places, judge. No conditions.
  The table as a thing in memory: New, size, Len, Most, Point, Span, is, may, May. Condition: at most 1048576 entries.
-/
import Derived.Test.YtlimpepdelpogaaGreatDoorTcP
import Derived.Test.YtlimpepdelpogaaGreatDoorChecked
/-! RqP -/
namespace Go.Proofs.YtlimpepdelpogaaGreatDoor
open Go.RowKit Go.Al
set_option linter.unusedVariables false
/-- a change: its kind, a point, an interval -/
structure Cg where
  k : Int
  p : P3
  s : P3
def cgV (c : Cg) : Value := .agg #[.int .i64 c.k, .int .i64 c.p.1, .int .i64 c.p.2.1, .int .i64 c.p.2.2, .int .i64 c.s.1, .int .i64 c.s.2.1, .int .i64 c.s.2.2]
/-- a query: its kind, a box, a window, two numbers -/
structure Qy where
  k : Int
  a : Int
  b : Int
  c : Int
  d : Int
  e : Int
  f : Int
  g : Int
  x : Int
  h : Int
/-- a request -/
structure Rq where
  k : Int
  c : Cg
  q : Qy
def qL (q : Qy) : List Value := [.int .i64 q.k, .int .i64 q.a, .int .i64 q.b, .int .i64 q.c, .int .i64 q.d, .int .i64 q.e, .int .i64 q.f, .int .i64 q.g, .int .i64 q.x, .int .i64 q.h]
def cgL (c : Cg) : List Value := [.int .i64 c.k, .int .i64 c.p.1, .int .i64 c.p.2.1, .int .i64 c.p.2.2, .int .i64 c.s.1, .int .i64 c.s.2.1, .int .i64 c.s.2.2]
def rqL (r : Rq) : List Value := .int .i64 r.k :: (cgL r.c ++ qL r.q)
def qV (q : Qy) : Value := .agg (qL q).toArray
def rqV (r : Rq) : Value := .agg (rqL r).toArray
theorem cgV_L (c : Cg) : cgV c = .agg (cgL c).toArray := rfl
theorem qL_length (q : Qy) : (qL q).length = 10 := rfl
theorem cgL_length (c : Cg) : (cgL c).length = 7 := rfl
theorem rqL_length (r : Rq) : (rqL r).length = 18 := rfl
def goodR (r : Rq) : Bool := (decide (r.k = 1) && (decide (1 ≤ r.c.k) && decide (r.c.k ≤ 4))) || (decide (r.k = 2) && (decide (1 ≤ r.q.k) && decide (r.q.k ≤ 7)))
end Go.Proofs.YtlimpepdelpogaaGreatDoor
/-! TbA -/
namespace Go.Proofs.YtlimpepdelpogaaGreatDoor
open Go.RowKit Go.Al
set_option linter.unusedVariables false
set_option maxHeartbeats 1000000
set_option maxRecDepth 100000
def idC (c : Cg) : Int := if c.k = 1 ∨ c.k = 2 then c.p.1 else if c.k = 3 ∨ c.k = 4 then c.s.1 else 0
def kindC (c : Cg) : Bool := decide (c.k = 1 ∨ c.k = 2 ∨ c.k = 3 ∨ c.k = 4)
def good (x : Int) : Bool := decide (-1099511627776 ≤ x) && decide (x ≤ 1099511627776)
def placeE (c : Cg) : Int :=
  if c.k = 1 then (if good c.p.2.1 && good c.p.2.2 then 0 else 2)
  else if c.k = 3 then (if good c.s.2.1 && good c.s.2.2 then (if c.s.2.2 < c.s.2.1 then 3 else 0) else 2) else 0
def judgeE (c : Cg) : Int := if kindC c = false ∨ idC c < 1 ∨ 2147483647 < idC c then 1 else placeE c
theorem good_any (x : Int) (w : World) :
    Calls Tryz.prog 147 #[.int .i64 x] w fun e w' => e = .returned (.bool (good x)) ∧ w = w' := by
  unfold good
  by_cases h : -1099511627776 ≤ x
  · go_enter Tryz.func147, Tryz.ntmps147
    go_wp2_with fail
    go_ret
    exact ⟨by simp [h], rfl⟩
  · rw [decide_eq_false h]
    go_enter Tryz.func147, Tryz.ntmps147
    go_wp2_with fail
    go_ret
    exact ⟨by simp, rfl⟩
theorem good_is (x : Int) (w : World) (v : Bool) (h : good x = v) :
    Calls Tryz.prog 147 #[.int .i64 x] w fun e w' => e = .returned (.bool v) ∧ w = w' := h ▸ good_any x w
theorem id_any (c : Cg) (w : World) :
    Calls Tryz.prog 144 #[cgV c] w fun e w' => e = .returned (.tuple #[.int .i64 (idC c), .bool (kindC c)]) ∧ Same w w' := by
  obtain ⟨k, ⟨pi, px, py⟩, ⟨si, lo, hi⟩⟩ := c
  unfold cgV idC kindC
  have hs : Same w (w.alloc (.cells #[.int .i64 k, .int .i64 pi, .int .i64 px, .int .i64 py, .int .i64 si, .int .i64 lo, .int .i64 hi] 29)) := (Chg.refl _ w).alloc _
  have Hs := hide hs
  clear hs
  by_cases h1 : k = 1
  · subst h1
    go_enter Tryz.func144, Tryz.ntmps144
    go_wp2_with fail
    go_ret2
    exact ⟨by simp, Hs.out⟩
  · by_cases h2 : k = 2
    · subst h2
      go_enter Tryz.func144, Tryz.ntmps144
      go_wp2_with fail
      go_ret2
      exact ⟨by simp, Hs.out⟩
    · by_cases h3 : k = 3
      · subst h3
        go_enter Tryz.func144, Tryz.ntmps144
        go_wp2_with fail
        go_ret2
        exact ⟨by simp, Hs.out⟩
      · by_cases h4 : k = 4
        · subst h4
          go_enter Tryz.func144, Tryz.ntmps144
          go_wp2_with fail
          go_ret2
          exact ⟨by simp, Hs.out⟩
        · go_enter Tryz.func144, Tryz.ntmps144
          go_wp2_with fail
          go_ret2
          exact ⟨by simp, Hs.out⟩
def addsC (c : Cg) : Bool := decide (c.k = 1 ∨ c.k = 3)
theorem adds_any (c : Cg) (w : World) :
    Calls Tryz.prog 119 #[cgV c] w fun e w' => e = .returned (.bool (addsC c)) ∧ Same w w' := by
  obtain ⟨k, ⟨pi, px, py⟩, ⟨si, lo, hi⟩⟩ := c
  unfold cgV addsC
  have hs : Same w (w.alloc (.cells #[.int .i64 k, .int .i64 pi, .int .i64 px, .int .i64 py, .int .i64 si, .int .i64 lo, .int .i64 hi] 29)) := (Chg.refl _ w).alloc _
  have Hs := hide hs
  clear hs
  by_cases h1 : k = 1
  · subst h1
    go_enter Tryz.func119, Tryz.ntmps119
    go_wp2_with fail
    go_ret
    exact ⟨by simp, Hs.out⟩
  · go_enter Tryz.func119, Tryz.ntmps119
    go_wp2_with fail
    go_ret
    have hb : (k == 1) = false := by simpa using h1
    exact ⟨by simp [h1]; rw [hb]; rfl, Hs.out⟩
theorem places_any (c : Cg) (w : World) :
    Calls Tryz.prog 145 #[cgV c] w fun e w' => e = .returned (.int .i64 (placeE c)) ∧ Same w w' := by
  obtain ⟨k, ⟨pi, px, py⟩, ⟨si, lo, hi⟩⟩ := c
  unfold cgV placeE
  have hs : Same w (w.alloc (.cells #[.int .i64 k, .int .i64 pi, .int .i64 px, .int .i64 py, .int .i64 si, .int .i64 lo, .int .i64 hi] 29)) := (Chg.refl _ w).alloc _
  have Hs := hide hs
  clear hs
  have HG := hide good_is
  by_cases h1 : k = 1
  · subst h1
    simp only [if_true]
    cases hx : good px
    · go_enter Tryz.func145, Tryz.ntmps145
      go_wp2_with ((go_at_call 147; refine (HG.out px _ _ hx).mono ?_; rintro e w1 ⟨rfl, hww⟩; subst hww))
      go_ret
      exact ⟨by simp, Hs.out⟩
    · cases hy : good py
      · go_enter Tryz.func145, Tryz.ntmps145
        go_wp2_with (first
          | (go_at_call_of 147 (Value.int IntKind.i64 px); refine (HG.out px _ _ hx).mono ?_; rintro e w1 ⟨rfl, hww⟩; subst hww)
          | (go_at_call_of 147 (Value.int IntKind.i64 py); refine (HG.out py _ _ hy).mono ?_; rintro e w1 ⟨rfl, hww⟩; subst hww))
        go_ret
        exact ⟨by simp, Hs.out⟩
      · go_enter Tryz.func145, Tryz.ntmps145
        go_wp2_with (first
          | (go_at_call_of 147 (Value.int IntKind.i64 px); refine (HG.out px _ _ hx).mono ?_; rintro e w1 ⟨rfl, hww⟩; subst hww)
          | (go_at_call_of 147 (Value.int IntKind.i64 py); refine (HG.out py _ _ hy).mono ?_; rintro e w1 ⟨rfl, hww⟩; subst hww))
        go_ret
        exact ⟨by simp, Hs.out⟩
  · by_cases h3 : k = 3
    · subst h3
      rw [if_neg (by decide : ¬ (3 : Int) = 1)]
      simp only [if_true]
      cases hx : good lo
      · go_enter Tryz.func145, Tryz.ntmps145
        go_wp2_with ((go_at_call 147; refine (HG.out lo _ _ hx).mono ?_; rintro e w1 ⟨rfl, hww⟩; subst hww))
        go_ret
        exact ⟨by simp, Hs.out⟩
      · cases hy : good hi
        · go_enter Tryz.func145, Tryz.ntmps145
          go_wp2_with (first
            | (go_at_call_of 147 (Value.int IntKind.i64 lo); refine (HG.out lo _ _ hx).mono ?_; rintro e w1 ⟨rfl, hww⟩; subst hww)
            | (go_at_call_of 147 (Value.int IntKind.i64 hi); refine (HG.out hi _ _ hy).mono ?_; rintro e w1 ⟨rfl, hww⟩; subst hww))
          go_ret
          exact ⟨by simp, Hs.out⟩
        · by_cases hl : hi < lo
          · go_enter Tryz.func145, Tryz.ntmps145
            go_wp2_with (first
              | (go_at_call_of 147 (Value.int IntKind.i64 lo); refine (HG.out lo _ _ hx).mono ?_; rintro e w1 ⟨rfl, hww⟩; subst hww)
              | (go_at_call_of 147 (Value.int IntKind.i64 hi); refine (HG.out hi _ _ hy).mono ?_; rintro e w1 ⟨rfl, hww⟩; subst hww))
            go_ret
            exact ⟨by simp, Hs.out⟩
          · go_enter Tryz.func145, Tryz.ntmps145
            go_wp2_with (first
              | (go_at_call_of 147 (Value.int IntKind.i64 lo); refine (HG.out lo _ _ hx).mono ?_; rintro e w1 ⟨rfl, hww⟩; subst hww)
              | (go_at_call_of 147 (Value.int IntKind.i64 hi); refine (HG.out hi _ _ hy).mono ?_; rintro e w1 ⟨rfl, hww⟩; subst hww))
            go_ret
            exact ⟨by simp, Hs.out⟩
    · go_enter Tryz.func145, Tryz.ntmps145
      go_wp2_with fail
      go_ret
      exact ⟨by simp, Hs.out⟩
theorem judgeE_bad {c : Cg} (h : kindC c = false ∨ idC c < 1 ∨ 2147483647 < idC c) : judgeE c = 1 := if_pos h
theorem judgeE_ok {c : Cg} (h : ¬ (kindC c = false ∨ idC c < 1 ∨ 2147483647 < idC c)) : judgeE c = placeE c := if_neg h
theorem judge_any (c : Cg) (w : World) :
    Calls Tryz.prog 117 #[cgV c] w fun e w' => e = .returned (.int .i64 (judgeE c)) ∧ Same w w' := by
  have HI := hide (id_any c)
  have HP := hide (places_any c)
  have HB := hide (judgeE_bad (c := c))
  have HO := hide (judgeE_ok (c := c))
  generalize judgeE c = j at *
  generalize placeE c = pl at *
  generalize idC c = i at *
  generalize kindC c = kk at *
  obtain ⟨k, ⟨pi, px, py⟩, ⟨si, lo, hi⟩⟩ := c
  unfold cgV at *
  have hs : Same w (w.alloc (.cells #[.int .i64 k, .int .i64 pi, .int .i64 px, .int .i64 py, .int .i64 si, .int .i64 lo, .int .i64 hi] 29)) := (Chg.refl _ w).alloc _
  have hb := Blk.new w 29 #[.int .i64 k, .int .i64 pi, .int .i64 px, .int .i64 py, .int .i64 si, .int .i64 lo, .int .i64 hi]
  have Hs := hide hs
  have Hb := hide hb
  clear hs hb
  cases kk
  · have hj := HB.out (.inl rfl)
    subst hj
    go_enter Tryz.func117, Tryz.ntmps117
    go_wp2_with ((go_at_call 144; refine (HI.out _).mono ?_; rintro e w1 ⟨rfl, hs1⟩; have Hs1 := hide (Hs.out.trans hs1); clear hs1))
    go_ret
    exact ⟨rfl, Hs1.out⟩
  · by_cases h1 : i < 1
    · have hj := HB.out (.inr (.inl h1))
      subst hj
      go_enter Tryz.func117, Tryz.ntmps117
      go_wp2_with ((go_at_call 144; refine (HI.out _).mono ?_; rintro e w1 ⟨rfl, hs1⟩; have Hs1 := hide (Hs.out.trans hs1); clear hs1))
      go_ret
      exact ⟨rfl, Hs1.out⟩
    · by_cases h2 : 2147483647 < i
      · have hj := HB.out (.inr (.inr h2))
        subst hj
        go_enter Tryz.func117, Tryz.ntmps117
        go_wp2_with ((go_at_call 144; refine (HI.out _).mono ?_; rintro e w1 ⟨rfl, hs1⟩; have Hs1 := hide (Hs.out.trans hs1); clear hs1))
        go_ret
        exact ⟨rfl, Hs1.out⟩
      · have hj := HO.out (by simp [h1, h2])
        subst hj
        go_enter Tryz.func117, Tryz.ntmps117
        go_wp2_with (first
          | (go_at_call 144; refine (HI.out _).mono ?_; rintro e w1 ⟨rfl, hs1⟩; have hk1 := (Hb.out.same hs1).cell; have Hs1 := hide (Hs.out.trans hs1); clear hs1)
          | (go_at_call 145; refine (HP.out _).mono ?_; rintro e w2 ⟨rfl, hs2⟩; have Hs2 := hide (Hs1.out.trans hs2); clear hs2))
        go_ret
        exact ⟨rfl, Hs2.out⟩
end Go.Proofs.YtlimpepdelpogaaGreatDoor
/-! TbB -/
namespace Go.Proofs.YtlimpepdelpogaaGreatDoor
open Go.RowKit Go.Al
set_option linter.unusedVariables false
set_option maxHeartbeats 1000000
set_option maxRecDepth 100000
theorem zeroP (w : World) : (zeroValue 25).run Tryz.prog w = .ok (agg3 (0, 0, 0)) w := by kernel_rfl
theorem zeroS (w : World) : (zeroValue 27).run Tryz.prog w = .ok (agg3 (0, 0, 0)) w := by kernel_rfl
abbrev MapI (w : World) (b : Nat) (l : List P3) : Prop := MapAt Tryz.prog 3 w b l
/-- a table: its block, the two maps' blocks, how many may be, the points and the intervals by rising ids -/
structure Tab (w : World) (g pm sm : Nat) (most : Int) (p s : List P3) : Prop where
  blk : Blk w g 88 #[.map (some pm), .map (some sm), .int .i64 most]
  mp : MapI w pm p
  ms : MapI w sm s
  ne : pm ≠ sm
  gp : g ≠ pm
  gs : g ≠ sm
  room : (p.length : Int) + (s.length : Int) ≤ most
  bound : most ≤ 1048576
theorem Tab.chg {S : Nat → Prop} {w w' : World} {g pm sm : Nat} {most : Int} {p s : List P3} (h : Tab w g pm sm most p s) (hc : Chg S w w') (h1 : ¬ S g) (h2 : ¬ S pm) (h3 : ¬ S sm) : Tab w' g pm sm most p s :=
  ⟨h.blk.chg hc h1, h.mp.chg hc h2, h.ms.chg hc h3, h.ne, h.gp, h.gs, h.room, h.bound⟩
theorem Tab.same {w w' : World} {g pm sm : Nat} {most : Int} {p s : List P3} (h : Tab w g pm sm most p s) (hc : Same w w') : Tab w' g pm sm most p s :=
  h.chg hc (fun h => h) (fun h => h) fun h => h
theorem tnew_any (most : Int) (w : World) (h1 : 1 ≤ most) (h2 : most ≤ 1048576) :
    Calls Tryz.prog 12 #[.int .i64 most] w fun e w' => ∃ g pm sm, e = .returned (.tuple #[.pointer (some ⟨g, 0, none⟩), .int .i64 0]) ∧ Same w w' ∧ Tab w' g pm sm most [] [] ∧ w.heap.size ≤ g ∧ w.heap.size ≤ pm ∧ w.heap.size ≤ sm := by
  have hmm := @run_makeMap Tryz.prog
  go_enter Tryz.func12, Tryz.ntmps12
  go_wp2_with fail
  go_ret2
  have s1 : Same w (w.alloc (.map #[] 0)) := (Chg.refl _ w).alloc _
  have s2 : Same w ((w.alloc (.map #[] 0)).alloc (.map #[] 0)) := s1.alloc _
  have s3 : Same w (((w.alloc (.map #[] 0)).alloc (.map #[] 0)).alloc (.cells #[.map (some w.heap.size), .map (some (w.heap.size + 1)), .int .i64 most] 88)) := s2.alloc _
  have m1 := MapAt.made Tryz.prog 3 w
  have m2 := MapAt.made Tryz.prog 3 (w.alloc (.map #[] 0))
  have s23 : Same (w.alloc (.map #[] 0)) (((w.alloc (.map #[] 0)).alloc (.map #[] 0)).alloc (.cells #[.map (some w.heap.size), .map (some (w.heap.size + 1)), .int .i64 most] 88)) := ((Chg.refl _ _).alloc _).alloc _
  have s33 : Same ((w.alloc (.map #[] 0)).alloc (.map #[] 0)) (((w.alloc (.map #[] 0)).alloc (.map #[] 0)).alloc (.cells #[.map (some w.heap.size), .map (some (w.heap.size + 1)), .int .i64 most] 88)) := (Chg.refl _ _).alloc _
  have e1 : (w.alloc (.map #[] 0)).heap.size = w.heap.size + 1 := by simp
  have e2 : ((w.alloc (.map #[] 0)).alloc (.map #[] 0)).heap.size = w.heap.size + 1 + 1 := by simp
  have hb := Blk.new ((w.alloc (.map #[] 0)).alloc (.map #[] 0)) 88 #[.map (some w.heap.size), .map (some (w.heap.size + 1)), .int .i64 most]
  rw [e2] at hb
  rw [e1] at m2
  exact ⟨w.heap.size + 1 + 1, w.heap.size, w.heap.size + 1, rfl, s3, ⟨hb, m1.same s23, m2.same s33, by omega, by omega, by omega, by simp; omega, h2⟩, by omega, by omega, by omega⟩
theorem size_any {g pm sm : Nat} {most : Int} {p s : List P3} (w : World) (h : Tab w g pm sm most p s) :
    Calls Tryz.prog 30 #[.pointer (some ⟨g, 0, none⟩)] w fun e w' => e = .returned (.int .i64 ((p.length : Int) + (s.length : Int))) ∧ Same w w' := by
  have hk := h.blk.cell
  have hl1 : ∀ k, (Builtin.len_ #[85] 3 #[.map (some pm)]).run Tryz.prog (w.drewN k) = .ok (.int .i64 p.length) (w.drewN k) := fun k => (h.mp.same (Same.of_drewN w k)).len Tryz.underlying85 _
  have hl2 : ∀ k, (Builtin.len_ #[86] 3 #[.map (some sm)]).run Tryz.prog (w.drewN k) = .ok (.int .i64 s.length) (w.drewN k) := fun k => (h.ms.same (Same.of_drewN w k)).len Tryz.underlying86 _
  have hr := h.room
  have hb := h.bound
  have hw : IntKind.i64.wrap ((p.length : Int) + (s.length : Int)) = (p.length : Int) + (s.length : Int) := IntWalk.i64_in _ (by omega)
  generalize p.length = a at *
  generalize s.length = b at *
  clear h hr hb
  go_enter Tryz.func30, Tryz.ntmps30
  go_wp2_with fail
  go_quiet (fail)
  go_wp2_with fail
  go_ret
  exact ⟨by simp, Same.of_drewN _ _⟩
def isC (p s : List P3) (c : Cg) : Bool := if c.k = 1 ∨ c.k = 2 then hasK p (idC c) else hasK s (idC c)
def WfC (c : Cg) : Prop := (Lit.int .i64 c.p.1).wf = true ∧ (Lit.int .i64 c.s.1).wf = true
theorem WfC.id {c : Cg} (h : WfC c) : (Lit.int .i64 (idC c)).wf = true := by
  unfold idC
  split
  · exact h.1
  · split
    · exact h.2
    · rfl
theorem is_any {g pm sm : Nat} {most : Int} {p s : List P3} (c : Cg) (w : World) (h : Tab w g pm sm most p s) (hw : WfC c) :
    Calls Tryz.prog 118 #[.pointer (some ⟨g, 0, none⟩), cgV c] w fun e w' => e = .returned (.bool (isC p s c)) ∧ Same w w' := by
  have HI := hide (id_any c)
  have H := hide h
  have Hw := hide hw.id
  unfold isC
  have hbg := h.blk.lt
  generalize idC c = i at *
  generalize kindC c = kk at *
  clear h hw
  obtain ⟨k, ⟨pi, px, py⟩, ⟨si, lo, hi⟩⟩ := c
  unfold cgV at *
  have hs : Same w (w.alloc (.cells #[.int .i64 k, .int .i64 pi, .int .i64 px, .int .i64 py, .int .i64 si, .int .i64 lo, .int .i64 hi] 29)) := (Chg.refl _ w).alloc _
  have hb := Blk.new w 29 #[.int .i64 k, .int .i64 pi, .int .i64 px, .int .i64 py, .int .i64 si, .int .i64 lo, .int .i64 hi]
  have Hs := hide hs
  have Hb := hide hb
  clear hs hb
  by_cases h1 : k = 1
  · subst h1
    go_enter Tryz.func118, Tryz.ntmps118
    go_wp2_with (first
      | (go_at_call 144; refine (HI.out _).mono ?_; rintro e w1 ⟨rfl, hs1⟩; have hk1 := (Hb.out.same hs1).cell; have bb1 := (Hb.out.same hs1).lt; have hs2 := Hs.out.trans hs1; have hk2 := (H.out.same hs2).blk.cell; have bg2 := (H.out.same hs2).blk.lt; have Hs1 := hide hs2; clear hs1 hs2)
      | (at_lookup; refine wpList_look3 _ rfl _ _ 85 rfl Tryz.underlying3 Tryz.underlying85 (zeroP _) rfl rfl Hw.out (H.out.mp.same Hs1.out) ?_; generalize (find3 p i).getD (0, 0, 0) = v1; generalize hb1 : hasK p i = b1 at *; obtain ⟨x1, x2, x3⟩ := v1; unfold agg3)
      | (at_lookup; refine wpList_look3 _ rfl _ _ 86 rfl Tryz.underlying3 Tryz.underlying86 (zeroS _) rfl rfl Hw.out (H.out.ms.same (Chg.alloc Hs1.out _)) ?_; generalize (find3 s i).getD (0, 0, 0) = v2; generalize hb2 : hasK s i = b2 at *; obtain ⟨y1, y2, y3⟩ := v2; unfold agg3))
    go_ret
    exact ⟨by simp [*], ((Hs1.out.alloc _).alloc _)⟩
  · by_cases h2 : k = 2
    · subst h2
      go_enter Tryz.func118, Tryz.ntmps118
      go_wp2_with (first
        | (go_at_call 144; refine (HI.out _).mono ?_; rintro e w1 ⟨rfl, hs1⟩; have hk1 := (Hb.out.same hs1).cell; have bb1 := (Hb.out.same hs1).lt; have hs2 := Hs.out.trans hs1; have hk2 := (H.out.same hs2).blk.cell; have bg2 := (H.out.same hs2).blk.lt; have Hs1 := hide hs2; clear hs1 hs2)
        | (at_lookup; refine wpList_look3 _ rfl _ _ 85 rfl Tryz.underlying3 Tryz.underlying85 (zeroP _) rfl rfl Hw.out (H.out.mp.same Hs1.out) ?_; generalize (find3 p i).getD (0, 0, 0) = v1; generalize hb1 : hasK p i = b1 at *; obtain ⟨x1, x2, x3⟩ := v1; unfold agg3)
        | (at_lookup; refine wpList_look3 _ rfl _ _ 86 rfl Tryz.underlying3 Tryz.underlying86 (zeroS _) rfl rfl Hw.out (H.out.ms.same (Chg.alloc Hs1.out _)) ?_; generalize (find3 s i).getD (0, 0, 0) = v2; generalize hb2 : hasK s i = b2 at *; obtain ⟨y1, y2, y3⟩ := v2; unfold agg3))
      go_ret
      exact ⟨by simp [*], ((Hs1.out.alloc _).alloc _)⟩
    · have e1 : (k == 1) = false := by simpa using h1
      have e2 : (k == 2) = false := by simpa using h2
      go_enter Tryz.func118, Tryz.ntmps118
      go_wp2_with (first
        | (go_at_call 144; refine (HI.out _).mono ?_; rintro e w1 ⟨rfl, hs1⟩; have hk1 := (Hb.out.same hs1).cell; have bb1 := (Hb.out.same hs1).lt; have hs2 := Hs.out.trans hs1; have hk2 := (H.out.same hs2).blk.cell; have bg2 := (H.out.same hs2).blk.lt; have Hs1 := hide hs2; clear hs1 hs2)
        | (at_lookup; refine wpList_look3 _ rfl _ _ 85 rfl Tryz.underlying3 Tryz.underlying85 (zeroP _) rfl rfl Hw.out (H.out.mp.same Hs1.out) ?_; generalize (find3 p i).getD (0, 0, 0) = v1; generalize hb1 : hasK p i = b1 at *; obtain ⟨x1, x2, x3⟩ := v1; unfold agg3)
        | (at_lookup; refine wpList_look3 _ rfl _ _ 86 rfl Tryz.underlying3 Tryz.underlying86 (zeroS _) rfl rfl Hw.out (H.out.ms.same (Chg.alloc Hs1.out _)) ?_; generalize (find3 s i).getD (0, 0, 0) = v2; generalize hb2 : hasK s i = b2 at *; obtain ⟨y1, y2, y3⟩ := v2; unfold agg3))
      go_ret
      exact ⟨by simp [*], ((Hs1.out.alloc _).alloc _)⟩
end Go.Proofs.YtlimpepdelpogaaGreatDoor
