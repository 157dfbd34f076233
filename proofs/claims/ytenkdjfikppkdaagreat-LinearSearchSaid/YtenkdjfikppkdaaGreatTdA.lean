/-
  Library calls at this program's own types: maps.Clone, cmp.Compare, slices.SortFunc over triples by their first number. Condition: fewer than 2^60 elements.
-/
import Derived.Test.YtenkdjfikppkdaaGreatTcE
import Derived.Test.YtenkdjfikppkdaaGreatLay
import Derived.Shelf.SlSortCmp.NoneTotal
namespace Go.Proofs.YtenkdjfikppkdaaGreat
open Go.RowKit Go.Al
set_option linter.unusedVariables false

theorem cloneP_any {w : World} {b : Nat} {l : List P3} (h : MapI w b l) :
    Calls Tryz.prog 56 #[.map (some b)] w fun e w' => e = .returned (.map (some w.heap.size)) ∧ MapI w' w.heap.size l ∧ Same w w' := by
  obtain ⟨⟨es, clock, hb, F, hs, hD⟩, srt⟩ := h
  have hcon := Go.Proofs.AnyW.maps_Clone cloneP b es clock w hb
  change Calls Tryz.prog 56 _ _ _ at hcon
  refine hcon.mono ?_
  rintro e w' ⟨he, rfl⟩
  exact ⟨he, ⟨⟨es, clock, (MapKept.heap_alloc w _).1, F, hs, hD⟩, srt⟩, (Chg.refl _ w).alloc _⟩
theorem cloneS_any {w : World} {b : Nat} {l : List P3} (h : MapI w b l) :
    Calls Tryz.prog 57 #[.map (some b)] w fun e w' => e = .returned (.map (some w.heap.size)) ∧ MapI w' w.heap.size l ∧ Same w w' := by
  obtain ⟨⟨es, clock, hb, F, hs, hD⟩, srt⟩ := h
  have hcon := Go.Proofs.AnyW.maps_Clone cloneS b es clock w hb
  change Calls Tryz.prog 57 _ _ _ at hcon
  refine hcon.mono ?_
  rintro e w' ⟨he, rfl⟩
  exact ⟨he, ⟨⟨es, clock, (MapKept.heap_alloc w _).1, F, hs, hD⟩, srt⟩, (Chg.refl _ w).alloc _⟩

set_option maxRecDepth 100000 in
set_option maxHeartbeats 2000000 in
theorem clone_any {g pm sm : Nat} {most : Int} {p s : List P3} (w : World) (h : Tab w g pm sm most p s) :
    Calls Tryz.prog 45 #[.pointer (some ⟨g, 0, none⟩)] w fun e w' => ∃ g2, e = .returned (.pointer (some ⟨g2, 0, none⟩)) ∧ ∃ pm2 sm2, Tab w' g2 pm2 sm2 most p s ∧ Same w w' ∧ w.heap.size ≤ g2 ∧ w.heap.size ≤ pm2 ∧ w.heap.size ≤ sm2 := by
  have H := hide h
  have HK : Hid (∀ w', Same w w' → w'.cell? ⟨g, 0, none⟩ = some (.map (some pm)) ∧ w'.cell? ⟨g, 1, none⟩ = some (.map (some sm)) ∧ w'.cell? ⟨g, 2, none⟩ = some (.int .i64 most)) :=
    hide fun w' hs => have hk := (h.same hs).blk.cell; ⟨hk 0, hk 1, hk 2⟩
  have hkt := h.blk.cell
  clear h
  go_enter Tryz.func45, Tryz.ntmps45
  go_wp2_with fail
  go_region_held3 (fun w' => w'.cell? ⟨g, 0, none⟩ = some (.map (some pm)) ∧ w'.cell? ⟨g, 1, none⟩ = some (.map (some sm)) ∧ w'.cell? ⟨g, 2, none⟩ = some (.int .i64 most)) (first | exact HK.out _ (Chg.drew (Chg.refl _ _)) | exact HK.out _ Hs1.out | exact HK.out _ Hs2.out | exact HK.out _ (Chg.alloc Hs2.out _))
    (first
      | (go_at_call 56; refine (cloneP_any (H.out.mp.same (Chg.drew (Chg.refl _ _)))).mono ?_; rintro e w1 ⟨rfl, hm1, hs1⟩; have Hm1 := hide hm1; have Hs1 : Hid (Same w w1) := hide (Chg.undrew hs1); clear hm1 hs1)
      | (go_at_call 57; refine (cloneS_any (H.out.ms.same Hs1.out)).mono ?_; rintro e w2 ⟨rfl, hm2, hs2⟩; have Hm2 := hide hm2; have Hs2 : Hid (Same w w2) := hide (Same.trans Hs1.out hs2); have Hm12 := hide (Hm1.out.same hs2); clear hm2 hs2))
  go_wp2_with fail
  go_ret
  have z1 := Hm1.out.lt
  have z2 := Hm2.out.lt
  have zs1 := Hs1.out.size
  have zs2 := Hs2.out.size
  have z0 : w.drew.heap.size = w.heap.size := rfl
  have al : Same w2 (w2.alloc (.cells #[.map (some w.heap.size), .map (some w1.heap.size), .int .i64 most] 90)) := (Chg.refl _ w2).alloc _
  exact ⟨w2.heap.size, rfl, w.heap.size, w1.heap.size, ⟨Blk.new w2 _ _, Hm12.out.same al, Hm2.out.same al, by omega, by omega, by omega, H.out.room, H.out.bound⟩, Same.trans Hs2.out al, by omega, by omega, by omega⟩
end Go.Proofs.YtenkdjfikppkdaaGreat
