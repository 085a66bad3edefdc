/- session.New, Client, walked. -/
import Derived.Test.YtgimbocoamnkjaaQue
namespace Go.Proofs.Ytgimbocoamnkjaa
open Go.RowKit

/-- A session with nothing. -/
def newS (l : List UInt8) : Sess := ⟨l, 0, 0, false, [], [], [], [], []⟩

set_option maxRecDepth 100000 in
set_option maxHeartbeats 400000 in
theorem snew_any (l : List UInt8) (w : World) (R : Ending → World → Prop)
    (hR : ∀ S M w', SR w' M S (newS l) → (∀ b, M b → w.heap.size ≤ b) → Below w.heap.size w w' → R (.returned (.pointer (some ⟨S, 0, none⟩))) w') :
    Calls Try.prog 5 #[.string (str l)] w R := by
  have HR := Lib.hid hR
  clear hR
  have ht1 : Hid True := trivial
  go_enter Try.func5, Try.ntmps5
  go_wp2_with (first
    | (have hq := ht1; go_at_call 17; go_must (refine inew_any _ _ ?_; intro NB MB w3 hs3 hn3 hm3 hb3; have HS3 := Lib.hid hs3; have HN3 := Lib.hid hn3; have HM3 := Lib.hid hm3; have HB3 := Lib.hid hb3; clear hq ht1 hs3 hn3 hm3 hb3))
    | (go_at_call 17; go_must (refine inew_any _ _ ?_; intro GB GM w5 hs5 hn5 hm5 hb5; have HS5 := Lib.hid hs5; have HN5 := Lib.hid hn5; have HM5 := Lib.hid hm5; have HB5 := Lib.hid hb5; clear hs5 hn5 hm5 hb5)))
  have hy : Below w5.heap.size w5 (w5.alloc (Obj.cells #[.pointer (some ⟨NB, 0, none⟩), .string (str (newS l).client), .int .i64 (newS l).expiry, .int .i64 (newS l).ends, .bool (newS l).online, (.slice none 0 0), (.slice none 0 0), (.slice none 0 0), .pointer (some ⟨GB, 0, none⟩)] 65)) := (Below.refl _ _).alloc (Nat.le_refl _) _
  have hsz := HB3.out.size
  have hsz5 := HB5.out.size
  have h3 := (HS3.out.below HB5.out).below hy
  have h5 := HS5.out.below hy
  have lt1 : ∀ {x : World} {b t : Nat} {fr : Nat × Nat} {cs : Array Value}, x.heap[b]? = some (.cells cs t fr) → b < x.heap.size := fun h => (Array.getElem?_eq_some_iff.1 h).1
  have l1 := lt1 HS3.out.1
  have l2 := HS3.out.2.lt
  have l3 := lt1 HS5.out.1
  have l4 := HS5.out.2.lt
  have n5 := HN5.out
  have m5 := HM5.out
  have n3 := HN3.out
  have m3 := HM3.out
  have e3 := HS3.out.ne
  have e5 := HS5.out.ne
  refine HR.out w5.heap.size (fun b => b = w5.heap.size ∨ b = MB ∨ b = GM) _ ⟨NB, MB, GB, GM, _, _, _, ⟨heap_alloc_new w5 (Obj.cells #[.pointer (some ⟨NB, 0, none⟩), .string (str (newS l).client), .int .i64 (newS l).expiry, .int .i64 (newS l).ends, .bool (newS l).online, (.slice none 0 0), (.slice none 0 0), (.slice none 0 0), .pointer (some ⟨GB, 0, none⟩)] 65), h3, h5, World.ownsRow_nil _ _ _ _, ⟨[], rfl, RowA.nil _ _ _, fun p hp => by simp at hp, fun k hk => by simp [Value.ownBlock] at hk⟩, ⟨[], rfl, World.ownsRow_nil _ _ _ _, fun p hp => by simp at hp, fun k hk => by simp [Value.ownBlock] at hk⟩, by omega, by omega, .inl rfl, .inr (.inl rfl), .inr (.inr rfl), fun k hk => by simp [Value.ownBlock] at hk, ?_, ?_, ?_⟩⟩ ?_ (below_then (below_then HB3.out HB5.out hsz) hy (by omega))
  · rintro (h | h | h) <;> omega
  · rintro (h | h | h) <;> omega
  · rintro b (h | h | h) <;> simp <;> omega
  · rintro b (h | h | h) <;> omega

set_option maxRecDepth 100000 in
theorem client_any (S : Nat) (s : Sess) (w : World) (M : Nat → Prop) (h : SR w M S s) (R : Ending → World → Prop)
    (hR : R (.returned (.string (str s.client))) w) :
    Calls Try.prog 18 #[.pointer (some ⟨S, 0, none⟩)] w R := by
  obtain ⟨NB, MB, GB, GM, sv, qv, fv, hx⟩ := h
  have HR := Lib.hid hR
  have c1 := (ss9 hx.hS).1.2.1
  clear hR hx
  go_enter Try.func18, Try.ntmps18
  go_wp2
  exact HR.out
end Go.Proofs.Ytgimbocoamnkjaa
