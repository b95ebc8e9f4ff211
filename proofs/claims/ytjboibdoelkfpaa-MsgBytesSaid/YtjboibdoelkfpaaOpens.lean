/- What a law's argument reads as, in the words of the printed contracts: whatever can be read as data of a type is a value of that type's kind, each string and each slice within the reach. -/
import Derived.Test.YtjboibdoelkfpaaWWords
import Derived.SizedLaws
import Derived.ChangeArms
import Derived.ChangeSlices
import Derived.Deep.Slices
import Derived.OpenShut
namespace Go.Proofs.Ytjboibdoelkfpaa.Open
open Go.RowKit Go.Proofs.YtjboibdoelkfpaaW.PrintWords

def Opens {α : Type} (P : Program) (t : TypeId) (d : Kd α) (ok : α → Prop) : Prop :=
  ∀ {H : Type} (enc : TypeId × Value → H) (w : World) (base : Nat) (spare : Nat → Bool) (held : Bool) (fuel : Nat) (cs : List Value) (x : DataW H × List MemPlace),
    DataW.trod enc P w base spare held fuel t cs = some x → (∀ n ∈ x.1.weights P t, n ≤ reachBytes) → ∃ a : α, d.K w a cs ∧ ok a

def OpensFs {α : Type} (P : Program) (fs : List Field) (off : Nat) (d : Kd α) (ok : α → Prop) : Prop :=
  ∀ {H : Type} (enc : TypeId × Value → H) (w : World) (base : Nat) (spare : Nat → Bool) (held : Bool) (n : Nat) (cs : List Value) (xs : List (DataW H × List MemPlace)),
    xs.length = fs.length → (∀ (i : Nat) (f : Field), fs[i]? = some f → DataW.trod enc P w base spare held n f.type ((cs.drop f.offset).take (P.cellsOf f.type)) = xs[i]?) →
    (∀ m ∈ DataW.weightsEach P (fs.map (·.type)) (xs.map (·.1)), m ≤ reachBytes) → ∃ a : α, d.K w a ((cs.drop off).take d.sz) ∧ ok a

variable {P : Program}

theorem opens_int {t : TypeId} {k : IntKind} (ht : P.underlying t = some (.int k)) : Opens P t (Kd.int k) (fun a => (Lit.int k a).wf = true) := by
  intro H enc w base spare held fuel cs x h _
  obtain ⟨n, rfl, rfl, hw⟩ := DataW.trod_int ht h
  exact ⟨n, rfl, hw⟩

theorem opens_i64 {t : TypeId} (ht : P.underlying t = some (.int .i64)) : Opens P t (Kd.int .i64) (fun a => -9223372036854775808 ≤ a ∧ a ≤ 9223372036854775807) := by
  intro H enc w base spare held fuel cs x h hw
  obtain ⟨a, ha, hk⟩ := opens_int ht enc w base spare held fuel cs x h hw
  exact ⟨a, ha, bounds_i64 hk⟩
theorem opens_u32 {t : TypeId} (ht : P.underlying t = some (.int .u32)) : Opens P t (Kd.int .u32) (fun a => 0 ≤ a ∧ a ≤ 4294967295) := by
  intro H enc w base spare held fuel cs x h hw
  obtain ⟨a, ha, hk⟩ := opens_int ht enc w base spare held fuel cs x h hw
  exact ⟨a, ha, bounds_u32 hk⟩

theorem opens_string {t : TypeId} (ht : P.underlying t = some .string) : Opens P t Kd.string (fun a => a.size ≤ 140737488351232) := by
  intro H enc w base spare held fuel cs x h hw
  obtain ⟨s, rfl, rfl, _⟩ := DataW.trod_string ht h
  refine ⟨s, rfl, ?_⟩
  have := hw s.data.toList.length (by simp [DataW.weights])
  simpa [reachBytes] using this

theorem list_of_forall {α : Type} : ∀ (n : Nat) (p : Nat → α → Prop), (∀ i, i < n → ∃ x, p i x) → ∃ xs : List α, xs.length = n ∧ ∀ i a, xs[i]? = some a → p i a
  | 0, _, _ => ⟨[], rfl, fun i a h => by simp at h⟩
  | n + 1, p, h => by
    obtain ⟨xs, hl, hx⟩ := list_of_forall n p (fun i hi => h i (by omega))
    obtain ⟨y, hy⟩ := h n (by omega)
    refine ⟨xs ++ [y], by simp [hl], fun i a ha => ?_⟩
    by_cases hi : i < xs.length
    · rw [List.getElem?_append_left hi] at ha
      exact hx i a ha
    · rw [List.getElem?_append_right (by omega)] at ha
      have h0 : i - xs.length = 0 := by
        rcases Nat.eq_zero_or_pos (i - xs.length) with h0 | h0
        · exact h0
        · rw [List.getElem?_eq_none (by simp; omega)] at ha
          cases ha
      rw [h0] at ha
      simp at ha
      subst ha
      have : i = n := by omega
      subst this
      exact hy

theorem weights_mem_all {H : Type} {e : TypeId} : ∀ {ds : List (DataW H)} {i : Nat} {d : DataW H}, ds[i]? = some d → ∀ n ∈ d.weights P e, n ∈ DataW.weightsAll P e ds
  | d0 :: ds, 0, d, hd, n, hn => by
    simp only [List.getElem?_cons_zero, Option.some.injEq] at hd
    subst hd
    simp only [DataW.weightsAll, List.mem_append]
    exact Or.inl hn
  | d0 :: ds, i + 1, d, hd, n, hn => by
    simp only [List.getElem?_cons_succ] at hd
    simp only [DataW.weightsAll, List.mem_append]
    exact Or.inr (weights_mem_all hd n hn)
  | [], _, _, hd, _, _ => by simp at hd

theorem mapM_get {α β : Type} {f : α → Option β} : ∀ {l : List α} {r : List β}, l.mapM f = some r → r.length = l.length ∧ ∀ (i : Nat) (a : α), l[i]? = some a → f a = r[i]? := by
  intro l
  induction l with
  | nil =>
    intro r h
    simp at h
    subst h
    exact ⟨rfl, fun i a ha => by simp at ha⟩
  | cons a l ih =>
    intro r h
    rw [List.mapM_cons] at h
    simp only [Option.bind_eq_bind, Option.bind_eq_some_iff] at h
    obtain ⟨b, hb, r', hr', he⟩ := h
    simp at he
    subst he
    obtain ⟨h1, h2⟩ := ih hr'
    refine ⟨by simp [h1], fun i c hc => ?_⟩
    cases i with
    | zero =>
      simp at hc
      subst hc
      simpa using hb
    | succ i =>
      simp at hc ⊢
      exact h2 i c hc

theorem opens_slice {α : Type} {t e : TypeId} {d : Kd α} {ok : α → Prop} {B : Nat} (ht : P.underlying t = some (.slice e)) (h : Opens P e d ok) (hs : P.cellsOf e = d.sz) (hB : P.bytesOf e = B) :
    Opens P t (Kd.slice e d) (fun xs => xs.length * B ≤ 140737488351232 ∧ xs.length ≤ 9223372036854775807 ∧ ∀ x ∈ xs, ok x) := by
  intro H enc w base spare held fuel cs x hx hw
  rcases DataW.trod_slice ht hx with ⟨rfl, rfl⟩ | ⟨a, len, cap, elems, rest, n, rfl, rfl, rfl, hb, hl, hc, hel, hrd, _, _⟩
  · exact ⟨[], ⟨none, 0, rfl, by simp, Kd.C_nil d w⟩, by simp, by simp, by simp⟩
  · have hcap : cap ≤ 9223372036854775807 := by simpa only [maxLen] using hc
    have hall : ∀ i, i < len → ∃ y : α, ∃ cs', w.cells? base (a.add (i * P.cellsOf e)) (P.cellsOf e) = some cs' ∧ d.K w y cs' ∧ ok y := by
      intro i hi
      have hq := hrd i hi
      have hlt : i < elems.length := by omega
      rw [List.getElem?_eq_getElem hlt] at hq
      obtain ⟨cs', h1, h2⟩ := Option.bind_eq_some_iff.1 hq
      obtain ⟨y, hy, hoky⟩ := h enc w base spare held n cs' _ h2 (fun m hm => hw m (by
        simp only [DataW.weights, ht, List.mem_cons, List.mem_append]
        exact .inr (.inl (weights_mem_all (ds := elems.map (·.1)) (i := i) (by simp [List.getElem?_eq_getElem hlt]) m hm))))
      exact ⟨y, cs', h1, hy, hoky⟩
    obtain ⟨xs, hxl, hxs⟩ := list_of_forall len _ hall
    refine ⟨xs, ⟨some a, cap, by rw [hxl], by omega, ?_⟩, ?_, by omega, ?_⟩
    · refine ⟨rfl, by omega, fun _ => ⟨a, rfl, fun j p hp => ?_⟩⟩
      obtain ⟨cs', h1, h2, _⟩ := hxs j p hp
      have hlen : cs'.length = d.sz := d.K_len h2
      refine ⟨cs', hlen, h2, fun i u hu => ?_⟩
      have hi : i < cs'.length := by
        rcases Nat.lt_or_ge i cs'.length with h | h
        · exact h
        · rw [List.getElem?_eq_none h] at hu
          cases hu
      unfold World.cells? at h1
      split at h1
      · have h3 := (mapM_get h1).2 i i (by rw [List.getElem?_range]; rw [hs]; omega)
        rw [hu, Go.Deep.add_add, hs] at h3
        exact h3
      · cases h1
    · have hz := hw ((elems.length + rest.length) * P.bytesOf e) (by simp [DataW.weights, ht])
      rw [hB] at hz
      have h1 : reachBytes = 140737488351232 := rfl
      have h2 : xs.length ≤ elems.length + rest.length := by omega
      have h3 := Nat.mul_le_mul_right B h2
      omega
    · intro x hx
      obtain ⟨i, hi⟩ := List.getElem?_of_mem hx
      obtain ⟨_, _, _, h3⟩ := hxs i x hi
      exact h3

theorem opensFs_last {α : Type} {f : Field} {off : Nat} {d : Kd α} {ok : α → Prop} (ho : f.offset = off) (hs : P.cellsOf f.type = d.sz) (h : Opens P f.type d ok) : OpensFs P [f] off d ok := by
  intro H enc w base spare held n cs xs hl hx hw
  match xs, hl with
  | [y], _ =>
    have h0 := hx 0 f rfl
    simp only [List.getElem?_cons_zero] at h0
    rw [ho, hs] at h0
    exact h enc w base spare held n _ y h0 (fun m hm => hw m (by simpa [DataW.weightsEach] using hm))

theorem opensFs_cons {α β : Type} {f : Field} {fs : List Field} {off : Nat} {da : Kd α} {db : Kd β} {oka : α → Prop} {okb : β → Prop} (ho : f.offset = off) (hs : P.cellsOf f.type = da.sz) (h : Opens P f.type da oka) (hr : OpensFs P fs (off + da.sz) db okb) :
    OpensFs P (f :: fs) off (Kd.pair da db) (fun x => oka x.1 ∧ okb x.2) := by
  intro H enc w base spare held n cs xs hl hx hw
  match xs, hl with
  | y :: ys, hl =>
    have h0 := hx 0 f rfl
    simp only [List.getElem?_cons_zero] at h0
    rw [ho, hs] at h0
    obtain ⟨a, ha, hoka⟩ := h enc w base spare held n _ y h0 (fun m hm => hw m (by simp [DataW.weightsEach]; exact .inl hm))
    obtain ⟨b, hb, hokb⟩ := hr enc w base spare held n cs ys (by simpa using hl) (fun i g hg => by simpa using hx (i + 1) g (by simpa using hg)) (fun m hm => hw m (by simp [DataW.weightsEach]; exact .inr (by simpa using hm)))
    refine ⟨(a, b), ⟨_, _, ?_, ha, hb⟩, hoka, hokb⟩
    show (cs.drop off).take (da.sz + db.sz) = _
    rw [List.take_add, List.drop_drop]

theorem opens_struct {α : Type} {t : TypeId} {fs : Array Field} {d : Kd α} {ok : α → Prop} (ht : P.underlying t = some (.struct fs)) (hs : P.cellsOf t = d.sz) (h : OpensFs P fs.toList 0 d ok) : Opens P t d ok := by
  intro H enc w base spare held fuel cs x hx hw
  obtain ⟨xs, n, rfl, rfl, hl, hn, hr⟩ := DataW.trod_struct ht hx
  obtain ⟨a, ha, hok⟩ := h enc w base spare held n cs xs (by simpa using hn) (fun i f hf => hr i f (by simpa using hf)) (fun m hm => hw m (by simpa [DataW.weights, ht] using hm))
  refine ⟨a, ?_, hok⟩
  rw [List.drop_zero, List.take_of_length_le (by omega)] at ha
  exact ha

theorem opens_iso {α β : Type} {t : TypeId} {d : Kd α} {ok : α → Prop} (f : β → α) (g : α → β) (hfg : ∀ a, f (g a) = a) (h : Opens P t d ok) : Opens P t (Kd.iso d f) (fun b => ok (f b)) := by
  intro H enc w base spare held fuel cs x hx hw
  obtain ⟨a, ha, hok⟩ := h enc w base spare held fuel cs x hx hw
  refine ⟨g a, ?_, ?_⟩
  · show d.K w (f (g a)) cs
    rw [hfg]
    exact ha
  · show ok (f (g a))
    rw [hfg]
    exact hok

theorem opens_as {α : Type} {t : TypeId} {d : Kd α} {ok ok' : α → Prop} (h : Opens P t d ok) (hok : ∀ a, ok a → ok' a) : Opens P t d ok' := by
  intro H enc w base spare held fuel cs x hx hw
  obtain ⟨a, ha, hk⟩ := h enc w base spare held fuel cs x hx hw
  exact ⟨a, ha, hok a hk⟩

theorem opens_row {α : Type} {t e : TypeId} {d : Kd α} {ok : α → Prop} {B : Nat} (ht : P.underlying t = some (.slice e)) (h : Opens P e d ok) (hs : P.cellsOf e = d.sz) (hB : P.bytesOf e = B) :
    Opens P t (Kd.slice e d) (fun xs => xs.length * B ≤ 140737488351232 ∧ ∀ x ∈ xs, ok x) :=
  opens_as (opens_slice ht h hs hB) (fun _ h => ⟨h.1, h.2.2⟩)

end Go.Proofs.Ytjboibdoelkfpaa.Open
