/- The disk: a step between. -/
import Derived.Test.YtnmjphfigffheaaDk7
import Derived.Laws.OwnMore
