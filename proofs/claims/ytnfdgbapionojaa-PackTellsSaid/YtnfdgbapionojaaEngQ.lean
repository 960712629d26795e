/- The engine, whole. -/
import Derived.Test.YtnfdgbapionojaaEngR
