/- The engine, whole. -/
import Derived.Test.YtgnenipkebelfaaDoorEngR
